/- Structs of a number and a slice of numbers: the laws' helpers over them, equality of lists. -/
import Derived.IntWalk
import Derived.Handy
import Derived.Test.YtaipfcbphfjgoaaInts
namespace Go.Proofs.Ytaipfcbphfjgoaa
open Go.ChangeShapes Go.WideShapes Go.ChangeAt Go.RowKit
def RetAgg (w : World) (b : Int) (zs : List Int) (e : Ending) (w' : World) : Prop := ∃ v, e = .returned (.agg #[.int .i64 b, v]) ∧ Own w' w.heap.size v zs ∧ Below w.heap.size w w'
def RetAggI (w : World) (b : Int) (zs : List Int) (c : Int) (e : Ending) (w' : World) : Prop := ∃ v, e = .returned (.tuple #[.agg #[.int .i64 b, v], .int .i64 c]) ∧ Own w' w.heap.size v zs ∧ Below w.heap.size w w'
theorem IsRow.len_le {k : IntKind} {w : World} {a : Option Addr} {len cap : Nat} {zs : List Int} (h : IsRow k w a len cap zs) : len ≤ 9223372036854775807 := by
  rcases h with ⟨_, rfl, _, _⟩ | ⟨x, _, h1, h2, _⟩
  · omega
  · unfold maxLen at h2; omega
theorem heap_last (w : World) (o : Obj) : (w.alloc o).heap[w.heap.size]? = some o := by
  show (w.heap.push o)[w.heap.size]? = _
  simp
theorem cell_blk {w : World} {n : Nat} {c : Array Value} {t : TypeId} (h : w.heap[n]? = some (.cells c t)) (i : Nat) : w.cell? ⟨n, i, none⟩ = c[i]? := by simp [World.cell?, h]
theorem frozen_blk {w : World} {n : Nat} {c : Array Value} {t : TypeId} (h : w.heap[n]? = some (.cells c t)) (i : Nat) : w.frozen? ⟨n, i, none⟩ = false := by simp [World.frozen?, h]
theorem blk1 {w w1 : World} {A : Obj} (b : Below (w.alloc A).heap.size (w.alloc A) w1) :
    w1.heap[w.heap.size]? = some A ∧ Below w.heap.size w w1 ∧ w.heap.size + 1 ≤ w1.heap.size ∧ (w.alloc A).heap.size = w.heap.size + 1 := by
  have e : (w.alloc A).heap.size = w.heap.size + 1 := by simp
  refine ⟨?_, ?_, ?_, e⟩
  · rw [b.block _ (by omega), heap_last]
  · exact (((Below.refl _ _).alloc (Nat.le_refl _) A).trans (b.mono (by omega)))
  · have := b.size; omega
theorem blk2 {w w1 : World} {A B : Obj} (b : Below ((w.alloc A).alloc B).heap.size ((w.alloc A).alloc B) w1) :
    w1.heap[w.heap.size]? = some A ∧ w1.heap[w.heap.size + 1]? = some B ∧ Below w.heap.size w w1 ∧ w.heap.size + 1 + 1 ≤ w1.heap.size ∧ ((w.alloc A).alloc B).heap.size = w.heap.size + 1 + 1 := by
  have e : ((w.alloc A).alloc B).heap.size = w.heap.size + 1 + 1 := by simp
  refine ⟨?_, ?_, ?_, ?_, e⟩
  · rw [b.block _ (by omega), Below.heap_alloc _ _ _ (by simp), heap_last]
  · rw [b.block _ (by omega)]; have := heap_last (w.alloc A) B; simpa using this
  · exact ((((Below.refl _ _).alloc (Nat.le_refl _) A).alloc (by simp) B).trans (b.mono (by omega)))
  · have := b.size; omega
theorem blk3 {w w1 : World} {A B C : Obj} (b : Below (((w.alloc A).alloc B).alloc C).heap.size (((w.alloc A).alloc B).alloc C) w1) :
    w1.heap[w.heap.size]? = some A ∧ w1.heap[w.heap.size + 1]? = some B ∧ w1.heap[w.heap.size + 1 + 1]? = some C ∧ Below w.heap.size w w1 ∧ w.heap.size + 1 + 1 + 1 ≤ w1.heap.size ∧ (((w.alloc A).alloc B).alloc C).heap.size = w.heap.size + 1 + 1 + 1 := by
  have e : (((w.alloc A).alloc B).alloc C).heap.size = w.heap.size + 1 + 1 + 1 := by simp
  refine ⟨?_, ?_, ?_, ?_, ?_, e⟩
  · rw [b.block _ (by omega), Below.heap_alloc _ _ _ (by simp; omega), Below.heap_alloc _ _ _ (by simp), heap_last]
  · rw [b.block _ (by omega), Below.heap_alloc _ _ _ (by simp)]; have := heap_last (w.alloc A) B; simpa using this
  · rw [b.block _ (by omega)]; have := heap_last ((w.alloc A).alloc B) C; simpa using this
  · exact (((((Below.refl _ _).alloc (Nat.le_refl _) A).alloc (by simp) B).alloc (by simp; omega) C).trans (b.mono (by omega)))
  · have := b.size; omega
theorem nth_ext {xs ys : List Int} (hl : xs.length = ys.length) (h : ∀ j, j < xs.length → nth xs j = nth ys j) : xs = ys := by
  apply List.ext_getElem hl
  intro i h1 h2
  have := h i h1
  simpa [nth, List.getD, h1, h2] using this
theorem drewN_ex (w : World) (n m : Nat) : ∃ k, (w.drewN n).drewN m = w.drewN k := ⟨n + m, by unfold World.drewN; simp [Nat.add_assoc]⟩
theorem quiet_D {w : World} {f : Nat} {args : Array Value} {v : Value} {n : Nat}
    (h : Calls Try.prog f args (w.drewN n) fun e w' => e = .returned v ∧ ∃ m, w' = (w.drewN n).drewN m) : Calls Try.prog f args (w.drewN n) fun e w' => e = .returned v ∧ ∃ m, w' = w.drewN m :=
  h.mono fun e w' ⟨h1, m, h2⟩ => ⟨h1, by rw [h2]; exact drewN_ex w n m⟩
end Go.Proofs.Ytaipfcbphfjgoaa
