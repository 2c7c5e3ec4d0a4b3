/- Growing a slice of structs of whole numbers: append of a literal row of such structs. -/
import Derived.IntWalk
import Derived.Test.YtidpoeojkifonaaRec
namespace Go.Proofs.Ytidpoeojkifonaa
open Go.ChangeShapes Go.WideShapes Go.ChangeAt Go.RowKit
/-- 'append(out, S{..}, S{..}, ..)', out owned: the walk goes on in one way. xs: the numbers of the new structs in a row. -/
theorem wp_appR {w : World} {ops : Array Oper} {rest : List Oper} {o : Oper} {a : Act} {Q : Exit → Act → World → Prop} (hgd : o.guard = none) (s x : Operand)
    (ho : o.op = .call { callee := .builtin .append, args := #[s, x], argTypes := #[46, 46] })
    {B : Nat} {v : Value} {n : Nat} {zs : List Int} (m : Nat) (xs : List Int) (hxs : xs.length = m * 2) (g : Nat) {t : TypeId} (hown : OwnR w B v n zs) (hs : a.eval s = v) (hx : a.eval x = .slice (some ⟨g, 0, none⟩) m m)
    (hc : w.heap[g]? = some (.cells (xs.map (Value.int .i64)).toArray t)) (hl : n + m ≤ 1000000000) (hB : B ≤ w.heap.size)
    (h : ∀ v' w', OwnR w' B v' (n + m) (zs ++ xs) → w.grownBy w' v.ownBlock → wpList Try.prog ops Q rest (a.put o.dst v') w') : wpList Try.prog ops Q (o :: rest) a w := by
  obtain ⟨i0, hi, hz0, hz1, hz2⟩ := info_parts tinfoR
  refine wpList_append_own w hgd s x 46 ho B 68 i0 (.agg #[.int .i64 0, .int .i64 0]) 2 16 Try.underlying46 hi hz0 hz1 hz2 rfl (by decide) v n _ hs hown ⟨g, 0, none⟩ m m (xs.map (Value.int .i64)) hx (by rw [List.length_map, hxs]) ?_ ?_ ?_ ?_ hB ?_
  · intro j u hu
    rw [show (⟨g, 0, none⟩ : Addr).add j = ⟨g, j, none⟩ by unfold Addr.add; split <;> simp_all]
    rw [cell_blk hc]
    simpa using hu
  · intro u hu
    rw [List.mem_map] at hu
    obtain ⟨y, _, rfl⟩ := hu
    rfl
  · unfold maxLen; omega
  · omega
  · intro v' w' h1 h2 _
    exact h v' w' (by unfold OwnR; rw [List.map_append]; exact h1) h2
theorem recr_below {w wr w' : World} {o : Obj} {B K n : Nat} {v : Value} {zs : List Int} (hb : Below K w wr) (ho : OwnR wr B v n zs) (hg : (wr.alloc o).grownBy w' v.ownBlock) (hK : K ≤ B) (hs : K ≤ wr.heap.size) : Below K w w' ∧ K ≤ w'.heap.size :=
  ⟨recr_grown_below (hb.alloc hs o) (recr_alloc ho o) hg hK (by simp; omega), by have := hg.size; simp at this; omega⟩
theorem recr_lit (w : World) (xs : List Int) (n : Nat) (hx : xs.length = n * 2) (hn : n ≤ 1000) : OwnR (w.alloc (.cells (xs.map (Value.int .i64)).toArray 68)) w.heap.size (.slice (some ⟨w.heap.size, 0, none⟩) n n) n xs := by
  have h := World.ownsRow_lit (base := w.heap.size) (e := 68) (size := 2) w (xs.map (Value.int .i64)).toArray n (Nat.le_refl _) (by unfold maxLen; omega) (by simp [hx])
  unfold OwnR
  simpa using h
end Go.Proofs.Ytidpoeojkifonaa
