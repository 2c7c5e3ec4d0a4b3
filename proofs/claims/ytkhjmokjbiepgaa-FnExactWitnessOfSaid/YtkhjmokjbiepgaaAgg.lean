/- Structs of a number and a slice of numbers: the laws' helpers over them, equality of lists. -/
import Derived.IntWalk
import Derived.Handy
import Derived.Test.YtkhjmokjbiepgaaInts
namespace Go.Proofs.Ytkhjmokjbiepgaa
open Go.ChangeShapes Go.WideShapes Go.ChangeAt Go.RowKit
def RetAgg (w : World) (b : Int) (zs : List Int) (e : Ending) (w' : World) : Prop := ∃ v, e = .returned (.agg #[.int .i64 b, v]) ∧ Own w' w.heap.size v zs ∧ Below w.heap.size w w'
def RetAggI (w : World) (b : Int) (zs : List Int) (c : Int) (e : Ending) (w' : World) : Prop := ∃ v, e = .returned (.tuple #[.agg #[.int .i64 b, v], .int .i64 c]) ∧ Own w' w.heap.size v zs ∧ Below w.heap.size w w'
theorem IsRow.len_le {k : IntKind} {w : World} {a : Option Addr} {len cap : Nat} {zs : List Int} (h : IsRow k w a len cap zs) : len ≤ 9223372036854775807 := by
  rcases h with ⟨_, rfl, _, _⟩ | ⟨x, _, h1, h2, _⟩
  · omega
  · unfold maxLen at h2; omega
theorem heap_last (w : World) (o : Obj) : (w.alloc o).heap[w.heap.size]? = some o := by
  show (w.heap.push o)[w.heap.size]? = _
  simp
theorem cell_blk {w : World} {n : Nat} {c : Array Value} {t : TypeId} (h : w.heap[n]? = some (.cells c t)) (i : Nat) : w.cell? ⟨n, i, none⟩ = c[i]? := by simp [World.cell?, h]
theorem frozen_blk {w : World} {n : Nat} {c : Array Value} {t : TypeId} (h : w.heap[n]? = some (.cells c t)) (i : Nat) : w.frozen? ⟨n, i, none⟩ = false := by simp [World.frozen?, h]
theorem blk1 {w w1 : World} {A : Obj} (b : Below (w.alloc A).heap.size (w.alloc A) w1) :
    w1.heap[w.heap.size]? = some A ∧ Below w.heap.size w w1 ∧ w.heap.size + 1 ≤ w1.heap.size ∧ (w.alloc A).heap.size = w.heap.size + 1 := by
  have e : (w.alloc A).heap.size = w.heap.size + 1 := by simp
  refine ⟨?_, ?_, ?_, e⟩
  · rw [b.block _ (by omega), heap_last]
  · exact (((Below.refl _ _).alloc (Nat.le_refl _) A).trans (b.mono (by omega)))
  · have := b.size; omega
theorem blk2 {w w1 : World} {A B : Obj} (b : Below ((w.alloc A).alloc B).heap.size ((w.alloc A).alloc B) w1) :
    w1.heap[w.heap.size]? = some A ∧ w1.heap[w.heap.size + 1]? = some B ∧ Below w.heap.size w w1 ∧ w.heap.size + 1 + 1 ≤ w1.heap.size ∧ ((w.alloc A).alloc B).heap.size = w.heap.size + 1 + 1 := by
  have e : ((w.alloc A).alloc B).heap.size = w.heap.size + 1 + 1 := by simp
  refine ⟨?_, ?_, ?_, ?_, e⟩
  · rw [b.block _ (by omega), Below.heap_alloc _ _ _ (by simp), heap_last]
  · rw [b.block _ (by omega)]; have := heap_last (w.alloc A) B; simpa using this
  · exact ((((Below.refl _ _).alloc (Nat.le_refl _) A).alloc (by simp) B).trans (b.mono (by omega)))
  · have := b.size; omega
theorem blk3 {w w1 : World} {A B C : Obj} (b : Below (((w.alloc A).alloc B).alloc C).heap.size (((w.alloc A).alloc B).alloc C) w1) :
    w1.heap[w.heap.size]? = some A ∧ w1.heap[w.heap.size + 1]? = some B ∧ w1.heap[w.heap.size + 1 + 1]? = some C ∧ Below w.heap.size w w1 ∧ w.heap.size + 1 + 1 + 1 ≤ w1.heap.size ∧ (((w.alloc A).alloc B).alloc C).heap.size = w.heap.size + 1 + 1 + 1 := by
  have e : (((w.alloc A).alloc B).alloc C).heap.size = w.heap.size + 1 + 1 + 1 := by simp
  refine ⟨?_, ?_, ?_, ?_, ?_, e⟩
  · rw [b.block _ (by omega), Below.heap_alloc _ _ _ (by simp; omega), Below.heap_alloc _ _ _ (by simp), heap_last]
  · rw [b.block _ (by omega), Below.heap_alloc _ _ _ (by simp)]; have := heap_last (w.alloc A) B; simpa using this
  · rw [b.block _ (by omega)]; have := heap_last ((w.alloc A).alloc B) C; simpa using this
  · exact (((((Below.refl _ _).alloc (Nat.le_refl _) A).alloc (by simp) B).alloc (by simp; omega) C).trans (b.mono (by omega)))
  · have := b.size; omega
theorem laws_szInt64S (a : Option Addr) (len cap : Nat) (n : Int) (w : World) (h : len ≤ 9223372036854775807) (h0 : 0 ≤ n) (h1 : n ≤ 2000000) :
    Calls Try.prog 30 #[.slice a len cap, .int .i64 n] w fun e w' => e = .returned (.int .i64 (if (len : Int) ≤ n then n - len else -1)) ∧ w = w' := by
  by_cases hc : (len : Int) ≤ n
  · rw [if_pos hc]
    go_enter Try.func30, Try.ntmps30
    go_wp2
    go_ret
    exact ⟨rfl, rfl⟩
  · rw [if_neg hc]
    go_enter Try.func30, Try.ntmps30
    go_wp2
    go_ret
    exact ⟨rfl, rfl⟩
theorem nth_ext {xs ys : List Int} (hl : xs.length = ys.length) (h : ∀ j, j < xs.length → nth xs j = nth ys j) : xs = ys := by
  apply List.ext_getElem hl
  intro i h1 h2
  have := h i h1
  simpa [nth, List.getD, h1, h2] using this
theorem drewN_ex (w : World) (n m : Nat) : ∃ k, (w.drewN n).drewN m = w.drewN k := ⟨n + m, by unfold World.drewN; simp [Nat.add_assoc]⟩
theorem quiet_D {w : World} {f : Nat} {args : Array Value} {v : Value} {n : Nat}
    (h : Calls Try.prog f args (w.drewN n) fun e w' => e = .returned v ∧ ∃ m, w' = (w.drewN n).drewN m) : Calls Try.prog f args (w.drewN n) fun e w' => e = .returned v ∧ ∃ m, w' = w.drewN m :=
  h.mono fun e w' ⟨h1, m, h2⟩ => ⟨h1, by rw [h2]; exact drewN_ex w n m⟩
set_option maxHeartbeats 1000000 in
theorem spec_l00Same_q {B1 B2 : Nat} {u v : Value} {xs ys : List Int} (w : World) (h1 : Own w B1 u xs) (h2 : Own w B2 v ys) :
    Calls Try.prog 93 #[u, v] w fun e w' => e = .returned (.bool (decide (xs = ys))) ∧ ∃ m, w' = w.drewN m := by
  obtain ⟨a1, c1, rfl, m1, q1⟩ := own_form h1
  obtain ⟨a2, c2, rfl, m2, q2⟩ := own_form h2
  clear h1 h2
  have Q1 := Lib.hid q1; have Q2 := Lib.hid q2; clear q1 q2
  by_cases hl : xs.length = ys.length
  · have HL2 := Lib.hid hl
    rw [← hl]
    clear hl
    go_enter Try.func93, Try.ntmps93
    go_wp2_with fail
    go_loopw [5] (fun i wr => ∃ k : Nat, k ≤ xs.length ∧ i = .int .i64 k ∧ Hid (∀ j, j < k → nth xs j = nth ys j) ∧ ∃ n, wr = w.drewN n) (fun i _ => xs.length - (intOf i).toNat)
    case atStart => exact ⟨0, Nat.zero_le _, rfl, fun j hj => by omega, 0, rfl⟩
    case round =>
      obtain ⟨k, hk, rfl, he, n, rfl⟩ := hrel
      by_cases hlt : k < xs.length
      · obtain ⟨g1, rfl, p1⟩ := Q1.out k hlt
        obtain ⟨g2, rfl, p2⟩ := Q2.out k (by rw [← HL2.out]; exact hlt)
        by_cases e : nth xs k = nth ys k
        · have HE := Lib.hid (show ∀ j, j < k + 1 → nth xs j = nth ys j from fun j hj => by rcases Nat.lt_succ_iff_lt_or_eq.1 hj with h | rfl <;> first | exact he.out j h | exact e)
          have e1 : (nth xs k != nth ys k) = false := by simp [e]
          clear e he
          go_wp2
          go_quiet (fail)
          go_wp2
          go_roundw
          case rel => exact ⟨k + 1, by omega, by go_num, HE.out, by first | exact ⟨_, rfl⟩ | skip⟩
          case measure => first | (simp [intOf]; done) | (simp [intOf]; omega)
        · have HF := Lib.hid (show decide (xs = ys) = false from by simp; intro h; exact e (by rw [h]))
          have e1 : (nth xs k != nth ys k) = true := by simp [e]
          clear e he
          go_wp2
          go_quiet (fail)
          go_wp2
          go_ret
          exact ⟨by rw [HF.out]; rfl, drewN_ex _ _ _⟩
      · obtain rfl : k = xs.length := by omega
        have HF := Lib.hid (show decide (xs = ys) = true from by simp; exact nth_ext HL2.out he.out)
        clear he
        go_wp2
        go_ret
        exact ⟨by rw [HF.out]; rfl, _, rfl⟩
  · have HF := Lib.hid (show decide (xs = ys) = false from by simp; intro h; exact hl (by rw [h]))
    go_enter Try.func93, Try.ntmps93
    go_wp2
    go_ret
    exact ⟨by rw [HF.out]; rfl, 0, rfl⟩
theorem spec_l00Same {B1 B2 : Nat} {u v : Value} {xs ys : List Int} (w : World) (h1 : Own w B1 u xs) (h2 : Own w B2 v ys) :
    Calls Try.prog 93 #[u, v] w (RetV w (.bool (decide (xs = ys)))) :=
  (spec_l00Same_q w h1 h2).mono fun e w' ⟨h, m, hm⟩ => ⟨h, by rw [hm]; exact below_drewN _ _⟩
def sameR (a b : Int) (xs ys : List Int) : Bool := decide (a = b) && decide (xs = ys)
set_option maxHeartbeats 1000000 in
theorem laws_toTurnDigits (b : Int) (a : Option Addr) (len cap : Nat) (zs : List Int) (w : World) (h : IsRow .i64 w a len cap zs) (hlen : len ≤ 1048576) :
    Calls Try.prog 9 #[.agg #[.int .i64 b, .slice a len cap]] w (RetAgg w b (zs.take len)) := by
  have H := Lib.hid h; clear h
  go_enter Try.func9, Try.ntmps9
  go_wp2_with fail
  refine (laws_toInt64S _ _ _ _ _ (H.out.below ((((Below.refl _ _).alloc (Nat.le_refl _) _).alloc (by simp) _).alloc (by simp; omega) _)) hlen).mono ?_; rintro e w1 ⟨v1, rfl, o1, b1⟩
  obtain ⟨-, x1, x2, bw, hs, he⟩ := blk3 b1
  rw [he] at o1
  have O1 := Lib.hid o1
  obtain ⟨av, cv, rfl, -, -⟩ := own_form o1
  have c0 := cell_blk x1 0; have c1 := cell_blk x1 1; have f0 := frozen_blk x1 0; have f1 := frozen_blk x1 1
  have d0 := cell_blk x2 0; have d1 := cell_blk x2 1; have g0 := frozen_blk x2 0; have g1 := frozen_blk x2 1
  have BW := Lib.hid bw; clear x1 x2 bw o1 b1 he H
  go_wp2
  refine bodyPost_ret (v := .agg #[.int .i64 b, .slice av (zs.take len).length cv]) (by simp [results, Try.results9, go_sem, *]) rfl ?_
  exact ⟨_, rfl, own_base (ownsRow_setCell_below (ownsRow_setCell_below (ownsRow_setCell_below O1.out (by simp) _) (by simp) _) (by simp) _) (by omega), ((BW.out.setCell (by simp; omega) _).setCell (by simp) _).setCell (by simp) _⟩
theorem laws_szTurnDigits (b : Int) (a : Option Addr) (len cap : Nat) (n : Int) (w : World) (h : len ≤ 9223372036854775807) (h0 : 0 ≤ n) (h1 : n ≤ 2000000) :
    Calls Try.prog 7 #[.agg #[.int .i64 b, .slice a len cap], .int .i64 n] w (RetV w (.int .i64 (if (len : Int) ≤ n then n - len else -1))) := by
  by_cases hc : (len : Int) ≤ n
  all_goals
    have HC := Lib.hid hc
    first | rw [if_pos HC.out] | rw [if_neg HC.out]
    go_enter Try.func7, Try.ntmps7
    go_wp2_with fail
    refine (laws_szInt64S _ _ _ _ _ h h0 h1).mono ?_; rintro e w1 ⟨rfl, rfl⟩
    first | rw [if_pos HC.out] | rw [if_neg (Int.not_le.2 HC.out)]
    go_wp2
    go_ret
    exact ⟨rfl, (Below.refl _ _).alloc (Nat.le_refl _) _⟩
theorem laws_eqTurnDigits {B1 B2 : Nat} {u v : Value} {zs : List Int} (b : Int) (w : World) (h1 : Own w B1 u zs) (h2 : Own w B2 v zs) :
    Calls Try.prog 11 #[.agg #[.int .i64 b, u], .agg #[.int .i64 b, v]] w (RetV w (.bool true)) := by
  have H1 := Lib.hid h1; have H2 := Lib.hid h2
  obtain ⟨a1, c1, rfl, -, -⟩ := own_form h1
  obtain ⟨a2, c2, rfl, -, -⟩ := own_form h2
  clear h1 h2
  go_enter Try.func11, Try.ntmps11
  go_wp2_with fail
  refine (laws_eqInt64S _ (own_alloc (own_alloc H1.out _) _) (own_alloc (own_alloc H2.out _) _)).mono ?_; rintro e w1 ⟨rfl, b1⟩
  obtain ⟨x0, x1, bw, -, -⟩ := blk2 b1
  have BW := Lib.hid bw; clear x0 x1 bw b1
  go_wp2
  go_ret
  exact ⟨rfl, BW.out⟩
theorem laws_eqRegister {B1 B2 : Nat} {u v : Value} {zs : List Int} (b : Int) (w : World) (h1 : Own w B1 u zs) (h2 : Own w B2 v zs) :
    Calls Try.prog 22 #[.agg #[.int .i64 b, u], .agg #[.int .i64 b, v]] w (RetV w (.bool true)) := by
  have H1 := Lib.hid h1; have H2 := Lib.hid h2
  obtain ⟨a1, c1, rfl, -, -⟩ := own_form h1
  obtain ⟨a2, c2, rfl, -, -⟩ := own_form h2
  clear h1 h2
  go_enter Try.func22, Try.ntmps22
  go_wp2_with fail
  refine (laws_eqInt64S _ (own_alloc (own_alloc H1.out _) _) (own_alloc (own_alloc H2.out _) _)).mono ?_; rintro e w1 ⟨rfl, b1⟩
  obtain ⟨x0, x1, bw, -, -⟩ := blk2 b1
  have BW := Lib.hid bw; clear x0 x1 bw b1
  go_wp2
  go_ret
  exact ⟨rfl, BW.out⟩
end Go.Proofs.Ytkhjmokjbiepgaa
