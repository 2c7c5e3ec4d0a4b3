/- FewestTurns of both packages. -/
import Derived.IntWalk
import Derived.Test.YtidpoeojkifonaaFew
namespace Go.Proofs.Ytidpoeojkifonaa
open Go.ChangeShapes Go.WideShapes Go.ChangeAt Go.RowKit
def fewB (b n : Int) : Int := if tin b n then b else 0
def fewL (b n : Int) : List Int := if tin b n then few b.toNat n.toNat else []
theorem setCell0_blk {w : World} {g : Nat} {a b : Value} {t : TypeId} (h : w.heap[g]? = some (.cells #[a, b] t)) (u : Value) : (w.setCell ⟨g, 0, none⟩ u).heap[g]? = some (.cells #[u, b] t) := by
  simp [World.setCell, Array.getElem?_modify, h]
theorem below_a (w : World) (o : Obj) : Below w.heap.size w (w.alloc o) := (Below.refl _ _).alloc (Nat.le_refl _) o
set_option maxHeartbeats 1000000 in
theorem impl_FewestTurns (b n : Int) (w : World) :
    Calls Try.prog 28 #[.int .i64 b, .int .i64 n] w (RetAggI w (fewB b n) (fewL b n) (codeR b n)) := by
  cases h : tin b n
  · rw [show fewB b n = 0 from by simp [fewB, h], show fewL b n = [] from by simp [fewL, h], show codeR b n = 2 from by simp [codeR, h]]
    have HC := Lib.hid (show tin b n = false from h); clear h
    go_enter Try.func28, Try.ntmps28
    go_wp2_with fail
    refine (impl_isTurnsInput _ _ _).mono ?_; rintro e w' ⟨rfl, rfl⟩; rw [HC.out]
    go_wp2_with fail
    refine bodyPost_ret (v := .tuple #[.agg #[.int .i64 0, .slice none 0 0], .int .i64 2]) (by simp [results, Try.results28, go_sem, *]) rfl ?_
    exact ⟨_, rfl, own_nil, by first | exact ((below_a _ _).setCell (by simp) _).setCell (by simp) _ | exact below_a _ _⟩
  · rw [show fewB b n = b from by simp [fewB, h], show fewL b n = few b.toNat n.toNat from by simp [fewL, h], show codeR b n = 0 from by simp [codeR, h]]
    have HC := Lib.hid (show tin b n = true from h)
    have h' := h; unfold tin at h'; simp only [Bool.and_eq_true] at h'
    obtain ⟨b0, b1⟩ := inB_iff.1 h'.1
    obtain ⟨n0, n1⟩ := inB_iff.1 h'.2
    clear h h'
    obtain ⟨b, rfl⟩ := Int.eq_ofNat_of_zero_le (show 0 ≤ b by omega)
    obtain ⟨n, rfl⟩ := Int.eq_ofNat_of_zero_le n0
    rw [Int.toNat_natCast, Int.toNat_natCast]
    go_enter Try.func28, Try.ntmps28
    go_wp2_with fail
    refine (impl_isTurnsInput _ _ _).mono ?_; rintro e w' ⟨rfl, rfl⟩; rw [HC.out]
    go_wp2_with fail
    refine (impl_fewestTurns b n _ (by omega) (by omega) (by omega)).mono ?_; rintro e w1 ⟨⟨v1, rfl, o1, b1'⟩, ha, hl⟩
    obtain ⟨x0, bw, hs, he⟩ := blk1 b1'
    rw [he] at o1
    have O1 := Lib.hid o1; have BW := Lib.hid bw
    obtain ⟨av, cv, rfl, -, -⟩ := own_form o1
    have c0 := cell_blk x0 0; have c1 := cell_blk x0 1; have f0 := frozen_blk x0 0; have f1 := frozen_blk x0 1
    clear o1 b1' ha bw x0 he
    go_wp2_with fail
    refine bodyPost_ret (v := .tuple #[.agg #[.int .i64 b, .slice av (few b n).length cv], .int .i64 0]) (by simp [results, Try.results28, go_sem, *]) rfl ?_
    exact ⟨_, rfl, own_base (ownsRow_setCell_below (ownsRow_setCell_below O1.out (by simp) _) (by simp) _) (by omega), (BW.out.setCell (by simp) _).setCell (by simp) _⟩
set_option maxHeartbeats 1000000 in
theorem spec_FewestTurns (b n : Int) (w : World) :
    Calls Try.prog 27 #[.int .i64 b, .int .i64 n] w (RetAggI w (fewB b n) (fewL b n) (codeR b n)) := by
  cases h : tin b n
  · rw [show fewB b n = 0 from by simp [fewB, h], show fewL b n = [] from by simp [fewL, h], show codeR b n = 2 from by simp [codeR, h]]
    have HC := Lib.hid (show codeR b n = 2 from by simp [codeR, h]); clear h
    go_enter Try.func27, Try.ntmps27
    go_wp2_with fail
    refine (spec_l13Code _ _ _).mono ?_; rintro e w' ⟨rfl, rfl⟩; rw [HC.out]
    go_wp2_with fail
    refine bodyPost_ret (v := .tuple #[.agg #[.int .i64 0, .slice none 0 0], .int .i64 2]) (by simp [results, Try.results27, go_sem, *]) rfl ?_
    exact ⟨_, rfl, own_nil, by first | exact ((below_a _ _).setCell (by simp) _).setCell (by simp) _ | exact below_a _ _⟩
  · rw [show fewB b n = b from by simp [fewB, h], show fewL b n = few b.toNat n.toNat from by simp [fewL, h], show codeR b n = 0 from by simp [codeR, h]]
    have HC := Lib.hid (show codeR b n = 0 from by simp [codeR, h])
    have h' := h; unfold tin at h'; simp only [Bool.and_eq_true] at h'
    obtain ⟨b0, b1⟩ := inB_iff.1 h'.1
    obtain ⟨n0, n1⟩ := inB_iff.1 h'.2
    clear h h'
    obtain ⟨b, rfl⟩ := Int.eq_ofNat_of_zero_le (show 0 ≤ b by omega)
    obtain ⟨n, rfl⟩ := Int.eq_ofNat_of_zero_le n0
    rw [Int.toNat_natCast, Int.toNat_natCast]
    go_enter Try.func27, Try.ntmps27
    go_wp2_with fail
    refine (spec_l13Code _ _ _).mono ?_; rintro e w' ⟨rfl, rfl⟩; rw [HC.out]
    go_wp2_with fail
    refine (spec_l13Few b n _ (by omega) (by omega) (by omega)).mono ?_; rintro e w1 ⟨⟨v1, rfl, o1, b1'⟩, ha, hl⟩
    obtain ⟨x0, bw, hs, he⟩ := blk1 b1'
    rw [he] at o1
    have O1 := Lib.hid o1; have BW := Lib.hid bw
    obtain ⟨av, cv, rfl, -, -⟩ := own_form o1
    have c0 := cell_blk x0 0; have c1 := cell_blk x0 1; have f0 := frozen_blk x0 0; have f1 := frozen_blk x0 1
    clear o1 b1' ha bw x0 he
    go_wp2_with fail
    refine bodyPost_ret (v := .tuple #[.agg #[.int .i64 b, .slice av (few b n).length cv], .int .i64 0]) (by simp [results, Try.results27, go_sem, *]) rfl ?_
    exact ⟨_, rfl, own_base (ownsRow_setCell_below (ownsRow_setCell_below O1.out (by simp) _) (by simp) _) (by omega), (BW.out.setCell (by simp) _).setCell (by simp) _⟩
theorem laws_heldTurnDigits {B : Nat} {v : Value} (b : Int) (w : World) (k : Int) (n : Nat) (h1 : Own w B v (marks k n)) (h0 : 0 ≤ k) (hk : k ≤ 1000000000) (hl : n ≤ 1000000000) :
    Calls Try.prog 24 #[.agg #[.int .i64 b, v], .int .i64 k] w (RetV w (.int .i64 (k + n))) := by
  have H1 := Lib.hid h1
  obtain ⟨a1, c1, rfl, -, -⟩ := own_form h1
  clear h1
  go_enter Try.func24, Try.ntmps24
  go_wp2_with fail
  refine (laws_heldInt64S _ k n (own_alloc H1.out _) h0 hk hl).mono ?_; rintro e w1 ⟨rfl, rfl⟩
  go_wp2_with fail
  go_ret
  exact ⟨rfl, below_a _ _⟩
end Go.Proofs.Ytidpoeojkifonaa
