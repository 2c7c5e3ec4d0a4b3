/- PlainTurns of the package, the length of plain turns. -/
import Derived.IntWalk
import Derived.Test.YtidpoeojkifonaaPt
namespace Go.Proofs.Ytidpoeojkifonaa
open Go.ChangeShapes Go.WideShapes Go.ChangeAt Go.RowKit
theorem len_pln (b n : Int) : (plnL b n).length ≤ 62500000 := by
  unfold plnL
  split
  · rename_i h
    unfold tin at h; simp only [Bool.and_eq_true] at h
    have a := inB_iff.1 h.1; have c := inB_iff.1 h.2
    have key : ∀ (b : Nat), 2 ≤ b → ∀ n : Nat, (pln b n).length ≤ n := by
      intro b hb n
      induction n using Nat.strongRecOn with
      | ind n ih =>
        by_cases h0 : n = 0
        · subst h0; rw [pln_zero]; simp
        · have d := div_lt' hb h0
          have i := ih _ d
          rw [pln_rec hb h0, List.length_cons]; omega
    have := key b.toNat (by omega) n.toNat
    omega
  · simp
set_option maxHeartbeats 1000000 in
theorem impl_PlainTurns (b n : Int) (w : World) :
    Calls Try.prog 22 #[.int .i64 b, .int .i64 n] w (RetAggI w (fewB b n) (plnL b n) (codeR b n)) := by
  cases h : tin b n
  · rw [show fewB b n = 0 from by simp [fewB, h], show plnL b n = [] from by simp [plnL, h], show codeR b n = 2 from by simp [codeR, h]]
    have HC := Lib.hid (show tin b n = false from h); clear h
    go_enter Try.func22, Try.ntmps22
    go_wp2_with fail
    refine (impl_isTurnsInput _ _ _).mono ?_; rintro e w' ⟨rfl, rfl⟩; rw [HC.out]
    go_wp2_with fail
    refine bodyPost_ret (v := .tuple #[.agg #[.int .i64 0, .slice none 0 0], .int .i64 2]) (by simp [results, Try.results22, go_sem, *]) rfl ?_
    exact ⟨_, rfl, own_nil, by first | exact ((below_a _ _).setCell (by simp) _).setCell (by simp) _ | exact below_a _ _⟩
  · rw [show fewB b n = b from by simp [fewB, h], show plnL b n = pln b.toNat n.toNat from by simp [plnL, h], show codeR b n = 0 from by simp [codeR, h]]
    have HC := Lib.hid (show tin b n = true from h)
    have h' := h; unfold tin at h'; simp only [Bool.and_eq_true] at h'
    obtain ⟨b0, b1⟩ := inB_iff.1 h'.1
    obtain ⟨n0, n1⟩ := inB_iff.1 h'.2
    clear h h'
    obtain ⟨b, rfl⟩ := Int.eq_ofNat_of_zero_le (show 0 ≤ b by omega)
    obtain ⟨n, rfl⟩ := Int.eq_ofNat_of_zero_le n0
    rw [Int.toNat_natCast, Int.toNat_natCast]
    go_enter Try.func22, Try.ntmps22
    go_wp2_with fail
    refine (impl_isTurnsInput _ _ _).mono ?_; rintro e w' ⟨rfl, rfl⟩; rw [HC.out]
    go_wp2_with fail
    refine (impl_plainTurns b n _ (by omega) (by omega) (by omega)).mono ?_; rintro e w1 ⟨⟨v1, rfl, o1, b1'⟩, ha, hl⟩
    obtain ⟨x0, bw, hs, he⟩ := blk1 b1'
    rw [he] at o1
    have O1 := Lib.hid o1; have BW := Lib.hid bw
    obtain ⟨av, cv, rfl, -, -⟩ := own_form o1
    have c0 := cell_blk x0 0; have c1 := cell_blk x0 1; have f0 := frozen_blk x0 0; have f1 := frozen_blk x0 1
    clear o1 b1' ha bw x0 he
    go_wp2_with fail
    refine bodyPost_ret (v := .tuple #[.agg #[.int .i64 b, .slice av (pln b n).length cv], .int .i64 0]) (by simp [results, Try.results22, go_sem, *]) rfl ?_
    exact ⟨_, rfl, own_base (ownsRow_setCell_below (ownsRow_setCell_below O1.out (by simp) _) (by simp) _) (by omega), (BW.out.setCell (by simp) _).setCell (by simp) _⟩
end Go.Proofs.Ytidpoeojkifonaa
