/- CompareMethods of both packages. -/
import Derived.IntWalk
import Derived.Test.YtidpoeojkifonaaPt2
namespace Go.Proofs.Ytidpoeojkifonaa
open Go.ChangeShapes Go.WideShapes Go.ChangeAt Go.RowKit
def cmR (b n : Int) : Int × Int × Int := if tin b n then (cnt (pln b.toNat n.toNat) (pln b.toNat n.toNat).length, cnt (few b.toNat n.toNat) (few b.toNat n.toNat).length, 0) else (0, 0, 2)
set_option maxHeartbeats 1000000 in
theorem impl_CompareMethods (b n : Int) (w : World) :
    Calls Try.prog 30 #[.int .i64 b, .int .i64 n] w (RetV w (.tuple #[.int .i64 (cmR b n).1, .int .i64 (cmR b n).2.1, .int .i64 (cmR b n).2.2])) := by
  cases h : tin b n
  · rw [show cmR b n = (0, 0, 2) from by simp [cmR, h]]
    have HC := Lib.hid h; clear h
    go_enter Try.func30, Try.ntmps30
    go_wp2_with fail
    refine (impl_isTurnsInput _ _ _).mono ?_; rintro e w' ⟨rfl, rfl⟩; rw [HC.out]
    go_wp2_with fail
    go_ret3
    exact ⟨rfl, Below.refl _ _⟩
  · rw [show cmR b n = (cnt (pln b.toNat n.toNat) (pln b.toNat n.toNat).length, cnt (few b.toNat n.toNat) (few b.toNat n.toNat).length, 0) from by simp [cmR, h]]
    have HC := Lib.hid h
    have h' := h; unfold tin at h'; simp only [Bool.and_eq_true] at h'
    obtain ⟨b0, b1⟩ := inB_iff.1 h'.1
    obtain ⟨n0, n1⟩ := inB_iff.1 h'.2
    clear h h'
    obtain ⟨b, rfl⟩ := Int.eq_ofNat_of_zero_le (show 0 ≤ b by omega)
    obtain ⟨n, rfl⟩ := Int.eq_ofNat_of_zero_le n0
    rw [Int.toNat_natCast, Int.toNat_natCast]
    go_enter Try.func30, Try.ntmps30
    go_wp2_with fail
    refine (impl_isTurnsInput _ _ _).mono ?_; rintro e w' ⟨rfl, rfl⟩; rw [HC.out]
    go_wp2_with fail
    refine (impl_plainTurns b n _ (by omega) (by omega) (by omega)).mono ?_; rintro e w1 ⟨⟨v1, rfl, o1, b1'⟩, ha, hl⟩
    have O1 := Lib.hid o1; have B1 := Lib.hid b1'; have HA := Lib.hid ha; clear o1 b1' ha
    go_wp2_with fail
    refine (impl_turnsOf _ O1.out HA.out (by omega)).mono ?_; rintro e w' ⟨rfl, rfl⟩
    go_wp2_with fail
    refine (impl_fewestTurns b n _ (by omega) (by omega) (by omega)).mono ?_; rintro e w2 ⟨⟨v2, rfl, o2, b2'⟩, ha2, hl2⟩
    have O2 := Lib.hid o2; have B2 := Lib.hid (Below.trans_size B1.out b2'); have HA2 := Lib.hid ha2; clear o2 b2' ha2
    go_wp2_with fail
    refine (impl_turnsOf _ O2.out HA2.out (by omega)).mono ?_; rintro e w' ⟨rfl, rfl⟩
    go_wp2_with fail
    go_ret3
    exact ⟨rfl, B2.out⟩
theorem allT_cons {x : Int} {l : List Int} (hx : isT x = true) (h : allT l = true) : allT (x :: l) = true := by unfold allT at *; rw [List.all_cons, hx, h]; rfl
theorem allT_pln {b : Nat} (hb : 2 ≤ b) (hb2 : b ≤ 16) : ∀ n, allT (pln b n) = true := by
  intro n
  induction n using Nat.strongRecOn with
  | ind n ih =>
    by_cases h0 : n = 0
    · subst h0; rw [pln_zero]; rfl
    · have m := div_mod_b (n := n) hb
      rw [pln_rec hb h0]
      exact allT_cons (isT_in (by omega) (by omega)) (ih _ (div_lt' hb h0))
theorem allT_few {b : Nat} (hb : 2 ≤ b) (hb2 : b ≤ 16) : ∀ n, allT (few b n) = true := by
  intro n
  induction n using Nat.strongRecOn with
  | ind n ih =>
    by_cases h0 : n = 0
    · subst h0; rw [few_zero]; rfl
    · have m := div_mod_b (n := n) hb
      cases hk : keepB b n
      · rw [few_up hb h0 hk]
        exact allT_cons (isT_in (by omega) (by omega)) (ih _ (few_dec hb h0 hk))
      · rw [few_keep hb h0 hk]
        exact allT_cons (isT_in (by omega) (by omega)) (ih _ (div_lt' hb h0))
theorem few_len {b : Nat} (hb : 2 ≤ b) : ∀ n : Nat, (few b n).length ≤ n := by
  intro n
  induction n using Nat.strongRecOn with
  | ind n ih =>
    by_cases h0 : n = 0
    · subst h0; rw [few_zero]; simp
    · cases hk : keepB b n
      · have d := few_dec hb h0 hk
        have i := ih _ d
        rw [few_up hb h0 hk, List.length_cons]; omega
      · have d := div_lt' hb h0
        have i := ih _ d
        rw [few_keep hb h0 hk, List.length_cons]; omega
set_option maxHeartbeats 1000000 in
theorem spec_CompareMethods (b n : Int) (w : World) :
    Calls Try.prog 29 #[.int .i64 b, .int .i64 n] w (RetV w (.tuple #[.int .i64 (cmR b n).1, .int .i64 (cmR b n).2.1, .int .i64 (cmR b n).2.2])) := by
  have S1 := Lib.hid (fun wx => spec_PlainTurns b n wx)
  cases h : tin b n
  · rw [show cmR b n = (0, 0, 2) from by simp [cmR, h]]
    rw [show fewB b n = 0 from by simp [fewB, h], show plnL b n = [] from by simp [plnL, h], show codeR b n = 2 from by simp [codeR, h]] at S1
    clear h
    go_enter Try.func29, Try.ntmps29
    go_wp2_with fail
    refine (S1.out _).mono ?_; rintro e w1 ⟨v1, rfl, o1, b1⟩
    have B1 := Lib.hid b1
    obtain ⟨q1, c1, rfl, -, -⟩ := own_form o1; clear o1 b1
    go_wp2_with fail
    go_ret3
    exact ⟨rfl, B1.out.alloc B1.out.size _⟩
  · rw [show cmR b n = (cnt (pln b.toNat n.toNat) (pln b.toNat n.toNat).length, cnt (few b.toNat n.toNat) (few b.toNat n.toNat).length, 0) from by simp [cmR, h]]
    have S2 := Lib.hid (fun wx => spec_FewestTurns b n wx)
    have hl1 := len_pln b n
    have hl2 : (fewL b n).length ≤ 62500000 ∨ True := .inr trivial
    rw [show fewB b n = b from by simp [fewB, h], show plnL b n = pln b.toNat n.toNat from by simp [plnL, h], show codeR b n = 0 from by simp [codeR, h]] at S1
    rw [show fewB b n = b from by simp [fewB, h], show fewL b n = few b.toNat n.toNat from by simp [fewL, h], show codeR b n = 0 from by simp [codeR, h]] at S2
    rw [show plnL b n = pln b.toNat n.toNat from by simp [plnL, h]] at hl1
    clear hl2
    have h' := h; unfold tin at h'; simp only [Bool.and_eq_true] at h'
    obtain ⟨b0, b1⟩ := inB_iff.1 h'.1
    obtain ⟨n0, n1⟩ := inB_iff.1 h'.2
    clear h h'
    have A1 := Lib.hid (allT_pln (b := b.toNat) (by omega) (by omega) n.toNat)
    have A2 := Lib.hid (allT_few (b := b.toNat) (by omega) (by omega) n.toNat)
    have hl2 := few_len (b := b.toNat) (by omega) n.toNat
    generalize pln b.toNat n.toNat = L1 at *
    generalize few b.toNat n.toNat = L2 at *
    go_enter Try.func29, Try.ntmps29
    go_wp2_with fail
    refine (S1.out _).mono ?_; rintro e w1 ⟨v1, rfl, o1, b1'⟩
    have R1 := Lib.hid o1; have B1 := Lib.hid b1'
    obtain ⟨q1, c1, rfl, -, -⟩ := own_form o1; clear o1 b1'
    go_wp2_with fail
    refine (S2.out _).mono ?_; rintro e w2 ⟨v2, rfl, o2, b2'⟩
    obtain ⟨y2, bw2, s2, e2⟩ := blk1 b2'
    have R2 := Lib.hid (own_keep b2' (own_alloc R1.out _)); have G2 := Lib.hid o2; have Y2 := Lib.hid y2; have B2 := Lib.hid (Below.trans_size B1.out bw2)
    obtain ⟨q2, c2, rfl, -, -⟩ := own_form o2; clear o2 b2' y2 bw2 e2
    go_wp2_with fail
    refine (spec_l13Count _ _ (own_alloc R2.out _) (cell_blk ((Below.heap_alloc _ _ _ (by omega)).trans Y2.out) 1) A1.out (by omega)).mono ?_; rintro e w' ⟨rfl, rfl⟩
    go_wp2_with fail
    refine (spec_l13Count _ _ (own_alloc G2.out _) (cell_blk (heap_last _ _) 1) A2.out (by omega)).mono ?_; rintro e w' ⟨rfl, rfl⟩
    go_wp2_with fail
    go_ret3
    exact ⟨rfl, B2.out.alloc B2.out.size _⟩
end Go.Proofs.Ytidpoeojkifonaa
