/- TableFault of both packages. -/
import Derived.IntWalk
import Derived.Deep.QuietTactic
import Derived.BigQuiet
import Derived.Deep.RegionWith
import Derived.Test.YtcooabjcikcpiaaAdtF
import Derived.Test.YtcooabjcikcpiaaAdtG
namespace Go.Proofs.Ytcooabjcikcpiaa
open Go.ChangeShapes Go.WideShapes Go.ChangeAt Go.RowKit
theorem impl_tableCode {B n : Nat} {u : Value} {xs : List Int} (b : Int) (w : World) (h1 : OwnR w B u n xs) (hlen : n ≤ 1048576) :
    Calls Try.prog 52 #[.int .i64 b, u] w (RetV w (.int .i64 (tfC b xs))) := by
  have HO := Lib.hid h1; clear h1
  cases hb : inB b 2 16
  · have HR := Lib.hid (show tfC b xs = 2 from by simp [tfC, hb])
    have HB := Lib.hid hb; clear hb
    go_enter Try.func52, Try.ntmps52
    go_wp2_with fail
    refine (impl_isBase _ _).mono ?_; rintro e w1 ⟨rfl, rfl⟩; rw [HB.out]
    go_wp2_with fail
    go_ret
    exact ⟨ret_int HR.out.symm, Below.refl _ _⟩
  have HB := Lib.hid hb
  obtain ⟨b0, b1⟩ := inB_iff.1 hb
  obtain ⟨b, rfl⟩ := Int.eq_ofNat_of_zero_le (show 0 ≤ b by omega)
  cases hf : formB b xs
  · have HR := Lib.hid (show tfC b xs = 8 from by simp [tfC, hb, hf])
    have HF := Lib.hid hf; clear hb hf
    go_enter Try.func52, Try.ntmps52
    go_wp2_with fail
    refine (impl_isBase _ _).mono ?_; rintro e w1 ⟨rfl, rfl⟩; rw [HB.out]
    go_wp2_with fail
    refine (impl_isAddTable b _ HO.out hlen (by omega) (by omega)).mono ?_; rintro e w1 ⟨rfl, b1⟩; rw [HF.out]
    have B1 := Lib.hid b1; clear b1
    go_wp2_with fail
    go_ret
    exact ⟨ret_int HR.out.symm, B1.out⟩
  · have HR := Lib.hid (show tfC b xs = 0 from by simp [tfC, hb, hf])
    have HF := Lib.hid hf; clear hb hf
    go_enter Try.func52, Try.ntmps52
    go_wp2_with fail
    refine (impl_isBase _ _).mono ?_; rintro e w1 ⟨rfl, rfl⟩; rw [HB.out]
    go_wp2_with fail
    refine (impl_isAddTable b _ HO.out hlen (by omega) (by omega)).mono ?_; rintro e w1 ⟨rfl, b1⟩; rw [HF.out]
    have B1 := Lib.hid b1; clear b1
    go_wp2_with fail
    go_ret
    exact ⟨ret_int HR.out.symm, B1.out⟩
theorem impl_TableFault {B n : Nat} {u : Value} {xs : List Int} (b : Int) (w : World) (h1 : OwnR w B u n xs) (hlen : n ≤ 1048576) :
    Calls Try.prog 29 #[.int .i64 b, u] w (RetV w (.tuple #[.int .i64 (tfV b xs), .int .i64 (tfC b xs)])) := by
  have hz := recr_len h1
  have HO := Lib.hid h1; clear h1
  by_cases hc : tfC b xs = 0
  · have HC := Lib.hid hc
    have hc' := hc
    unfold tfC at hc'
    split at hc'
    · rename_i hb
      split at hc'
      · rename_i hf
        obtain ⟨b0, b1⟩ := inB_iff.1 hb
        obtain ⟨b, rfl⟩ := Int.eq_ofNat_of_zero_le (show 0 ≤ b by omega)
        rw [Int.toNat_natCast] at hf
        have hn : n = 2 * b * b := by
          unfold formB at hf
          rw [Bool.and_eq_true, decide_eq_true_iff] at hf
          omega
        have HV := Lib.hid (show tfV b xs = wrF xs (rtL b n) n 0 from by unfold tfV; rw [if_pos hc, Int.toNat_natCast, ← hn])
        have HNN := Lib.hid hn
        clear hc hc' hf hb hn
        go_enter Try.func29, Try.ntmps29
        go_wp2_with fail
        refine (impl_tableCode _ _ HO.out hlen).mono ?_; rintro e w1 ⟨rfl, b1'⟩; rw [HC.out]
        have B1 := Lib.hid b1'; have O1 := Lib.hid (recr_keep b1' HO.out); clear b1'
        go_wp2_with fail
        refine (impl_wrongRow b _ O1.out HNN.out (by omega) (by omega)).mono ?_; rintro e w2 ⟨rfl, b2⟩
        have B2 := Lib.hid (Below.trans_size B1.out b2); clear b2
        generalize wrF xs (rtL b n) n 0 = W at *
        go_wp2_with fail
        refine bodyPost_ret (v := .tuple #[.int .i64 W, .int .i64 0]) (by simp [results, Try.results29, go_sem, *]) rfl ?_
        exact ⟨ret_tt HV.out HC.out, B2.out⟩
      · cases hc'
    · cases hc'
  · have HV := Lib.hid (show tfV b xs = 0 from by unfold tfV; rw [if_neg hc])
    have HC := Lib.hid (fun wx h => impl_tableCode (n := n) (u := u) (B := B) (xs := xs) b wx h hlen)
    have HCV := Lib.hid (show tfC b xs = tfC b xs from rfl)
    generalize hcc : tfC b xs = cc at *
    have HCC := Lib.hid hcc; clear hcc
    go_enter Try.func29, Try.ntmps29
    go_wp2_with fail
    refine (HC.out _ HO.out).mono ?_; rintro e w1 ⟨rfl, b1⟩
    have B1 := Lib.hid b1; clear b1
    go_wp2_with fail
    refine bodyPost_ret (v := .tuple #[.int .i64 0, .int .i64 cc]) (by simp [results, Try.results29, go_sem, *]) rfl ?_
    exact ⟨by first | exact ret_tt HV.out HCC.out | exact ret_tt HV.out rfl, B1.out⟩
theorem spec_l08Code {B n : Nat} {u : Value} {xs : List Int} (b : Int) (w : World) (h1 : OwnR w B u n xs) (hlen : n ≤ 1048576) :
    Calls Try.prog 49 #[.int .i64 b, u] w (RetV w (.int .i64 (tfC b xs))) := by
  have HO := Lib.hid h1; clear h1
  cases hb : inB b 2 16
  · have HR := Lib.hid (show tfC b xs = 2 from by simp [tfC, hb])
    have HB := Lib.hid hb; clear hb
    go_enter Try.func49, Try.ntmps49
    go_wp2_with fail
    refine (spec_l02Base _ _).mono ?_; rintro e w1 ⟨rfl, rfl⟩; rw [HB.out]
    go_wp2_with fail
    go_ret
    exact ⟨ret_int HR.out.symm, Below.refl _ _⟩
  have HB := Lib.hid hb
  obtain ⟨b0, b1⟩ := inB_iff.1 hb
  obtain ⟨b, rfl⟩ := Int.eq_ofNat_of_zero_le (show 0 ≤ b by omega)
  cases hf : formB b xs
  · have HR := Lib.hid (show tfC b xs = 8 from by simp [tfC, hb, hf])
    have HF := Lib.hid hf; clear hb hf
    go_enter Try.func49, Try.ntmps49
    go_wp2_with fail
    refine (spec_l02Base _ _).mono ?_; rintro e w1 ⟨rfl, rfl⟩; rw [HB.out]
    go_wp2_with fail
    refine (spec_l08Form b _ HO.out hlen (by omega) (by omega)).mono ?_; rintro e w1 ⟨rfl, b1⟩; rw [HF.out]
    have B1 := Lib.hid b1; clear b1
    go_wp2_with fail
    go_ret
    exact ⟨ret_int HR.out.symm, B1.out⟩
  · have HR := Lib.hid (show tfC b xs = 0 from by simp [tfC, hb, hf])
    have HF := Lib.hid hf; clear hb hf
    go_enter Try.func49, Try.ntmps49
    go_wp2_with fail
    refine (spec_l02Base _ _).mono ?_; rintro e w1 ⟨rfl, rfl⟩; rw [HB.out]
    go_wp2_with fail
    refine (spec_l08Form b _ HO.out hlen (by omega) (by omega)).mono ?_; rintro e w1 ⟨rfl, b1⟩; rw [HF.out]
    have B1 := Lib.hid b1; clear b1
    go_wp2_with fail
    go_ret
    exact ⟨ret_int HR.out.symm, B1.out⟩
theorem spec_TableFault {B n : Nat} {u : Value} {xs : List Int} (b : Int) (w : World) (h1 : OwnR w B u n xs) (hlen : n ≤ 1048576) :
    Calls Try.prog 27 #[.int .i64 b, u] w (RetV w (.tuple #[.int .i64 (tfV b xs), .int .i64 (tfC b xs)])) := by
  have hz := recr_len h1
  have HO := Lib.hid h1; clear h1
  by_cases hc : tfC b xs = 0
  · have HC := Lib.hid hc
    have hc' := hc
    unfold tfC at hc'
    split at hc'
    · rename_i hb
      split at hc'
      · rename_i hf
        obtain ⟨b0, b1⟩ := inB_iff.1 hb
        obtain ⟨b, rfl⟩ := Int.eq_ofNat_of_zero_le (show 0 ≤ b by omega)
        rw [Int.toNat_natCast] at hf
        have hn : n = 2 * b * b := by
          unfold formB at hf
          rw [Bool.and_eq_true, decide_eq_true_iff] at hf
          omega
        have HV := Lib.hid (show tfV b xs = wrF xs (rtL b n) n 0 from by unfold tfV; rw [if_pos hc, Int.toNat_natCast, ← hn])
        have HNN := Lib.hid hn
        clear hc hc' hf hb hn
        go_enter Try.func27, Try.ntmps27
        go_wp2_with fail
        refine (spec_l08Code _ _ HO.out hlen).mono ?_; rintro e w1 ⟨rfl, b1'⟩; rw [HC.out]
        have B1 := Lib.hid b1'; have O1 := Lib.hid (recr_keep b1' HO.out); clear b1'
        go_wp2_with fail
        refine (spec_l08Wrong b _ O1.out HNN.out (by omega) (by omega)).mono ?_; rintro e w2 ⟨rfl, b2⟩
        have B2 := Lib.hid (Below.trans_size B1.out b2); clear b2
        generalize wrF xs (rtL b n) n 0 = W at *
        go_wp2_with fail
        refine bodyPost_ret (v := .tuple #[.int .i64 W, .int .i64 0]) (by simp [results, Try.results27, go_sem, *]) rfl ?_
        exact ⟨ret_tt HV.out HC.out, B2.out⟩
      · cases hc'
    · cases hc'
  · have HV := Lib.hid (show tfV b xs = 0 from by unfold tfV; rw [if_neg hc])
    have HC := Lib.hid (fun wx h => spec_l08Code (n := n) (u := u) (B := B) (xs := xs) b wx h hlen)
    have HCV := Lib.hid (show tfC b xs = tfC b xs from rfl)
    generalize hcc : tfC b xs = cc at *
    have HCC := Lib.hid hcc; clear hcc
    go_enter Try.func27, Try.ntmps27
    go_wp2_with fail
    refine (HC.out _ HO.out).mono ?_; rintro e w1 ⟨rfl, b1⟩
    have B1 := Lib.hid b1; clear b1
    go_wp2_with fail
    refine bodyPost_ret (v := .tuple #[.int .i64 0, .int .i64 cc]) (by simp [results, Try.results27, go_sem, *]) rfl ?_
    exact ⟨by first | exact ret_tt HV.out HCC.out | exact ret_tt HV.out rfl, B1.out⟩
end Go.Proofs.Ytcooabjcikcpiaa
