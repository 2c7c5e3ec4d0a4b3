/- TableFault of both packages. -/
import Derived.IntWalk
import Derived.Deep.QuietTactic
import Derived.BigQuiet
import Derived.Deep.RegionWith
import Derived.Test.YtkhjmokjbiepgaaAdtF
import Derived.Test.YtkhjmokjbiepgaaAdtG
namespace Go.Proofs.Ytkhjmokjbiepgaa
open Go.ChangeShapes Go.WideShapes Go.ChangeAt Go.RowKit
theorem impl_tableCode {B n : Nat} {u : Value} {xs : List Int} (b : Int) (w : World) (h1 : OwnR w B u n xs) (hlen : n ≤ 1048576) :
    Calls Try.prog 47 #[.int .i64 b, u] w (RetV w (.int .i64 (tfC b xs))) := by
  have HO := Lib.hid h1; clear h1
  cases hb : inB b 2 16
  · have HR := Lib.hid (show tfC b xs = 2 from by simp [tfC, hb])
    have HB := Lib.hid hb; clear hb
    go_enter Try.func47, Try.ntmps47
    go_wp2_with fail
    refine (impl_isBase _ _).mono ?_; rintro e w1 ⟨rfl, rfl⟩; rw [HB.out]
    go_wp2_with fail
    go_ret
    exact ⟨ret_int HR.out.symm, Below.refl _ _⟩
  have HB := Lib.hid hb
  obtain ⟨b0, b1⟩ := inB_iff.1 hb
  obtain ⟨b, rfl⟩ := Int.eq_ofNat_of_zero_le (show 0 ≤ b by omega)
  cases hf : formB b xs
  · have HR := Lib.hid (show tfC b xs = 8 from by simp [tfC, hb, hf])
    have HF := Lib.hid hf; clear hb hf
    go_enter Try.func47, Try.ntmps47
    go_wp2_with fail
    refine (impl_isBase _ _).mono ?_; rintro e w1 ⟨rfl, rfl⟩; rw [HB.out]
    go_wp2_with fail
    refine (impl_isAddTable b _ HO.out hlen (by omega) (by omega)).mono ?_; rintro e w1 ⟨rfl, b1⟩; rw [HF.out]
    have B1 := Lib.hid b1; clear b1
    go_wp2_with fail
    go_ret
    exact ⟨ret_int HR.out.symm, B1.out⟩
  · have HR := Lib.hid (show tfC b xs = 0 from by simp [tfC, hb, hf])
    have HF := Lib.hid hf; clear hb hf
    go_enter Try.func47, Try.ntmps47
    go_wp2_with fail
    refine (impl_isBase _ _).mono ?_; rintro e w1 ⟨rfl, rfl⟩; rw [HB.out]
    go_wp2_with fail
    refine (impl_isAddTable b _ HO.out hlen (by omega) (by omega)).mono ?_; rintro e w1 ⟨rfl, b1⟩; rw [HF.out]
    have B1 := Lib.hid b1; clear b1
    go_wp2_with fail
    go_ret
    exact ⟨ret_int HR.out.symm, B1.out⟩
theorem spec_l08Code {B n : Nat} {u : Value} {xs : List Int} (b : Int) (w : World) (h1 : OwnR w B u n xs) (hlen : n ≤ 1048576) :
    Calls Try.prog 44 #[.int .i64 b, u] w (RetV w (.int .i64 (tfC b xs))) := by
  have HO := Lib.hid h1; clear h1
  cases hb : inB b 2 16
  · have HR := Lib.hid (show tfC b xs = 2 from by simp [tfC, hb])
    have HB := Lib.hid hb; clear hb
    go_enter Try.func44, Try.ntmps44
    go_wp2_with fail
    refine (spec_l02Base _ _).mono ?_; rintro e w1 ⟨rfl, rfl⟩; rw [HB.out]
    go_wp2_with fail
    go_ret
    exact ⟨ret_int HR.out.symm, Below.refl _ _⟩
  have HB := Lib.hid hb
  obtain ⟨b0, b1⟩ := inB_iff.1 hb
  obtain ⟨b, rfl⟩ := Int.eq_ofNat_of_zero_le (show 0 ≤ b by omega)
  cases hf : formB b xs
  · have HR := Lib.hid (show tfC b xs = 8 from by simp [tfC, hb, hf])
    have HF := Lib.hid hf; clear hb hf
    go_enter Try.func44, Try.ntmps44
    go_wp2_with fail
    refine (spec_l02Base _ _).mono ?_; rintro e w1 ⟨rfl, rfl⟩; rw [HB.out]
    go_wp2_with fail
    refine (spec_l08Form b _ HO.out hlen (by omega) (by omega)).mono ?_; rintro e w1 ⟨rfl, b1⟩; rw [HF.out]
    have B1 := Lib.hid b1; clear b1
    go_wp2_with fail
    go_ret
    exact ⟨ret_int HR.out.symm, B1.out⟩
  · have HR := Lib.hid (show tfC b xs = 0 from by simp [tfC, hb, hf])
    have HF := Lib.hid hf; clear hb hf
    go_enter Try.func44, Try.ntmps44
    go_wp2_with fail
    refine (spec_l02Base _ _).mono ?_; rintro e w1 ⟨rfl, rfl⟩; rw [HB.out]
    go_wp2_with fail
    refine (spec_l08Form b _ HO.out hlen (by omega) (by omega)).mono ?_; rintro e w1 ⟨rfl, b1⟩; rw [HF.out]
    have B1 := Lib.hid b1; clear b1
    go_wp2_with fail
    go_ret
    exact ⟨ret_int HR.out.symm, B1.out⟩
end Go.Proofs.Ytkhjmokjbiepgaa
