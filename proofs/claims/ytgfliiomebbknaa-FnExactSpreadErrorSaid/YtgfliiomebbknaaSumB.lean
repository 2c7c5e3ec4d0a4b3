/- The laws' functions over the capped sum. -/
import Derived.IntWalk
import Derived.Test.YtgfliiomebbknaaSum
namespace Go.Proofs.Ytgfliiomebbknaa
open Go.ChangeShapes Go.WideShapes Go.ChangeAt Go.RowKit
set_option maxHeartbeats 400000 in
theorem impl_areSlips {B : Nat} {v : Value} {zs : List Int} (w : World) (h : Own w B v zs) :
    Calls Try.prog 67 #[v] w fun e w' => e = .returned (.bool (zs.all isSl && inB zs.length 1 9)) ∧ w = w' := by
  obtain ⟨a, cap, rfl, hm, hc⟩ := own_form h
  have HC := Lib.hid hc; clear hc h
  go_enter Try.func67, Try.ntmps67
  go_wp2_with fail
  go_loop [4, 7] (fun _ i => ∃ j : Nat, j ≤ zs.length ∧ i = .int .i64 j ∧ (zs.take j).all isSl = true) (fun _ i => zs.length - (intOf i).toNat)
  case atStart => exact ⟨0, Nat.zero_le _, rfl, rfl⟩
  case round =>
    obtain ⟨j, hj, rfl, hall⟩ := hrel
    have HA := Lib.hid hall; clear hall
    by_cases hlt : j < zs.length
    · obtain ⟨g, rfl, q⟩ := HC.out j hlt
      cases hp : isSl (nth zs j)
      · have HR := Lib.hid (show (zs.all isSl && inB zs.length 1 9) = false from by rw [all_fail hlt hp]; rfl)
        change inB _ _ _ = false at hp
        go_wp2_with (go_at_call 54; refine (impl_isSlip _ _).mono ?_; rintro e w' ⟨rfl, rfl⟩; rw [hp])
        go_ret
        exact ⟨congrArg (fun b => Ending.returned (.bool b)) HR.out.symm, rfl⟩
      · have HP := Lib.hid hp
        change inB _ _ _ = true at hp
        go_wp2_with (go_at_call 54; refine (impl_isSlip _ _).mono ?_; rintro e w' ⟨rfl, rfl⟩; rw [hp])
        go_round
        case rel => exact ⟨j + 1, by omega, by go_num, all_step hlt HA.out HP.out⟩
        case measure => simp [intOf]; omega
    · have HD := Lib.hid (all_done hlt HA.out)
      cases h2 : inB zs.length 1 9
      all_goals
        have HR := Lib.hid (show (zs.all isSl && inB zs.length 1 9) = _ from by rw [HD.out, h2])
        go_wp2_with (first | (go_at_call 47; refine (impl_between _ _ _ _).mono ?_; rintro e w' ⟨rfl, rfl⟩))
        go_ret
        exact ⟨congrArg (fun b => Ending.returned (.bool b)) HR.out.symm, rfl⟩
set_option maxHeartbeats 400000 in
theorem spec_l17Slips {B : Nat} {v : Value} {zs : List Int} (w : World) (h : Own w B v zs) :
    Calls Try.prog 66 #[v] w fun e w' => e = .returned (.bool (zs.all isSl && inB zs.length 1 9)) ∧ w = w' := by
  obtain ⟨a, cap, rfl, hm, hc⟩ := own_form h
  have HC := Lib.hid hc; clear hc h
  go_enter Try.func66, Try.ntmps66
  go_wp2_with fail
  go_loop [3] (fun i => ∃ j : Nat, j ≤ zs.length ∧ i = .int .i64 j ∧ (zs.take j).all isSl = true) (fun i => zs.length - (intOf i).toNat)
  case atStart => exact ⟨0, Nat.zero_le _, rfl, rfl⟩
  case round =>
    obtain ⟨j, hj, rfl, hall⟩ := hrel
    have HA := Lib.hid hall; clear hall
    by_cases hlt : j < zs.length
    · obtain ⟨g, rfl, q⟩ := HC.out j hlt
      cases hp : isSl (nth zs j)
      · have HR := Lib.hid (show (zs.all isSl && inB zs.length 1 9) = false from by rw [all_fail hlt hp]; rfl)
        change inB _ _ _ = false at hp
        go_wp2_with (go_at_call 44; refine (spec_l00In _ _ _ _).mono ?_; rintro e w' ⟨rfl, rfl⟩; rw [hp])
        go_ret
        exact ⟨congrArg (fun b => Ending.returned (.bool b)) HR.out.symm, rfl⟩
      · have HP := Lib.hid hp
        change inB _ _ _ = true at hp
        go_wp2_with (go_at_call 44; refine (spec_l00In _ _ _ _).mono ?_; rintro e w' ⟨rfl, rfl⟩; rw [hp])
        go_round
        case rel => exact ⟨j + 1, by omega, by go_num, all_step hlt HA.out HP.out⟩
        case measure => simp [intOf]; omega
    · have HD := Lib.hid (all_done hlt HA.out)
      cases h2 : inB zs.length 1 9
      all_goals
        have HR := Lib.hid (show (zs.all isSl && inB zs.length 1 9) = _ from by rw [HD.out, h2])
        go_wp2_with (first | (go_at_call 44; refine (spec_l00In _ _ _ _).mono ?_; rintro e w' ⟨rfl, rfl⟩))
        go_ret
        exact ⟨congrArg (fun b => Ending.returned (.bool b)) HR.out.symm, rfl⟩
def sumR (zs : List Int) (n : Int) : Int × Int := if slipsOk zs && inB n 0 100000 then (if 1000000000000 < psum zs n.toNat zs.length then (0, 5) else (psum zs n.toNat zs.length, 0)) else (0, 2)
theorem slipsOk_parts {zs : List Int} (h : slipsOk zs = true) : zs.all isSl = true ∧ 1 ≤ zs.length ∧ zs.length ≤ 9 := by
  simp only [slipsOk, Bool.and_eq_true] at h
  have := inB_iff.1 h.2
  exact ⟨h.1, by omega, by omega⟩
theorem spec_SumBound {B : Nat} {v : Value} {zs : List Int} (n : Int) (w : World) (h : Own w B v zs) :
    Calls Try.prog 32 #[v, .int .i64 n] w (RetV w (.tuple #[.int .i64 (sumR zs n).1, .int .i64 (sumR zs n).2])) := by
  have HO := Lib.hid h; clear h
  cases h1 : slipsOk zs
  · rw [show sumR zs n = (0, 2) from by simp [sumR, h1]]
    have H1 := Lib.hid (show (zs.all isSl && inB zs.length 1 9) = false from h1); clear h1
    go_enter Try.func32, Try.ntmps32
    go_wp2_with fail
    refine (spec_l17Slips _ HO.out).mono ?_; rintro e w' ⟨rfl, rfl⟩; rw [H1.out]
    go_wp2_with fail
    go_ret2
    exact ⟨rfl, Below.refl _ _⟩
  obtain ⟨hall, _, hl⟩ := slipsOk_parts h1
  have HA := Lib.hid hall; clear hall
  cases h2 : inB n 0 100000
  · rw [show sumR zs n = (0, 2) from by simp [sumR, h1, h2]]
    have H1 := Lib.hid (show (zs.all isSl && inB zs.length 1 9) = true from h1); clear h1
    go_enter Try.func32, Try.ntmps32
    go_wp2_with fail
    refine (spec_l17Slips _ HO.out).mono ?_; rintro e w' ⟨rfl, rfl⟩; rw [H1.out]
    go_wp2_with (go_at_call 44; refine (spec_l00In _ _ _ _).mono ?_; rintro e w' ⟨rfl, rfl⟩)
    go_ret2
    exact ⟨rfl, Below.refl _ _⟩
  obtain ⟨n0, n1⟩ := inB_iff.1 h2
  have HR := Lib.hid (show sumR zs n = (if 1000000000000 < psum zs n.toNat zs.length then (0, 5) else (psum zs n.toNat zs.length, 0)) from by simp [sumR, h1, h2])
  have H1 := Lib.hid (show (zs.all isSl && inB zs.length 1 9) = true from h1); clear h1
  have p0 := psum_nonneg (n := n.toNat) (slip_nonneg HA.out) zs.length
  by_cases big : 1000000000000 < psum zs n.toNat zs.length
  all_goals
    rw [HR.out]
    first | rw [if_pos big] | rw [if_neg (by omega)]
    go_enter Try.func32, Try.ntmps32
    go_wp2_with fail
    refine (spec_l17Slips _ HO.out).mono ?_; rintro e w' ⟨rfl, rfl⟩; rw [H1.out]
    go_wp2_with fail
    refine (spec_l00In _ _ _ _).mono ?_; rintro e w' ⟨rfl, rfl⟩; rw [h2]
    go_wp2_with fail
    refine (spec_l17Sum _ _ HO.out n0 n1 HA.out hl).mono ?_; rintro e w1 ⟨rfl, b2⟩; have B2 := Lib.hid b2; clear b2
    first | rw [capM_big big] | rw [capM_small (by omega)]
    go_wp2_with fail
    go_ret2
    exact ⟨rfl, B2.out⟩
theorem impl_SumBound {B : Nat} {v : Value} {zs : List Int} (n : Int) (w : World) (h : Own w B v zs) :
    Calls Try.prog 34 #[v, .int .i64 n] w (RetV w (.tuple #[.int .i64 (sumR zs n).1, .int .i64 (sumR zs n).2])) := by
  have HO := Lib.hid h; clear h
  cases h1 : slipsOk zs
  · rw [show sumR zs n = (0, 2) from by simp [sumR, h1]]
    have H1 := Lib.hid (show (zs.all isSl && inB zs.length 1 9) = false from h1); clear h1
    go_enter Try.func34, Try.ntmps34
    go_wp2_with fail
    refine (impl_areSlips _ HO.out).mono ?_; rintro e w' ⟨rfl, rfl⟩; rw [H1.out]
    go_wp2_with fail
    go_ret2
    exact ⟨rfl, Below.refl _ _⟩
  obtain ⟨hall, _, hl⟩ := slipsOk_parts h1
  have HA := Lib.hid hall; clear hall
  cases h2 : inB n 0 100000
  · rw [show sumR zs n = (0, 2) from by simp [sumR, h1, h2]]
    have H1 := Lib.hid (show (zs.all isSl && inB zs.length 1 9) = true from h1); clear h1
    go_enter Try.func34, Try.ntmps34
    go_wp2_with fail
    refine (impl_areSlips _ HO.out).mono ?_; rintro e w' ⟨rfl, rfl⟩; rw [H1.out]
    go_wp2_with (go_at_call 61; refine (impl_isStepCount _ _).mono ?_; rintro e w' ⟨rfl, rfl⟩)
    go_ret2
    exact ⟨rfl, Below.refl _ _⟩
  obtain ⟨n0, n1⟩ := inB_iff.1 h2
  have HR := Lib.hid (show sumR zs n = (if 1000000000000 < psum zs n.toNat zs.length then (0, 5) else (psum zs n.toNat zs.length, 0)) from by simp [sumR, h1, h2])
  have H1 := Lib.hid (show (zs.all isSl && inB zs.length 1 9) = true from h1); clear h1
  have p0 := psum_nonneg (n := n.toNat) (slip_nonneg HA.out) zs.length
  by_cases big : 1000000000000 < psum zs n.toNat zs.length
  all_goals
    rw [HR.out]
    first | rw [if_pos big] | rw [if_neg (by omega)]
    go_enter Try.func34, Try.ntmps34
    go_wp2_with fail
    refine (impl_areSlips _ HO.out).mono ?_; rintro e w' ⟨rfl, rfl⟩; rw [H1.out]
    go_wp2_with fail
    refine (impl_isStepCount _ _).mono ?_; rintro e w' ⟨rfl, rfl⟩; rw [h2]
    go_wp2_with fail
    refine (impl_sumBound _ _ HO.out n0 n1 HA.out hl).mono ?_; rintro e w1 ⟨rfl, rfl⟩
    first | rw [capM_big big] | rw [capM_small (by omega)]
    go_wp2_with fail
    go_ret2
    exact ⟨rfl, Below.refl _ _⟩
end Go.Proofs.Ytgfliiomebbknaa
