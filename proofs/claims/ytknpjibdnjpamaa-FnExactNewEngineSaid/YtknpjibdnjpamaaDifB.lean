/- Tables and their differences: tests, degrees, first differences: the functions of both packages. -/
import Derived.IntWalk
import Derived.Test.YtknpjibdnjpamaaDif
namespace Go.Proofs.Ytknpjibdnjpamaa
open Go.ChangeShapes Go.WideShapes Go.ChangeAt Go.RowKit
def isE (n : Int) : Bool := inB n (-1000000000) 1000000000
def isZ (n : Int) : Bool := n == 0
def valB (zs : List Int) : Bool := zs.all isE && inB zs.length 1 30
def coefB (zs : List Int) : Bool := zs.all isE && inB zs.length 1 9
theorem valB_parts {zs : List Int} (h : valB zs = true) : bdd 1000000000 zs ∧ 1 ≤ zs.length ∧ zs.length ≤ 30 := by
  simp only [valB, Bool.and_eq_true] at h
  have a := inB_iff.1 h.2
  exact ⟨fun x hx => inB_iff.1 (List.all_eq_true.1 h.1 x hx), by omega, by omega⟩
theorem coefB_parts {zs : List Int} (h : coefB zs = true) : bdd 1000000000 zs ∧ 1 ≤ zs.length ∧ zs.length ≤ 9 := by
  simp only [coefB, Bool.and_eq_true] at h
  have a := inB_iff.1 h.2
  exact ⟨fun x hx => inB_iff.1 (List.all_eq_true.1 h.1 x hx), by omega, by omega⟩
theorem nth_bd {b : Int} {zs : List Int} (h : bdd b zs) {j : Nat} (hj : j < zs.length) : -b ≤ nth zs j ∧ nth zs j ≤ b := bdd_at h hj
set_option maxHeartbeats 400000 in
theorem spec_l15Entries {B : Nat} {v : Value} {zs : List Int} (w : World) (h : Own w B v zs) :
    Calls Try.prog 40 #[v] w fun e w' => e = .returned (.bool (zs.all isE)) ∧ w = w' := by
  obtain ⟨a, cap, rfl, hm, hc⟩ := own_form h
  have HC := Lib.hid hc; clear hc h
  go_enter Try.func40, Try.ntmps40
  go_wp2_with fail
  go_loop [3] (fun i => ∃ j : Nat, j ≤ zs.length ∧ i = .int .i64 j ∧ (zs.take j).all isE = true) (fun i => zs.length - (intOf i).toNat)
  case atStart => exact ⟨0, Nat.zero_le _, rfl, rfl⟩
  case round =>
    obtain ⟨j, hj, rfl, hall⟩ := hrel
    have HA := Lib.hid hall; clear hall
    by_cases hlt : j < zs.length
    · obtain ⟨g, rfl, q⟩ := HC.out j hlt
      cases hp : isE (nth zs j)
      · have HR := Lib.hid (show (zs.all isE) = false from by first | (rw [all_fail hlt hp]; done) | (rw [all_fail hlt hp]; rfl))
        change inB _ _ _ = false at hp
        go_wp2_with (go_at_call 38; refine (spec_l00In _ _ _ _).mono ?_; rintro e w' ⟨rfl, rfl⟩; rw [hp])
        go_ret
        exact ⟨congrArg (fun b => Ending.returned (.bool b)) HR.out.symm, rfl⟩
      · have HP := Lib.hid hp
        change inB _ _ _ = true at hp
        go_wp2_with (go_at_call 38; refine (spec_l00In _ _ _ _).mono ?_; rintro e w' ⟨rfl, rfl⟩; rw [hp])
        go_round
        case rel => exact ⟨j + 1, by omega, by go_num, all_step hlt HA.out HP.out⟩
        case measure => simp [intOf]; omega
    · have HD := Lib.hid (all_done hlt HA.out)
      go_wp2
      go_ret
      exact ⟨congrArg (fun b => Ending.returned (.bool b)) HD.out.symm, rfl⟩
set_option maxHeartbeats 400000 in
theorem impl_areEntries {B : Nat} {v : Value} {zs : List Int} (m : Int) (w : World) (h : Own w B v zs) :
    Calls Try.prog 42 #[v, .int .i64 m] w fun e w' => e = .returned (.bool (zs.all isE && inB zs.length 1 m)) ∧ w = w' := by
  obtain ⟨a, cap, rfl, hm, hc⟩ := own_form h
  have HC := Lib.hid hc; clear hc h
  go_enter Try.func42, Try.ntmps42
  go_wp2_with fail
  go_loop [6, 9] (fun _ i => ∃ j : Nat, j ≤ zs.length ∧ i = .int .i64 j ∧ (zs.take j).all isE = true) (fun _ i => zs.length - (intOf i).toNat)
  case atStart => exact ⟨0, Nat.zero_le _, rfl, rfl⟩
  case round =>
    obtain ⟨j, hj, rfl, hall⟩ := hrel
    have HA := Lib.hid hall; clear hall
    by_cases hlt : j < zs.length
    · obtain ⟨g, rfl, q⟩ := HC.out j hlt
      cases hp : isE (nth zs j)
      · have HR := Lib.hid (show (zs.all isE && inB zs.length 1 m) = false from by rw [all_fail hlt hp]; rfl)
        change inB _ _ _ = false at hp
        go_wp2_with (go_at_call 28; refine (impl_between _ _ _ _).mono ?_; rintro e w' ⟨rfl, rfl⟩; rw [hp])
        go_ret
        exact ⟨congrArg (fun b => Ending.returned (.bool b)) HR.out.symm, rfl⟩
      · have HP := Lib.hid hp
        change inB _ _ _ = true at hp
        go_wp2_with (go_at_call 28; refine (impl_between _ _ _ _).mono ?_; rintro e w' ⟨rfl, rfl⟩; rw [hp])
        go_round
        case rel => exact ⟨j + 1, by omega, by go_num, all_step hlt HA.out HP.out⟩
        case measure => simp [intOf]; omega
    · have HD := Lib.hid (all_done hlt HA.out)
      by_cases h1 : (1 : Int) ≤ (zs.length : Int)
      · by_cases h2 : (zs.length : Int) ≤ m
        · have HR := Lib.hid (show (zs.all isE && inB zs.length 1 m) = true from by rw [HD.out, inB_true h1 h2]; rfl)
          go_wp2
          go_ret
          exact ⟨congrArg (fun b => Ending.returned (.bool b)) HR.out.symm, rfl⟩
        · have HR := Lib.hid (show (zs.all isE && inB zs.length 1 m) = false from by rw [HD.out, inB_false (by omega)]; rfl)
          go_wp2
          go_ret
          exact ⟨congrArg (fun b => Ending.returned (.bool b)) HR.out.symm, rfl⟩
      · have HR := Lib.hid (show (zs.all isE && inB zs.length 1 m) = false from by rw [HD.out, inB_false (by omega)]; rfl)
        go_wp2
        go_ret
        exact ⟨congrArg (fun b => Ending.returned (.bool b)) HR.out.symm, rfl⟩
theorem impl_areCoefs {B : Nat} {v : Value} {zs : List Int} (w : World) (h : Own w B v zs) :
    Calls Try.prog 33 #[v] w fun e w' => e = .returned (.bool (coefB zs)) ∧ w = w' := by
  have HO := Lib.hid h; clear h
  go_enter Try.func33, Try.ntmps33
  go_wp2_with (go_at_call 42; refine (impl_areEntries _ _ HO.out).mono ?_; rintro e w' ⟨rfl, rfl⟩)
  go_ret
  exact ⟨rfl, rfl⟩
theorem spec_l15Coefs {B : Nat} {v : Value} {zs : List Int} (w : World) (h : Own w B v zs) :
    Calls Try.prog 30 #[v] w fun e w' => e = .returned (.bool (coefB zs)) ∧ w = w' := by
  have HO := Lib.hid h
  obtain ⟨a, cap, rfl, hm, -⟩ := own_form h
  clear h
  cases hl : inB zs.length 1 9
  · have HR := Lib.hid (show coefB zs = false from by simp [coefB, hl])
    go_enter Try.func30, Try.ntmps30
    go_wp2_with (go_at_call 38; refine (spec_l00In _ _ _ _).mono ?_; rintro e w' ⟨rfl, rfl⟩; rw [hl])
    go_ret
    exact ⟨congrArg (fun b => Ending.returned (.bool b)) HR.out.symm, rfl⟩
  · have HR := Lib.hid (show coefB zs = zs.all isE from by simp [coefB, hl])
    go_enter Try.func30, Try.ntmps30
    go_wp2_with (first | (go_at_call 38; refine (spec_l00In _ _ _ _).mono ?_; rintro e w' ⟨rfl, rfl⟩; rw [hl]) | (go_at_call 40; refine (spec_l15Entries _ HO.out).mono ?_; rintro e w' ⟨rfl, rfl⟩))
    go_ret
    exact ⟨congrArg (fun b => Ending.returned (.bool b)) HR.out.symm, rfl⟩
def hasDeg (zs : List Int) (d : Nat) : Bool := decide (zs.length ≤ d + 1) || (difN zs (d + 1)).all isZ
def degF (zs : List Int) : Nat → Nat → Nat
  | 0, d => d
  | f + 1, d => if hasDeg zs d then d else degF zs f (d + 1)
def degOf (zs : List Int) : Nat := degF zs 30 0
theorem hasDeg_end {zs : List Int} {d : Nat} (h : hasDeg zs d = false) : d + 1 < zs.length := by
  simp only [hasDeg, Bool.or_eq_false_iff, decide_eq_false_iff_not] at h; omega
theorem degF_step {zs : List Int} {j : Nat} (hj : j < 30) (h : hasDeg zs j = false) : degF zs (30 - j) j = degF zs (30 - (j + 1)) (j + 1) := by
  rw [show 30 - j = (30 - (j + 1)) + 1 by omega]
  show (if hasDeg zs j then _ else _) = _
  rw [h]; rfl
theorem degF_stop {zs : List Int} {j : Nat} (hj : j < 30) (h : hasDeg zs j = true) : degF zs (30 - j) j = j := by
  rw [show 30 - j = (30 - (j + 1)) + 1 by omega]
  show (if hasDeg zs j then _ else _) = _
  rw [h]; rfl
theorem degF_le (zs : List Int) (h1 : 1 ≤ zs.length) (h2 : zs.length ≤ 30) : ∀ f j, f = 30 - j → j < zs.length → degF zs f j < zs.length := by
  intro f
  induction f with
  | zero => intro j hf hj; omega
  | succ f ih =>
    intro j hf hj
    show (if hasDeg zs j then j else degF zs f (j + 1)) < _
    cases h : hasDeg zs j
    · have := hasDeg_end h
      exact ih (j + 1) (by omega) (by omega)
    · exact hj
theorem degOf_lt {zs : List Int} (h1 : 1 ≤ zs.length) (h2 : zs.length ≤ 30) : degOf zs < zs.length := degF_le zs h1 h2 30 0 rfl (by omega)
end Go.Proofs.Ytknpjibdnjpamaa
