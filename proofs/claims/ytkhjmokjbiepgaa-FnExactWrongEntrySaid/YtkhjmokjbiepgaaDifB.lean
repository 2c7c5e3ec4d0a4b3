/- Tables and their differences: tests, degrees, first differences: the functions of both packages. -/
import Derived.IntWalk
import Derived.Test.YtkhjmokjbiepgaaDif
namespace Go.Proofs.Ytkhjmokjbiepgaa
open Go.ChangeShapes Go.WideShapes Go.ChangeAt Go.RowKit
def isE (n : Int) : Bool := inB n (-1000000000) 1000000000
def isZ (n : Int) : Bool := n == 0
def valB (zs : List Int) : Bool := zs.all isE && inB zs.length 1 30
def coefB (zs : List Int) : Bool := zs.all isE && inB zs.length 1 9
theorem valB_parts {zs : List Int} (h : valB zs = true) : bdd 1000000000 zs ∧ 1 ≤ zs.length ∧ zs.length ≤ 30 := by
  simp only [valB, Bool.and_eq_true] at h
  have a := inB_iff.1 h.2
  exact ⟨fun x hx => inB_iff.1 (List.all_eq_true.1 h.1 x hx), by omega, by omega⟩
theorem coefB_parts {zs : List Int} (h : coefB zs = true) : bdd 1000000000 zs ∧ 1 ≤ zs.length ∧ zs.length ≤ 9 := by
  simp only [coefB, Bool.and_eq_true] at h
  have a := inB_iff.1 h.2
  exact ⟨fun x hx => inB_iff.1 (List.all_eq_true.1 h.1 x hx), by omega, by omega⟩
theorem nth_bd {b : Int} {zs : List Int} (h : bdd b zs) {j : Nat} (hj : j < zs.length) : -b ≤ nth zs j ∧ nth zs j ≤ b := bdd_at h hj
set_option maxHeartbeats 400000 in
theorem spec_l15Entries {B : Nat} {v : Value} {zs : List Int} (w : World) (h : Own w B v zs) :
    Calls Try.prog 64 #[v] w fun e w' => e = .returned (.bool (zs.all isE)) ∧ w = w' := by
  obtain ⟨a, cap, rfl, hm, hc⟩ := own_form h
  have HC := Lib.hid hc; clear hc h
  go_enter Try.func64, Try.ntmps64
  go_wp2_with fail
  go_loop [3] (fun i => ∃ j : Nat, j ≤ zs.length ∧ i = .int .i64 j ∧ (zs.take j).all isE = true) (fun i => zs.length - (intOf i).toNat)
  case atStart => exact ⟨0, Nat.zero_le _, rfl, rfl⟩
  case round =>
    obtain ⟨j, hj, rfl, hall⟩ := hrel
    have HA := Lib.hid hall; clear hall
    by_cases hlt : j < zs.length
    · obtain ⟨g, rfl, q⟩ := HC.out j hlt
      cases hp : isE (nth zs j)
      · have HR := Lib.hid (show (zs.all isE) = false from by first | (rw [all_fail hlt hp]; done) | (rw [all_fail hlt hp]; rfl))
        change inB _ _ _ = false at hp
        go_wp2_with (go_at_call 37; refine (spec_l00In _ _ _ _).mono ?_; rintro e w' ⟨rfl, rfl⟩; rw [hp])
        go_ret
        exact ⟨congrArg (fun b => Ending.returned (.bool b)) HR.out.symm, rfl⟩
      · have HP := Lib.hid hp
        change inB _ _ _ = true at hp
        go_wp2_with (go_at_call 37; refine (spec_l00In _ _ _ _).mono ?_; rintro e w' ⟨rfl, rfl⟩; rw [hp])
        go_round
        case rel => exact ⟨j + 1, by omega, by go_num, all_step hlt HA.out HP.out⟩
        case measure => simp [intOf]; omega
    · have HD := Lib.hid (all_done hlt HA.out)
      go_wp2
      go_ret
      exact ⟨congrArg (fun b => Ending.returned (.bool b)) HD.out.symm, rfl⟩
set_option maxHeartbeats 400000 in
theorem impl_areEntries {B : Nat} {v : Value} {zs : List Int} (m : Int) (w : World) (h : Own w B v zs) :
    Calls Try.prog 70 #[v, .int .i64 m] w fun e w' => e = .returned (.bool (zs.all isE && inB zs.length 1 m)) ∧ w = w' := by
  obtain ⟨a, cap, rfl, hm, hc⟩ := own_form h
  have HC := Lib.hid hc; clear hc h
  go_enter Try.func70, Try.ntmps70
  go_wp2_with fail
  go_loop [6, 9] (fun _ i => ∃ j : Nat, j ≤ zs.length ∧ i = .int .i64 j ∧ (zs.take j).all isE = true) (fun _ i => zs.length - (intOf i).toNat)
  case atStart => exact ⟨0, Nat.zero_le _, rfl, rfl⟩
  case round =>
    obtain ⟨j, hj, rfl, hall⟩ := hrel
    have HA := Lib.hid hall; clear hall
    by_cases hlt : j < zs.length
    · obtain ⟨g, rfl, q⟩ := HC.out j hlt
      cases hp : isE (nth zs j)
      · have HR := Lib.hid (show (zs.all isE && inB zs.length 1 m) = false from by rw [all_fail hlt hp]; rfl)
        change inB _ _ _ = false at hp
        go_wp2_with (go_at_call 62; refine (impl_between _ _ _ _).mono ?_; rintro e w' ⟨rfl, rfl⟩; rw [hp])
        go_ret
        exact ⟨congrArg (fun b => Ending.returned (.bool b)) HR.out.symm, rfl⟩
      · have HP := Lib.hid hp
        change inB _ _ _ = true at hp
        go_wp2_with (go_at_call 62; refine (impl_between _ _ _ _).mono ?_; rintro e w' ⟨rfl, rfl⟩; rw [hp])
        go_round
        case rel => exact ⟨j + 1, by omega, by go_num, all_step hlt HA.out HP.out⟩
        case measure => simp [intOf]; omega
    · have HD := Lib.hid (all_done hlt HA.out)
      by_cases h1 : (1 : Int) ≤ (zs.length : Int)
      · by_cases h2 : (zs.length : Int) ≤ m
        · have HR := Lib.hid (show (zs.all isE && inB zs.length 1 m) = true from by rw [HD.out, inB_true h1 h2]; rfl)
          go_wp2
          go_ret
          exact ⟨congrArg (fun b => Ending.returned (.bool b)) HR.out.symm, rfl⟩
        · have HR := Lib.hid (show (zs.all isE && inB zs.length 1 m) = false from by rw [HD.out, inB_false (by omega)]; rfl)
          go_wp2
          go_ret
          exact ⟨congrArg (fun b => Ending.returned (.bool b)) HR.out.symm, rfl⟩
      · have HR := Lib.hid (show (zs.all isE && inB zs.length 1 m) = false from by rw [HD.out, inB_false (by omega)]; rfl)
        go_wp2
        go_ret
        exact ⟨congrArg (fun b => Ending.returned (.bool b)) HR.out.symm, rfl⟩
theorem impl_areValues {B : Nat} {v : Value} {zs : List Int} (w : World) (h : Own w B v zs) :
    Calls Try.prog 40 #[v] w fun e w' => e = .returned (.bool (valB zs)) ∧ w = w' := by
  have HO := Lib.hid h; clear h
  go_enter Try.func40, Try.ntmps40
  go_wp2_with (go_at_call 70; refine (impl_areEntries _ _ HO.out).mono ?_; rintro e w' ⟨rfl, rfl⟩)
  go_ret
  exact ⟨rfl, rfl⟩
theorem spec_l15Values {B : Nat} {v : Value} {zs : List Int} (w : World) (h : Own w B v zs) :
    Calls Try.prog 36 #[v] w fun e w' => e = .returned (.bool (valB zs)) ∧ w = w' := by
  have HO := Lib.hid h
  obtain ⟨a, cap, rfl, hm, -⟩ := own_form h
  clear h
  cases hl : inB zs.length 1 30
  · have HR := Lib.hid (show valB zs = false from by simp [valB, hl])
    go_enter Try.func36, Try.ntmps36
    go_wp2_with (go_at_call 37; refine (spec_l00In _ _ _ _).mono ?_; rintro e w' ⟨rfl, rfl⟩; rw [hl])
    go_ret
    exact ⟨congrArg (fun b => Ending.returned (.bool b)) HR.out.symm, rfl⟩
  · have HR := Lib.hid (show valB zs = zs.all isE from by simp [valB, hl])
    go_enter Try.func36, Try.ntmps36
    go_wp2_with (first | (go_at_call 37; refine (spec_l00In _ _ _ _).mono ?_; rintro e w' ⟨rfl, rfl⟩; rw [hl]) | (go_at_call 64; refine (spec_l15Entries _ HO.out).mono ?_; rintro e w' ⟨rfl, rfl⟩))
    go_ret
    exact ⟨congrArg (fun b => Ending.returned (.bool b)) HR.out.symm, rfl⟩
set_option maxHeartbeats 400000 in
theorem impl_areZero {B : Nat} {v : Value} {zs : List Int} (w : World) (h : Own w B v zs) :
    Calls Try.prog 71 #[v] w fun e w' => e = .returned (.bool (zs.all isZ)) ∧ w = w' := by
  obtain ⟨a, cap, rfl, hm, hc⟩ := own_form h
  have HC := Lib.hid hc; clear hc h
  go_enter Try.func71, Try.ntmps71
  go_wp2_with fail
  go_loop [4, 7] (fun _ i => ∃ j : Nat, j ≤ zs.length ∧ i = .int .i64 j ∧ (zs.take j).all isZ = true) (fun _ i => zs.length - (intOf i).toNat)
  case atStart => exact ⟨0, Nat.zero_le _, rfl, rfl⟩
  case round =>
    obtain ⟨j, hj, rfl, hall⟩ := hrel
    have HA := Lib.hid hall; clear hall
    by_cases hlt : j < zs.length
    · obtain ⟨g, rfl, q⟩ := HC.out j hlt
      cases hp : isZ (nth zs j)
      · have HR := Lib.hid (show zs.all isZ = false from all_fail hlt hp)
        have hb : (nth zs j != 0) = true := by simpa [isZ] using hp
        clear hp
        go_wp2
        go_ret
        exact ⟨congrArg (fun b => Ending.returned (.bool b)) HR.out.symm, rfl⟩
      · have HP := Lib.hid hp
        have hb : (nth zs j != 0) = false := by simpa [isZ] using hp
        clear hp
        go_wp2
        go_round
        case rel => exact ⟨j + 1, by omega, by go_num, all_step hlt HA.out HP.out⟩
        case measure => simp [intOf]; omega
    · have HD := Lib.hid (all_done hlt HA.out)
      go_wp2
      go_ret
      exact ⟨congrArg (fun b => Ending.returned (.bool b)) HD.out.symm, rfl⟩
set_option maxHeartbeats 400000 in
theorem spec_l15Zero {B : Nat} {v : Value} {zs : List Int} (w : World) (h : Own w B v zs) :
    Calls Try.prog 65 #[v] w fun e w' => e = .returned (.bool (zs.all isZ)) ∧ w = w' := by
  obtain ⟨a, cap, rfl, hm, hc⟩ := own_form h
  have HC := Lib.hid hc; clear hc h
  go_enter Try.func65, Try.ntmps65
  go_wp2_with fail
  go_loop [3] (fun i => ∃ j : Nat, j ≤ zs.length ∧ i = .int .i64 j ∧ (zs.take j).all isZ = true) (fun i => zs.length - (intOf i).toNat)
  case atStart => exact ⟨0, Nat.zero_le _, rfl, rfl⟩
  case round =>
    obtain ⟨j, hj, rfl, hall⟩ := hrel
    have HA := Lib.hid hall; clear hall
    by_cases hlt : j < zs.length
    · obtain ⟨g, rfl, q⟩ := HC.out j hlt
      cases hp : isZ (nth zs j)
      · have HR := Lib.hid (show zs.all isZ = false from all_fail hlt hp)
        have hb : (nth zs j != 0) = true := by simpa [isZ] using hp
        clear hp
        go_wp2
        go_ret
        exact ⟨congrArg (fun b => Ending.returned (.bool b)) HR.out.symm, rfl⟩
      · have HP := Lib.hid hp
        have hb : (nth zs j != 0) = false := by simpa [isZ] using hp
        clear hp
        go_wp2
        go_round
        case rel => exact ⟨j + 1, by omega, by go_num, all_step hlt HA.out HP.out⟩
        case measure => simp [intOf]; omega
    · have HD := Lib.hid (all_done hlt HA.out)
      go_wp2
      go_ret
      exact ⟨congrArg (fun b => Ending.returned (.bool b)) HD.out.symm, rfl⟩
set_option maxHeartbeats 400000 in
theorem impl_differences {B : Nat} {v : Value} {zs : List Int} (n : Int) (w : World) (h : Own w B v zs) (h0 : 0 ≤ n) (h1 : n ≤ 40) (hl : zs.length ≤ 30) (hb : ∀ j, bdd 1000000000000000000 (difN zs j)) :
    Calls Try.prog 72 #[v, .int .i64 n] w (RetOwn w (difN zs n.toNat)) := by
  have HO := Lib.hid h; have HBD := Lib.hid hb; clear h hb
  go_enter Try.func72, Try.ntmps72
  go_wp2_with fail
  refine (impl_copyNumbers _ HO.out (by omega)).mono ?_; rintro e w1 ⟨v1, rfl, o1, b1⟩
  have O1 := Lib.hid o1; have B1 := Lib.hid b1; clear o1 b1
  have S1 := B1.out.size
  go_wp2_with fail
  go_loopw [5, 9] (fun o i wr => ∃ j : Nat, (j : Int) ≤ n ∧ i = .int .i64 j ∧ Own wr w.heap.size o (difN zs j) ∧ Below w.heap.size w wr ∧ w.heap.size ≤ wr.heap.size) (fun _ i _ => (100 - intOf i).toNat)
  case atStart => exact ⟨0, by omega, by first | rfl | simp, O1.out, B1.out, S1⟩
  case round =>
    obtain ⟨j, hj, rfl, ho, hbw, hs⟩ := hrel
    have HO2 := Lib.hid ho; have HB2 := Lib.hid hbw; clear ho hbw
    by_cases hlt : (j : Int) < n
    · go_wp2_with fail
      refine (impl_lessBefore _ HO2.out (by rw [difN_len]; omega) (HBD.out j)).mono ?_; rintro e w2 ⟨v2, rfl, o2, b2⟩
      have O2 := Lib.hid (own_base o2 hs); have B2 := Lib.hid (HB2.out.trans (b2.mono hs)); have S2 := Nat.le_trans hs b2.size; clear o2 b2
      go_wp2_with fail
      go_roundw
      case rel => exact ⟨j + 1, by omega, by first | go_num | (congr 1; omega), O2.out, B2.out, S2⟩
      case measure => first | (simp [intOf]; done) | (simp [intOf]; omega)
    · have E := Lib.hid (show n.toNat = j from by omega)
      go_wp2
      go_ret
      exact ⟨_, rfl, by rw [E.out]; exact HO2.out, HB2.out⟩
set_option maxHeartbeats 400000 in
theorem spec_l15Order {B : Nat} {v : Value} {zs : List Int} (n : Int) (w : World) (h : Own w B v zs) (h0 : 0 ≤ n) (h1 : n ≤ 40) (hl : zs.length ≤ 30) (hb : ∀ j, bdd 1000000000000000000 (difN zs j)) :
    Calls Try.prog 66 #[v, .int .i64 n] w (RetOwn w (difN zs n.toNat)) := by
  have HO := Lib.hid h; have HBD := Lib.hid hb; clear h hb
  go_enter Try.func66, Try.ntmps66
  go_wp2_with fail
  refine (spec_l00Own _ HO.out (by omega)).mono ?_; rintro e w1 ⟨v1, rfl, o1, b1⟩
  have O1 := Lib.hid o1; have B1 := Lib.hid b1; clear o1 b1
  have S1 := B1.out.size
  go_wp2_with fail
  go_loopw [1, 5] (fun i o wr => ∃ j : Nat, (j : Int) ≤ n ∧ i = .int .i64 (n - j) ∧ Own wr w.heap.size o (difN zs j) ∧ Below w.heap.size w wr ∧ w.heap.size ≤ wr.heap.size) (fun i _ _ => (intOf i).toNat)
  case atStart => exact ⟨0, by omega, by first | rfl | simp, O1.out, B1.out, S1⟩
  case round =>
    obtain ⟨j, hj, rfl, ho, hbw, hs⟩ := hrel
    have HO2 := Lib.hid ho; have HB2 := Lib.hid hbw; clear ho hbw
    by_cases hlt : (j : Int) < n
    · go_wp2_with fail
      refine (spec_l15Next _ HO2.out (by rw [difN_len]; omega) (HBD.out j)).mono ?_; rintro e w2 ⟨v2, rfl, o2, b2⟩
      have O2 := Lib.hid (own_base o2 hs); have B2 := Lib.hid (HB2.out.trans (b2.mono hs)); have S2 := Nat.le_trans hs b2.size; clear o2 b2
      go_wp2_with fail
      go_roundw
      case rel => exact ⟨j + 1, by omega, by first | go_num | (congr 1; omega), O2.out, B2.out, S2⟩
      case measure => first | (simp [intOf]; done) | (simp [intOf]; omega)
    · have E := Lib.hid (show n.toNat = j from by omega)
      go_wp2
      go_ret
      exact ⟨_, rfl, by rw [E.out]; exact HO2.out, HB2.out⟩
def hasDeg (zs : List Int) (d : Nat) : Bool := decide (zs.length ≤ d + 1) || (difN zs (d + 1)).all isZ
def degF (zs : List Int) : Nat → Nat → Nat
  | 0, d => d
  | f + 1, d => if hasDeg zs d then d else degF zs f (d + 1)
def degOf (zs : List Int) : Nat := degF zs 30 0
theorem hasDeg_end {zs : List Int} {d : Nat} (h : hasDeg zs d = false) : d + 1 < zs.length := by
  simp only [hasDeg, Bool.or_eq_false_iff, decide_eq_false_iff_not] at h; omega
theorem degF_step {zs : List Int} {j : Nat} (hj : j < 30) (h : hasDeg zs j = false) : degF zs (30 - j) j = degF zs (30 - (j + 1)) (j + 1) := by
  rw [show 30 - j = (30 - (j + 1)) + 1 by omega]
  show (if hasDeg zs j then _ else _) = _
  rw [h]; rfl
theorem degF_stop {zs : List Int} {j : Nat} (hj : j < 30) (h : hasDeg zs j = true) : degF zs (30 - j) j = j := by
  rw [show 30 - j = (30 - (j + 1)) + 1 by omega]
  show (if hasDeg zs j then _ else _) = _
  rw [h]; rfl
theorem degF_le (zs : List Int) (h1 : 1 ≤ zs.length) (h2 : zs.length ≤ 30) : ∀ f j, f = 30 - j → j < zs.length → degF zs f j < zs.length := by
  intro f
  induction f with
  | zero => intro j hf hj; omega
  | succ f ih =>
    intro j hf hj
    show (if hasDeg zs j then j else degF zs f (j + 1)) < _
    cases h : hasDeg zs j
    · have := hasDeg_end h
      exact ih (j + 1) (by omega) (by omega)
    · exact hj
theorem degOf_lt {zs : List Int} (h1 : 1 ≤ zs.length) (h2 : zs.length ≤ 30) : degOf zs < zs.length := degF_le zs h1 h2 30 0 rfl (by omega)
set_option maxHeartbeats 400000 in
theorem impl_hasDegree {B : Nat} {v : Value} {zs : List Int} (n : Int) (w : World) (h : Own w B v zs) (h0 : 0 ≤ n) (h1 : n ≤ 35) (hl : zs.length ≤ 30) (hb : ∀ j, bdd 1000000000000000000 (difN zs j)) :
    Calls Try.prog 42 #[v, .int .i64 n] w (RetV w (.bool (hasDeg zs n.toNat))) := by
  have HO := Lib.hid h; have HBD := Lib.hid hb
  obtain ⟨a, cap, rfl, hm, -⟩ := own_form h
  clear h hb
  by_cases hs : (zs.length : Int) ≤ n + 1
  · have HR := Lib.hid (show hasDeg zs n.toNat = true from by simp only [hasDeg, Bool.or_eq_true, decide_eq_true_eq]; left; omega)
    go_enter Try.func42, Try.ntmps42
    go_wp2
    go_ret
    exact ⟨congrArg (fun b => Ending.returned (.bool b)) HR.out.symm, Below.refl _ _⟩
  · have HR := Lib.hid (show hasDeg zs n.toNat = (difN zs (n + 1).toNat).all isZ from by
      simp only [hasDeg]; rw [decide_eq_false (by omega), Bool.false_or, show (n + 1).toNat = n.toNat + 1 from by omega])
    go_enter Try.func42, Try.ntmps42
    go_wp2_with fail
    refine (impl_differences _ _ HO.out (by omega) (by omega) hl HBD.out).mono ?_; rintro e w1 ⟨v1, rfl, o1, b1⟩
    have O1 := Lib.hid o1; have B1 := Lib.hid b1; clear o1 b1
    go_wp2_with fail
    refine (impl_areZero _ O1.out).mono ?_; rintro e w2 ⟨rfl, rfl⟩
    rw [← HR.out]
    go_wp2_with fail
    go_ret
    exact ⟨rfl, B1.out⟩
set_option maxHeartbeats 400000 in
theorem spec_l15Has {B : Nat} {v : Value} {zs : List Int} (n : Int) (w : World) (h : Own w B v zs) (h0 : 0 ≤ n) (h1 : n ≤ 35) (hl : zs.length ≤ 30) (hb : ∀ j, bdd 1000000000000000000 (difN zs j)) :
    Calls Try.prog 38 #[v, .int .i64 n] w (RetV w (.bool (hasDeg zs n.toNat))) := by
  have HO := Lib.hid h; have HBD := Lib.hid hb
  obtain ⟨a, cap, rfl, hm, -⟩ := own_form h
  clear h hb
  by_cases hs : (zs.length : Int) ≤ n + 1
  · have HR := Lib.hid (show hasDeg zs n.toNat = true from by simp only [hasDeg, Bool.or_eq_true, decide_eq_true_eq]; left; omega)
    go_enter Try.func38, Try.ntmps38
    go_wp2
    go_ret
    exact ⟨congrArg (fun b => Ending.returned (.bool b)) HR.out.symm, Below.refl _ _⟩
  · have HR := Lib.hid (show hasDeg zs n.toNat = (difN zs (n + 1).toNat).all isZ from by
      simp only [hasDeg]; rw [decide_eq_false (by omega), Bool.false_or, show (n + 1).toNat = n.toNat + 1 from by omega])
    go_enter Try.func38, Try.ntmps38
    go_wp2_with fail
    refine (spec_l15Order _ _ HO.out (by omega) (by omega) hl HBD.out).mono ?_; rintro e w1 ⟨v1, rfl, o1, b1⟩
    have O1 := Lib.hid o1; have B1 := Lib.hid b1; clear o1 b1
    go_wp2_with fail
    refine (spec_l15Zero _ O1.out).mono ?_; rintro e w2 ⟨rfl, rfl⟩
    rw [← HR.out]
    go_wp2_with fail
    go_ret
    exact ⟨rfl, B1.out⟩
end Go.Proofs.Ytkhjmokjbiepgaa
