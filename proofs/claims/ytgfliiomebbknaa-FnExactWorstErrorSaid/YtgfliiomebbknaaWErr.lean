/- The worst error of rounded values: both packages return the same plain function of the values. -/
import Derived.IntWalk
import Derived.WalkSpells
import Derived.Test.YtgfliiomebbknaaInts
import Derived.Test.YtgfliiomebbknaaRound
namespace Go.Proofs.Ytgfliiomebbknaa
open Go.ChangeShapes Go.WideShapes Go.ChangeAt Go.RowKit
def isV (v : Int) : Bool := inB v (-1000000000000) 1000000000000
def rcode (zs : List Int) (u : Int) : Int := if zs.all isV then (if inB u 1 1000000 then (if 200 < zs.length then 5 else 0) else 2) else 2
set_option maxHeartbeats 400000 in
theorem impl_roundCode {B : Nat} {v : Value} {zs : List Int} (u : Int) (w : World) (h : Own w B v zs) :
    Calls Try.prog 71 #[v, .int .i64 u] w fun e w' => e = .returned (.int .i64 (rcode zs u)) ∧ w = w' := by
  obtain ⟨a, cap, rfl, hm, hc⟩ := own_form h
  have HC := Lib.hid hc; clear hc h
  go_enter Try.func71, Try.ntmps71
  go_wp2_with fail
  go_loop [6, 9] (fun _ i => ∃ j : Nat, j ≤ zs.length ∧ i = .int .i64 j ∧ (zs.take j).all isV = true) (fun _ i => zs.length - (intOf i).toNat)
  case atStart => exact ⟨0, Nat.zero_le _, rfl, rfl⟩
  case round =>
    obtain ⟨j, hj, rfl, hall⟩ := hrel
    have HA := Lib.hid hall; clear hall
    by_cases hlt : j < zs.length
    · obtain ⟨g, rfl, q⟩ := HC.out j hlt
      cases hp : inB (nth zs j) (-1000000000000) 1000000000000
      · have HR := Lib.hid (show rcode zs u = 2 from by unfold rcode; rw [all_fail hlt (p := isV) hp]; rfl)
        go_wp2_with (go_at_call 40; refine (impl_isValue _ _).mono ?_; rintro e w' ⟨rfl, rfl⟩; rw [hp])
        go_ret
        exact ⟨ret_int HR.out.symm, rfl⟩
      · have HP := Lib.hid hp
        go_wp2_with (go_at_call 40; refine (impl_isValue _ _).mono ?_; rintro e w' ⟨rfl, rfl⟩; rw [hp])
        go_round
        case rel => exact ⟨j + 1, by omega, by go_num, all_step hlt HA.out HP.out⟩
        case measure => simp [intOf]; omega
    · have HD := Lib.hid (all_done hlt HA.out)
      cases h2 : inB u 1 1000000
      · have HR := Lib.hid (show rcode zs u = 2 from by unfold rcode; rw [HD.out, h2]; rfl)
        go_wp2_with (go_at_call 41; refine (impl_isUnit _ _).mono ?_; rintro e w' ⟨rfl, rfl⟩)
        go_ret
        exact ⟨ret_int HR.out.symm, rfl⟩
      by_cases hl : 200 < zs.length
      · have HR := Lib.hid (show rcode zs u = 5 from by unfold rcode; rw [HD.out, h2]; simp [hl])
        go_wp2_with (go_at_call 41; refine (impl_isUnit _ _).mono ?_; rintro e w' ⟨rfl, rfl⟩)
        go_ret
        exact ⟨ret_int HR.out.symm, rfl⟩
      · have HR := Lib.hid (show rcode zs u = 0 from by unfold rcode; rw [HD.out, h2]; simp; omega)
        go_wp2_with (go_at_call 41; refine (impl_isUnit _ _).mono ?_; rintro e w' ⟨rfl, rfl⟩)
        go_ret
        exact ⟨ret_int HR.out.symm, rfl⟩
set_option maxHeartbeats 400000 in
theorem spec_l17Code {B : Nat} {v : Value} {zs : List Int} (u : Int) (w : World) (h : Own w B v zs) :
    Calls Try.prog 68 #[v, .int .i64 u] w fun e w' => e = .returned (.int .i64 (rcode zs u)) ∧ w = w' := by
  obtain ⟨a, cap, rfl, hm, hc⟩ := own_form h
  have HC := Lib.hid hc; clear hc h
  go_enter Try.func68, Try.ntmps68
  go_wp2_with fail
  go_loop [5] (fun i => ∃ j : Nat, j ≤ zs.length ∧ i = .int .i64 j ∧ (zs.take j).all isV = true) (fun i => zs.length - (intOf i).toNat)
  case atStart => exact ⟨0, Nat.zero_le _, rfl, rfl⟩
  case round =>
    obtain ⟨j, hj, rfl, hall⟩ := hrel
    have HA := Lib.hid hall; clear hall
    by_cases hlt : j < zs.length
    · obtain ⟨g, rfl, q⟩ := HC.out j hlt
      cases hp : inB (nth zs j) (-1000000000000) 1000000000000
      · have HR := Lib.hid (show rcode zs u = 2 from by unfold rcode; rw [all_fail hlt (p := isV) hp]; rfl)
        go_wp2_with (go_at_call 37; refine (spec_l17Most _ _).mono ?_; rintro e w' ⟨rfl, rfl⟩; rw [hp])
        go_ret
        exact ⟨ret_int HR.out.symm, rfl⟩
      · have HP := Lib.hid hp
        go_wp2_with (go_at_call 37; refine (spec_l17Most _ _).mono ?_; rintro e w' ⟨rfl, rfl⟩; rw [hp])
        go_round
        case rel => exact ⟨j + 1, by omega, by go_num, all_step hlt HA.out HP.out⟩
        case measure => simp [intOf]; omega
    · have HD := Lib.hid (all_done hlt HA.out)
      cases h2 : inB u 1 1000000
      · have HR := Lib.hid (show rcode zs u = 2 from by unfold rcode; rw [HD.out, h2]; rfl)
        go_wp2_with (go_at_call 38; refine (spec_l17Unit _ _).mono ?_; rintro e w' ⟨rfl, rfl⟩)
        go_ret
        exact ⟨ret_int HR.out.symm, rfl⟩
      by_cases hl : 200 < zs.length
      · have HR := Lib.hid (show rcode zs u = 5 from by unfold rcode; rw [HD.out, h2]; simp [hl])
        go_wp2_with (go_at_call 38; refine (spec_l17Unit _ _).mono ?_; rintro e w' ⟨rfl, rfl⟩)
        go_ret
        exact ⟨ret_int HR.out.symm, rfl⟩
      · have HR := Lib.hid (show rcode zs u = 0 from by unfold rcode; rw [HD.out, h2]; simp; omega)
        go_wp2_with (go_at_call 38; refine (spec_l17Unit _ _).mono ?_; rintro e w' ⟨rfl, rfl⟩)
        go_ret
        exact ⟨ret_int HR.out.symm, rfl⟩
/-- the error of one value -/
def verr (u v : Int) : Int := iabs (v - rnd v u * u)
def worst (u : Int) (zs : List Int) : Int := zs.foldl (fun m v => imax m (verr u v)) 0
theorem worst_snoc (u : Int) (zs : List Int) (v : Int) : worst u (zs ++ [v]) = imax (worst u zs) (verr u v) := by simp [worst, List.foldl_append]
theorem verr_bd {v u : Int} (hv : -1000000000000 ≤ v) (hv2 : v ≤ 1000000000000) (hu : 1 ≤ u) (hu2 : u ≤ 1000000) : 0 ≤ verr u v ∧ verr u v ≤ 1000000 := by
  have a := rnd_bd hv hv2 hu hu2
  unfold verr iabs
  split <;> omega
theorem verr_alt (v u : Int) : iabs (u * rnd v u - v) = verr u v := by
  unfold verr iabs
  rw [Int.mul_comm u]
  split <;> split <;> omega
theorem take_snocD (zs : List Int) (j : Nat) (hj : j < zs.length) : zs.take (j + 1) = zs.take j ++ [nth zs j] := by
  rw [List.take_succ_eq_append_getElem hj]; simp [nth, List.getD, hj]
theorem worst_bd {u : Int} (hu : 1 ≤ u) (hu2 : u ≤ 1000000) (zs : List Int) (h : zs.all isV = true) : 0 ≤ worst u zs ∧ worst u zs ≤ 1000000 := by
  have key : ∀ (l : List Int) (m : Int), l.all isV = true → 0 ≤ m → m ≤ 1000000 → 0 ≤ l.foldl (fun m v => imax m (verr u v)) m ∧ l.foldl (fun m v => imax m (verr u v)) m ≤ 1000000 := by
    intro l
    induction l with
    | nil => intro m _ h1 h2; exact ⟨h1, h2⟩
    | cons x l ih =>
      intro m h h1 h2
      simp only [List.all_cons, Bool.and_eq_true] at h
      have b := inB_iff.1 h.1
      have c := verr_bd b.1 b.2 hu hu2
      have d := imax_ge m (verr u x)
      exact ih _ h.2 (by show 0 ≤ imax m (verr u x); omega) (by show imax m (verr u x) ≤ 1000000; omega)
  exact key zs 0 h (by omega) (by omega)
def werrR (zs : List Int) (u : Int) : Int × Int := if rcode zs u = 0 then (worst u zs, 0) else (0, rcode zs u)
theorem rcode_zero {zs : List Int} {u : Int} (h : rcode zs u = 0) : zs.all isV = true ∧ 1 ≤ u ∧ u ≤ 1000000 ∧ zs.length ≤ 200 := by
  unfold rcode at h
  cases h1 : zs.all isV <;> rw [h1] at h
  · simp at h
  cases h2 : inB u 1 1000000 <;> rw [h2] at h
  · simp at h
  have := inB_iff.1 h2
  by_cases h3 : 200 < zs.length
  · simp [h3] at h
  · exact ⟨rfl, this.1, this.2, by omega⟩
theorem nthV {zs : List Int} (h : zs.all isV = true) {j : Nat} (hj : j < zs.length) : -1000000000000 ≤ nth zs j ∧ nth zs j ≤ 1000000000000 := inB_iff.1 (all_get h hj)
set_option maxHeartbeats 400000 in
theorem impl_WorstError {B : Nat} {v : Value} {zs : List Int} (u : Int) (w : World) (h : Own w B v zs) :
    Calls Try.prog 36 #[v, .int .i64 u] w (RetV w (.tuple #[.int .i64 (werrR zs u).1, .int .i64 (werrR zs u).2])) := by
  have HO := Lib.hid h
  obtain ⟨a, cap, rfl, hm, hc⟩ := own_form h
  have HC := Lib.hid hc; clear hc h
  by_cases hz : rcode zs u = 0
  · rw [show werrR zs u = (worst u zs, 0) from if_pos hz]
    obtain ⟨hall, u1, u2, hl⟩ := rcode_zero hz
    have HZ := Lib.hid hz; have HA := Lib.hid hall; clear hz hall
    go_enter Try.func36, Try.ntmps36
    go_wp2_with (go_at_call 71; refine (impl_roundCode _ _ HO.out).mono ?_; rintro e w' ⟨rfl, rfl⟩; rw [HZ.out])
    go_loop [7, 9, 18] (fun m _ i => ∃ j : Nat, j ≤ zs.length ∧ i = .int .i64 j ∧ m = .int .i64 (worst u (zs.take j))) (fun _ _ i => zs.length - (intOf i).toNat)
    case atStart => exact ⟨0, Nat.zero_le _, rfl, rfl⟩
    case round =>
      obtain ⟨j, hj, rfl, rfl⟩ := hrel
      by_cases hlt : j < zs.length
      · obtain ⟨g, rfl, q⟩ := HC.out j hlt
        obtain ⟨v1, v2⟩ := nthV HA.out hlt
        obtain ⟨c1, c2, c3, c4, -⟩ := rnd_bd v1 v2 u1 u2
        obtain ⟨e1, e2⟩ := verr_bd v1 v2 u1 u2
        have HV := Lib.hid (show iabs (nth zs j - rnd (nth zs j) u * u) = verr u (nth zs j) from rfl)
        have HS := Lib.hid (show worst u (zs.take (j + 1)) = imax (worst u (zs.take j)) (verr u (nth zs j)) from by rw [take_snocD zs j hlt, worst_snoc])
        obtain ⟨b1, b2⟩ := worst_bd u1 u2 (zs.take j) (by rw [List.all_eq_true]; intro x hx; exact (List.all_eq_true.1 HA.out) x (List.mem_of_mem_take hx))
        by_cases hmx : worst u (zs.take j) < verr u (nth zs j)
        all_goals
          go_wp2_with (first | (go_at_call 42; refine (impl_units _ _ _ v1 v2 u1 u2).mono ?_; rintro e w' ⟨rfl, rfl⟩) | (go_at_call 72; refine (impl_absolute _ _ (by omega) (by omega)).mono ?_; rintro e w' ⟨rfl, rfl⟩; rw [HV.out]))
          all_goals go_round
          case rel => exact ⟨j + 1, by omega, by go_num, by rw [HS.out]; first | rw [imax_pos (by omega)] | rw [imax_neg (by omega)]⟩
          case measure => simp [intOf]; omega
      · obtain rfl : j = zs.length := by omega
        go_wp2
        go_ret2
        exact ⟨rfl, Below.refl _ _⟩
  · rw [show werrR zs u = (0, rcode zs u) from if_neg hz]
    have hb : (rcode zs u != 0) = true := by simpa using hz
    have HC2 := Lib.hid hz; clear hz
    go_enter Try.func36, Try.ntmps36
    go_wp2_with (go_at_call 71; refine (impl_roundCode _ _ HO.out).mono ?_; rintro e w' ⟨rfl, rfl⟩)
    go_ret2
    exact ⟨rfl, Below.refl _ _⟩
set_option maxHeartbeats 400000 in
theorem spec_WorstError {B : Nat} {v : Value} {zs : List Int} (u : Int) (w : World) (h : Own w B v zs) :
    Calls Try.prog 35 #[v, .int .i64 u] w (RetV w (.tuple #[.int .i64 (werrR zs u).1, .int .i64 (werrR zs u).2])) := by
  have HO := Lib.hid h
  obtain ⟨a, cap, rfl, hm, hc⟩ := own_form h
  have HC := Lib.hid hc; clear hc h
  by_cases hz : rcode zs u = 0
  · rw [show werrR zs u = (worst u zs, 0) from if_pos hz]
    obtain ⟨hall, u1, u2, hl⟩ := rcode_zero hz
    have HZ := Lib.hid hz; have HA := Lib.hid hall; clear hz hall
    go_enter Try.func35, Try.ntmps35
    go_wp2_with (go_at_call 68; refine (spec_l17Code _ _ HO.out).mono ?_; rintro e w' ⟨rfl, rfl⟩; rw [HZ.out])
    go_loopw [7, 8] (fun m i wr => ∃ j : Nat, j ≤ zs.length ∧ i = .int .i64 j ∧ m = .int .i64 (worst u (zs.take j)) ∧ ∃ nn, wr = w.drewN nn) (fun _ i _ => zs.length - (intOf i).toNat)
    case atStart => exact ⟨0, Nat.zero_le _, rfl, rfl, 0, rfl⟩
    case round =>
      obtain ⟨j, hj, rfl, rfl, nn, rfl⟩ := hrel
      by_cases hlt : j < zs.length
      · obtain ⟨g, rfl, q⟩ := HC.out j hlt
        obtain ⟨v1, v2⟩ := nthV HA.out hlt
        obtain ⟨c1, c2, c3, c4, c5⟩ := rnd_bd v1 v2 u1 u2
        rw [c5] at c1 c2
        obtain ⟨e1, e2⟩ := verr_bd v1 v2 u1 u2
        have HV := Lib.hid (verr_alt (nth zs j) u)
        have HS := Lib.hid (show worst u (zs.take (j + 1)) = imax (worst u (zs.take j)) (verr u (nth zs j)) from by rw [take_snocD zs j hlt, worst_snoc])
        have w1 : IntKind.i64.wrap (u * rnd (nth zs j) u) = u * rnd (nth zs j) u := IntWalk.i64_in _ (by omega)
        have w2 : IntKind.i64.wrap (u * rnd (nth zs j) u - nth zs j) = u * rnd (nth zs j) u - nth zs j := IntWalk.i64_in _ (by omega)
        have g1 := Lib.hid (show -1000000000000000000 ≤ u * rnd (nth zs j) u - nth zs j from by omega)
        have g2 := Lib.hid (show u * rnd (nth zs j) u - nth zs j ≤ 1000000000000000000 from by omega)
        clear c5
        go_wp2
        go_quiet ((first | (go_at_call 39; exact quiet_same2 (spec_l17Round _ _ _ v1 v2 u1 u2)) | (go_at_call 70; exact quiet_same2 (spec_l03Size _ _ g1.out g2.out)) | (go_at_call 69; exact quiet_same2 (spec_l00Max _ _ _))))
        go_wp2
        rw [HV.out]
        go_roundw
        case rel => exact ⟨j + 1, by omega, by go_num, by rw [HS.out], _, rfl⟩
        case measure => simp [intOf]; omega
      · obtain rfl : j = zs.length := by omega
        go_wp2
        go_ret2
        exact ⟨ret_i2 (by rw [List.take_length]) rfl, below_drewN _ _⟩
  · rw [show werrR zs u = (0, rcode zs u) from if_neg hz]
    have hb : (rcode zs u != 0) = true := by simpa using hz
    have HC2 := Lib.hid hz; clear hz
    go_enter Try.func35, Try.ntmps35
    go_wp2_with (go_at_call 68; refine (spec_l17Code _ _ HO.out).mono ?_; rintro e w' ⟨rfl, rfl⟩)
    go_ret2
    exact ⟨rfl, Below.refl _ _⟩
end Go.Proofs.Ytgfliiomebbknaa
