/- Rounding to a unit, and the worst error of rounded values. -/
import Derived.IntWalk
import Derived.Test.YtgfliiomebbknaaBase
namespace Go.Proofs.Ytgfliiomebbknaa
open Go.ChangeShapes Go.WideShapes Go.ChangeAt Go.RowKit
theorem tdiv_floor (a b : Int) (hb : 0 < b) : (if a.tmod b < 0 then a.tdiv b - 1 else a.tdiv b) = a / b := by
  have h1 := Int.mul_tdiv_add_tmod a b
  have h2 := Int.mul_ediv_add_emod a b
  have h3 := Int.emod_nonneg a (show b ≠ 0 by omega)
  have h4 := Int.emod_lt_of_pos a hb
  have h5 : -b < a.tmod b ∧ a.tmod b < b := by
    have := Int.tmod_lt_of_pos a hb
    have := Int.lt_tmod_of_pos a hb
    omega
  generalize a.tdiv b = q at *
  generalize a.tmod b = r at *
  generalize a / b = p at *
  generalize a % b = s at *
  -- b * q + r = b * p + s
  have hd : b * (p - q) = r - s := by rw [Int.mul_sub]; omega
  split
  · have : p - q = -1 := by
      have lo : b * (-2) < b * (p - q) := by omega
      have hi : b * (p - q) < b * 0 := by omega
      have l2 := Int.lt_of_mul_lt_mul_left lo (by omega)
      have h2 := Int.lt_of_mul_lt_mul_left hi (by omega)
      omega
    omega
  · have : p - q = 0 := by
      have lo : b * (-1) < b * (p - q) := by omega
      have hi : b * (p - q) < b * 1 := by omega
      have l2 := Int.lt_of_mul_lt_mul_left lo (by omega)
      have h2 := Int.lt_of_mul_lt_mul_left hi (by omega)
      omega
    omega
/-- the rounded number of units -/
def rnd (v u : Int) : Int := (2 * v + u) / (2 * u)
theorem rnd_bd {v u : Int} (hv : -1000000000000 ≤ v) (hv2 : v ≤ 1000000000000) (hu : 1 ≤ u) (hu2 : u ≤ 1000000) :
    2 * (rnd v u * u) ≤ 2 * v + u ∧ 2 * v - u ≤ 2 * (rnd v u * u) ∧ -1000001000000 ≤ rnd v u ∧ rnd v u ≤ 1000001000000 ∧ rnd v u * u = u * rnd v u := by
  have h2 := Int.mul_ediv_add_emod (2 * v + u) (2 * u)
  have h3 := Int.emod_nonneg (2 * v + u) (show 2 * u ≠ 0 by omega)
  have h4 := Int.emod_lt_of_pos (2 * v + u) (show 0 < 2 * u by omega)
  unfold rnd
  generalize (2 * v + u) / (2 * u) = q at *
  generalize (2 * v + u) % (2 * u) = s at *
  have e : 2 * u * q = 2 * (q * u) := by rw [Int.mul_assoc, Int.mul_comm u q]
  rw [e] at h2
  have q1 : q ≤ 1000001000000 := by
    by_cases h : q ≤ 0
    · omega
    · have := Int.mul_le_mul_of_nonneg_left hu (show 0 ≤ q by omega); omega
  have q2 : -1000001000000 ≤ q := by
    by_cases h : 0 ≤ q
    · omega
    · have := Int.mul_le_mul_of_nonneg_left hu (show 0 ≤ -q by omega); rw [Int.neg_mul q u] at this; omega
  exact ⟨by omega, by omega, q2, q1, Int.mul_comm q u⟩
theorem tdiv_bd {a b : Int} (h1 : -1000000000000000 ≤ a) (h2 : a ≤ 1000000000000000) (h3 : 1 ≤ b) (h4 : b ≤ 1000000000) : -2000000000000000 ≤ a.tdiv b ∧ a.tdiv b ≤ 2000000000000000 := by
  have e := tdiv_floor a b (by omega)
  have k2 := Int.mul_ediv_add_emod a b
  have k3 := Int.emod_nonneg a (show b ≠ 0 by omega)
  have k4 := Int.emod_lt_of_pos a (show 0 < b by omega)
  generalize a / b = q at *
  generalize a % b = s at *
  have hq : -1500000000000000 ≤ q ∧ q ≤ 1000000000000000 := by
    by_cases h : 0 ≤ q
    · have := Int.mul_le_mul_of_nonneg_right h3 h; omega
    · have := Int.mul_le_mul_of_nonneg_right h3 (show 0 ≤ -q by omega)
      rw [Int.mul_neg b q] at this; omega
  split at e <;> omega
theorem impl_floorDiv (a b : Int) (w : World) (h1 : -1000000000000000 ≤ a) (h2 : a ≤ 1000000000000000) (h3 : 1 ≤ b) (h4 : b ≤ 1000000000) :
    Calls Try.prog 73 #[.int .i64 a, .int .i64 b] w fun e w' => e = .returned (.int .i64 (a / b)) ∧ w = w' := by
  have HT := Lib.hid (tdiv_floor a b (by omega))
  obtain ⟨t1, t2⟩ := tdiv_bd h1 h2 h3 h4
  by_cases hm : a.tmod b < 0
  all_goals
    go_enter Try.func73, Try.ntmps73
    go_wp2
    go_ret
    exact ⟨ret_int (by rw [← HT.out]; first | rw [if_pos hm] | rw [if_neg (by omega)]), rfl⟩
theorem impl_units (v u : Int) (w : World) (h1 : -1000000000000 ≤ v) (h2 : v ≤ 1000000000000) (h3 : 1 ≤ u) (h4 : u ≤ 1000000) :
    Calls Try.prog 42 #[.int .i64 v, .int .i64 u] w fun e w' => e = .returned (.int .i64 (rnd v u)) ∧ w = w' := by
  go_enter Try.func42, Try.ntmps42
  go_wp2_with (go_at_call 73; refine (impl_floorDiv _ _ _ (by omega) (by omega) (by omega) (by omega)).mono ?_; rintro e w' ⟨rfl, rfl⟩)
  go_ret
  exact ⟨rfl, rfl⟩
theorem spec_l17Round (v u : Int) (w : World) (h1 : -1000000000000 ≤ v) (h2 : v ≤ 1000000000000) (h3 : 1 ≤ u) (h4 : u ≤ 1000000) :
    Calls Try.prog 39 #[.int .i64 v, .int .i64 u] w fun e w' => e = .returned (.int .i64 (rnd v u)) ∧ w = w' := by
  have HT := Lib.hid (tdiv_floor (2 * v + u) (2 * u) (by omega))
  obtain ⟨t1, t2⟩ := tdiv_bd (a := 2 * v + u) (b := 2 * u) (by omega) (by omega) (by omega) (by omega)
  by_cases hm : (2 * v + u).tmod (2 * u) < 0
  all_goals
    go_enter Try.func39, Try.ntmps39
    go_wp2
    go_ret
    exact ⟨ret_int (by unfold rnd; rw [← HT.out]; first | rw [if_pos hm] | rw [if_neg (by omega)]), rfl⟩
def rndR (v u : Int) : Int × Int := if inB v (-1000000000000) 1000000000000 && inB u 1 1000000 then (if 1000000000000 < rnd v u * u then (0, 5) else (rnd v u * u, 0)) else (0, 2)
theorem spec_RoundTo (v u : Int) (w : World) :
    Calls Try.prog 13 #[.int .i64 v, .int .i64 u] w fun e w' => e = .returned (.tuple #[.int .i64 (rndR v u).1, .int .i64 (rndR v u).2]) ∧ w = w' := by
  cases h1 : inB v (-1000000000000) 1000000000000
  · rw [show rndR v u = (0, 2) from by simp [rndR, h1]]
    go_enter Try.func13, Try.ntmps13
    go_wp2_with (first | (go_at_call 37; refine (spec_l17Most _ _).mono ?_; rintro e w' ⟨rfl, rfl⟩) | (go_at_call 38; refine (spec_l17Unit _ _).mono ?_; rintro e w' ⟨rfl, rfl⟩))
    go_ret2
    exact ⟨rfl, rfl⟩
  cases h2 : inB u 1 1000000
  · rw [show rndR v u = (0, 2) from by simp [rndR, h2]]
    go_enter Try.func13, Try.ntmps13
    go_wp2_with (first | (go_at_call 37; refine (spec_l17Most _ _).mono ?_; rintro e w' ⟨rfl, rfl⟩) | (go_at_call 38; refine (spec_l17Unit _ _).mono ?_; rintro e w' ⟨rfl, rfl⟩))
    go_ret2
    exact ⟨rfl, rfl⟩
  obtain ⟨a1, a2⟩ := inB_iff.1 h1
  obtain ⟨b1, b2⟩ := inB_iff.1 h2
  obtain ⟨c1, c2, c3, c4, c5⟩ := rnd_bd a1 a2 b1 b2
  have HS : Hid (rndR v u = (if 1000000000000 < rnd v u * u then (0, 5) else (rnd v u * u, 0))) := by show rndR v u = _; simp [rndR, h1, h2]
  rw [c5] at HS c1 c2
  clear c5
  by_cases hm : 1000000000000 < u * rnd v u
  all_goals
    rw [HS.out]
    first | rw [if_pos hm] | rw [if_neg (by omega)]
    go_enter Try.func13, Try.ntmps13
    go_wp2_with (first | (go_at_call 37; refine (spec_l17Most _ _).mono ?_; rintro e w' ⟨rfl, rfl⟩) | (go_at_call 38; refine (spec_l17Unit _ _).mono ?_; rintro e w' ⟨rfl, rfl⟩) | (go_at_call 39; refine (spec_l17Round _ _ _ a1 a2 b1 b2).mono ?_; rintro e w' ⟨rfl, rfl⟩))
    go_ret2
    exact ⟨rfl, rfl⟩
theorem impl_RoundTo (v u : Int) (w : World) :
    Calls Try.prog 14 #[.int .i64 v, .int .i64 u] w fun e w' => e = .returned (.tuple #[.int .i64 (rndR v u).1, .int .i64 (rndR v u).2]) ∧ w = w' := by
  cases h1 : inB v (-1000000000000) 1000000000000
  · rw [show rndR v u = (0, 2) from by simp [rndR, h1]]
    go_enter Try.func14, Try.ntmps14
    go_wp2_with (first | (go_at_call 40; refine (impl_isValue _ _).mono ?_; rintro e w' ⟨rfl, rfl⟩) | (go_at_call 41; refine (impl_isUnit _ _).mono ?_; rintro e w' ⟨rfl, rfl⟩))
    go_ret2
    exact ⟨rfl, rfl⟩
  cases h2 : inB u 1 1000000
  · rw [show rndR v u = (0, 2) from by simp [rndR, h2]]
    go_enter Try.func14, Try.ntmps14
    go_wp2_with (first | (go_at_call 40; refine (impl_isValue _ _).mono ?_; rintro e w' ⟨rfl, rfl⟩) | (go_at_call 41; refine (impl_isUnit _ _).mono ?_; rintro e w' ⟨rfl, rfl⟩))
    go_ret2
    exact ⟨rfl, rfl⟩
  obtain ⟨a1, a2⟩ := inB_iff.1 h1
  obtain ⟨b1, b2⟩ := inB_iff.1 h2
  obtain ⟨c1, c2, c3, c4, c5⟩ := rnd_bd a1 a2 b1 b2
  have HS : Hid (rndR v u = (if 1000000000000 < rnd v u * u then (0, 5) else (rnd v u * u, 0))) := by show rndR v u = _; simp [rndR, h1, h2]
  clear c5
  by_cases hm : 1000000000000 < rnd v u * u
  all_goals
    rw [HS.out]
    first | rw [if_pos hm] | rw [if_neg (by omega)]
    go_enter Try.func14, Try.ntmps14
    go_wp2_with (first | (go_at_call 40; refine (impl_isValue _ _).mono ?_; rintro e w' ⟨rfl, rfl⟩) | (go_at_call 41; refine (impl_isUnit _ _).mono ?_; rintro e w' ⟨rfl, rfl⟩) | (go_at_call 42; refine (impl_units _ _ _ a1 a2 b1 b2).mono ?_; rintro e w' ⟨rfl, rfl⟩))
    go_ret2
    exact ⟨rfl, rfl⟩
end Go.Proofs.Ytgfliiomebbknaa
