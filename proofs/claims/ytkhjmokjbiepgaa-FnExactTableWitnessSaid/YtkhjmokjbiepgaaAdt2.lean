/- TableFault of both packages. -/
import Derived.IntWalk
import Derived.Deep.RegionLaw
import Derived.Deep.QuietTactic
import Derived.BigQuiet
import Derived.Test.YtkhjmokjbiepgaaAdt
namespace Go.Proofs.Ytkhjmokjbiepgaa
open Go.ChangeShapes Go.WideShapes Go.ChangeAt Go.RowKit
theorem ret_bb {c d : Bool} (h2 : c = d) : Ending.returned (.bool d) = .returned (.bool c) := by rw [h2]
theorem ret_tt {a b c d : Int} (h1 : c = a) (h2 : d = b) : Ending.returned (.tuple #[.int .i64 a, .int .i64 b]) = .returned (.tuple #[.int .i64 c, .int .i64 d]) := by rw [h1, h2]
set_option maxHeartbeats 2000000 in
theorem spec_l08Right (b i a c : Nat) (w : World) (hb : 2 ≤ b) (hb2 : b ≤ 16) (hi : i ≤ 512) (ha : a ≤ 512) (hc : c ≤ 512) :
    Calls Try.prog 89 #[.int .i64 b, .int .i64 i, .int .i64 a, .int .i64 c] w (RetV w (.agg #[.int .i64 i, .int .i64 a, .int .i64 c, .int .i64 (((i : Int) + a + c) % (b : Int)), .int .i64 (((i : Int) + a + c) / (b : Int))])) := by
  have zb : ¬ b = 0 := by omega
  have zb2 : ¬ (b : Int) = 0 := by omega
  have eT : ((i : Int) + a + c).tmod (b : Int) = ((i : Int) + a + c) % (b : Int) := Int.tmod_eq_emod_of_nonneg (by omega)
  have eQ : ((i : Int) + a + c).tdiv (b : Int) = ((i : Int) + a + c) / (b : Int) := Int.tdiv_eq_ediv_of_nonneg (by omega)
  have m0 : 0 ≤ ((i : Int) + a + c) % (b : Int) := Int.emod_nonneg _ (by omega)
  have m1 : ((i : Int) + a + c) % (b : Int) < (b : Int) := Int.emod_lt_of_pos _ (by omega)
  have q0 : 0 ≤ ((i : Int) + a + c) / (b : Int) := Int.ediv_nonneg (by omega) (by omega)
  have q1 : ((i : Int) + a + c) / (b : Int) ≤ (i : Int) + a + c := Int.ediv_le_self _ (by omega)
  generalize ((i : Int) + a + c) % (b : Int) = M at *
  generalize ((i : Int) + a + c) / (b : Int) = Q at *
  have w1 : IntKind.i64.wrap ((i : Int) + a) = (i : Int) + a := IntWalk.i64_in _ (by omega)
  have w2 : IntKind.i64.wrap ((i : Int) + a + c) = (i : Int) + a + c := IntWalk.i64_in _ (by omega)
  have w3 : IntKind.i64.wrap M = M := IntWalk.i64_in _ (by omega)
  have w4 : IntKind.i64.wrap Q = Q := IntWalk.i64_in _ (by omega)
  go_enter Try.func89, Try.ntmps89
  go_wp2_with fail
  go_region_law ((fail))
  all_goals (
  go_wp2_with fail
  refine bodyPost_ret (v := .agg #[.int .i64 i, .int .i64 a, .int .i64 c, .int .i64 M, .int .i64 Q]) (by simp [results, Try.results89, go_sem, *]) rfl ?_
  exact ⟨rfl, by first | exact below_al _ _ | exact (below_al _ _).drew | exact ((((((below_al _ _).setCell (by simp) _).setCell (by simp) _).setCell (by simp) _).setCell (by simp) _).setCell (by simp) _) | exact (((((((below_al _ _).drew).setCell (by simp) _).setCell (by simp) _).setCell (by simp) _).setCell (by simp) _).setCell (by simp) _)⟩)
set_option maxHeartbeats 4000000 in
theorem spec_l08Table (b : Nat) (w : World) (hb : 2 ≤ b) (hb2 : b ≤ 16) :
    Calls Try.prog 76 #[.int .i64 b] w (RetRec w (2 * b * b) (rtL b (2 * b * b))) := by
  have hN : 2 * b * b ≤ 512 := by
    have := Nat.mul_le_mul (show 2 * b ≤ 32 by omega) hb2
    omega
  have eN : 2 * (b : Int) * (b : Int) = ((2 * b * b : Nat) : Int) := by simp
  generalize 2 * b * b = N at *
  have wN : IntKind.i64.wrap (N : Int) = (N : Int) := IntWalk.i64_in _ (by omega)
  go_enter Try.func76, Try.ntmps76
  go_wp2_with fail
  go_loopw [3, 4] (fun vv kk wr => ∃ (k : Nat) (v : Value), vv = v ∧ k ≤ N ∧ kk = .int .i64 k ∧ OwnR wr w.heap.size v k (rtL b k) ∧ Below w.heap.size w wr ∧ w.heap.size ≤ wr.heap.size) (fun _ kk _ => N - (intOf kk).toNat)
  case atStart => exact ⟨0, _, rfl, Nat.zero_le _, rfl, recr_empty w _ (Nat.le_refl _), (Below.refl _ _).alloc (Nat.le_refl _) _, by simp⟩
  case round =>
    obtain ⟨k, v, rfl, hk, rfl, ho, hbw, hs⟩ := hrel
    obtain ⟨av, cv, rfl, -, -⟩ := recr_form ho
    have HO := Lib.hid ho; have HBW := Lib.hid hbw; clear ho hbw
    by_cases hlt : k < N
    · have zb : ¬ b = 0 := by omega
      have zb2 : ¬ (b : Int) = 0 := by omega
      have bK1 : k / b ≤ k := Nat.div_le_self _ _
      have bK2 : k / b / b ≤ k / b := Nat.div_le_self _ _
      have bK3 : k / b % b < b := Nat.mod_lt _ (by omega)
      have bK4 : k % b < b := Nat.mod_lt _ (by omega)
      have RR := Lib.hid (fun wx => spec_l08Right b (k / b / b) (k / b % b) (k % b) wx hb hb2 (by omega) (by omega) (by omega))
      have HROW := Lib.hid (show rtL b k ++ [((k / b / b : Nat) : Int), ((k / b % b : Nat) : Int), ((k % b : Nat) : Int), (((k / b / b : Nat) : Int) + ((k / b % b : Nat) : Int) + ((k % b : Nat) : Int)) % (b : Int), (((k / b / b : Nat) : Int) + ((k / b % b : Nat) : Int) + ((k % b : Nat) : Int)) / (b : Int)] = rtL b (k + 1) from by
        show _ = rtL b k ++ rowOf b k
        unfold rowOf; simp only [Int.natCast_add])
      have d1 : (k : Int) / (b : Int) = ((k / b : Nat) : Int) := rfl
      have d2 : ((k / b : Nat) : Int) / (b : Int) = ((k / b / b : Nat) : Int) := rfl
      have d3 : ((k / b : Nat) : Int) % (b : Int) = ((k / b % b : Nat) : Int) := rfl
      have d4 : (k : Int) % (b : Int) = ((k % b : Nat) : Int) := rfl
      have t1 : (k : Int).tdiv (b : Int) = ((k / b : Nat) : Int) := rfl
      have t2 : ((k / b : Nat) : Int).tdiv (b : Int) = ((k / b / b : Nat) : Int) := rfl
      have t3 : ((k / b : Nat) : Int).tmod (b : Int) = ((k / b % b : Nat) : Int) := rfl
      have t4 : (k : Int).tmod (b : Int) = ((k % b : Nat) : Int) := rfl
      generalize k / b / b = K2 at *
      generalize k / b % b = K3 at *
      generalize k / b = K1 at *
      generalize k % b = K4 at *
      generalize ((K2 : Int) + (K3 : Int) + (K4 : Int)) % (b : Int) = M at *
      generalize ((K2 : Int) + (K3 : Int) + (K4 : Int)) / (b : Int) = Q at *
      have wk1 : IntKind.i64.wrap (K1 : Int) = (K1 : Int) := IntWalk.i64_in _ (by omega)
      have wk2 : IntKind.i64.wrap (K2 : Int) = (K2 : Int) := IntWalk.i64_in _ (by omega)
      have wk3 : IntKind.i64.wrap (K3 : Int) = (K3 : Int) := IntWalk.i64_in _ (by omega)
      have wk4 : IntKind.i64.wrap (K4 : Int) = (K4 : Int) := IntWalk.i64_in _ (by omega)
      go_wp2_with fail
      go_region_law (first | (go_simp; go_at_call 89; refine (RR.out _).mono ?_; rintro e w2 ⟨rfl, b2⟩; have O2 := Lib.hid (recr_keep b2 (recr_drew HO.out)); have B2 := Lib.hid (Below.trans_size HBW.out.drew b2); have s2 := B2.out.size; have sz2 : wr.heap.size ≤ w2.heap.size := b2.size; clear b2) | (refine step_appA (by rfl) _ _ (by rfl) [(K2 : Int), (K3 : Int), (K4 : Int), M, Q] rfl _ (recr_alloc O2.out _) (by rfl) (by rfl) (heap_last _ _) (by omega) (by simp; omega) ?_; intro v' w9 ho' hg'; obtain ⟨hb', hs'⟩ := recr_below B2.out O2.out hg' (Nat.le_refl _) (by omega); have O9 := Lib.hid ho'; have B9 := Lib.hid hb'; have s9 := hs'; clear ho' hb' hg' hs'))
      all_goals (
      clear d1 d2 d3 d4 t1 t2 t3 t4 wk1 wk2 wk3 wk4
      go_wp2_with fail
      go_roundw
      case rel => exact ⟨k + 1, _, rfl, by omega, by go_num, by rw [← HROW.out]; exact O9.out, B9.out, s9⟩
      case measure => first | (simp [intOf]; done) | (simp [intOf]; omega))
    · obtain rfl : k = N := by omega
      go_wp2_with fail
      go_ret
      exact ⟨_, rfl, HO.out, HBW.out⟩
end Go.Proofs.Ytkhjmokjbiepgaa
