/- The right table of an adder: both packages build the same rows. -/
import Derived.IntWalk
import Derived.Deep.RegionLaw
import Derived.Test.YtkhjmokjbiepgaaGrowA
namespace Go.Proofs.Ytkhjmokjbiepgaa
open Go.ChangeShapes Go.WideShapes Go.ChangeAt Go.RowKit
def rowOf (b k : Nat) : List Int := [((k / b / b : Nat) : Int), ((k / b % b : Nat) : Int), ((k % b : Nat) : Int), ((k / b / b + k / b % b + k % b : Nat) : Int) % (b : Int), ((k / b / b + k / b % b + k % b : Nat) : Int) / (b : Int)]
def rtL (b : Nat) : Nat → List Int
  | 0 => []
  | k + 1 => rtL b k ++ rowOf b k
theorem row_at {b i a c : Nat} (ha : a < b) (hc : c < b) : rowOf b ((i * b + a) * b + c) = [(i : Int), (a : Int), (c : Int), ((i : Int) + a + c) % (b : Int), ((i : Int) + a + c) / (b : Int)] := by
  have e1 : ((i * b + a) * b + c) / b = i * b + a := by rw [Nat.mul_comm, Nat.mul_add_div (by omega), Nat.div_eq_of_lt hc]; rfl
  have e2 : ((i * b + a) * b + c) % b = c := by rw [Nat.mul_comm, Nat.mul_add_mod, Nat.mod_eq_of_lt hc]
  have e3 : (i * b + a) / b = i := by rw [Nat.mul_comm, Nat.mul_add_div (by omega), Nat.div_eq_of_lt ha]; rfl
  have e4 : (i * b + a) % b = a := by rw [Nat.mul_comm, Nat.mul_add_mod, Nat.mod_eq_of_lt ha]
  unfold rowOf
  rw [e1, e2, e3, e4]
  simp
theorem rtL_len (b : Nat) : ∀ k, (rtL b k).length = k * 5 := by
  intro k
  induction k with
  | zero => rfl
  | succ k ih => show (rtL b k ++ rowOf b k).length = _; rw [List.length_append, ih]; simp [rowOf]; omega
theorem rtL_nth (b : Nat) : ∀ n k, k < n → ∀ f, f < 5 → nth (rtL b n) (k * 5 + f) = nth (rowOf b k) f := by
  intro n
  induction n with
  | zero => intro k hk; omega
  | succ n ih =>
    intro k hk f hf
    have hl := rtL_len b n
    show nth (rtL b n ++ rowOf b n) (k * 5 + f) = _
    by_cases h : k < n
    · rw [← ih k h f hf]
      show ((rtL b n ++ rowOf b n)[k * 5 + f]?).getD 0 = ((rtL b n)[k * 5 + f]?).getD 0
      rw [List.getElem?_append_left (by omega)]
    · obtain rfl : k = n := by omega
      show ((rtL b k ++ rowOf b k)[k * 5 + f]?).getD 0 = ((rowOf b k)[f]?).getD 0
      rw [List.getElem?_append_right (by omega), hl, show k * 5 + f - k * 5 = f by omega]
set_option maxHeartbeats 8000000 in
theorem impl_rightTable (b : Nat) (w : World) (hb : 2 ≤ b) (hb2 : b ≤ 16) :
    Calls Try.prog 78 #[.int .i64 b] w (RetRec w (2 * b * b) (rtL b (2 * b * b))) := by
  go_enter Try.func78, Try.ntmps78
  go_wp2_with fail
  go_loopw [3, 8] (fun vv ii wr => ∃ (i n : Nat) (v : Value), vv = v ∧ i ≤ 2 ∧ ii = .int .i64 i ∧ Hid (n = i * b * b) ∧ n ≤ 512 ∧ OwnR wr w.heap.size v n (rtL b n) ∧ Below w.heap.size w wr ∧ w.heap.size ≤ wr.heap.size) (fun _ ii _ => 2 - (intOf ii).toNat)
  case atStart => exact ⟨0, 0, _, rfl, by omega, rfl, Lib.hid (by simp), by omega, recr_empty w _ (Nat.le_refl _), (Below.refl _ _).alloc (Nat.le_refl _) _, by simp⟩
  case round =>
    obtain ⟨i, n, v, rfl, hi, rfl, hn, hn5, ho, hbw, hs⟩ := hrel
    have HO := Lib.hid ho; have HBW := Lib.hid hbw; clear ho hbw
    by_cases hi2 : i < 2
    · have hi2I : (i : Int) < 2 := by omega
      go_wp2_with fail
      go_loopw [3, 12] (fun vv ii wr => ∃ (a n : Nat) (v : Value), vv = v ∧ a ≤ b ∧ ii = .int .i64 a ∧ Hid (n = (i * b + a) * b) ∧ n ≤ 512 ∧ OwnR wr w.heap.size v n (rtL b n) ∧ Below w.heap.size w wr ∧ w.heap.size ≤ wr.heap.size) (fun _ ii _ => b - (intOf ii).toNat)
      case atStart => exact ⟨0, n, _, rfl, by omega, rfl, Lib.hid (by rw [hn.out]; simp), hn5, HO.out, HBW.out, hs⟩
      case round =>
        obtain ⟨a, n, v, rfl, ha, rfl, hn, hn5, ho, hbw, hs⟩ := hrel
        have HO := Lib.hid ho; have HBW := Lib.hid hbw; clear ho hbw
        by_cases ha2 : a < b
        · have hbd : (i * b + a + 1) * b ≤ 512 := by
            have h1 : i * b + a + 1 ≤ 2 * 16 := by
              have : i * b ≤ 1 * b := Nat.mul_le_mul_right _ (by omega)
              omega
            have := Nat.mul_le_mul h1 hb2
            omega
          have HBD := Lib.hid hbd; clear hbd
          go_wp2_with fail
          go_loopw [3, 6, 16] (fun vv _ ii wr => ∃ (c n : Nat) (v : Value), vv = v ∧ c ≤ b ∧ ii = .int .i64 c ∧ Hid (n = (i * b + a) * b + c) ∧ n ≤ 512 ∧ OwnR wr w.heap.size v n (rtL b n) ∧ Below w.heap.size w wr ∧ w.heap.size ≤ wr.heap.size) (fun _ _ ii _ => b - (intOf ii).toNat)
          case atStart => exact ⟨0, n, _, rfl, by omega, rfl, Lib.hid (by rw [hn.out]; simp), hn5, HO.out, HBW.out, hs⟩
          case round =>
            obtain ⟨c, n, v, rfl, hc, rfl, hn, hn5, ho, hbw, hs⟩ := hrel
            obtain ⟨av, cv, rfl, -, -⟩ := recr_form ho
            have HO := Lib.hid ho; have HBW := Lib.hid hbw; clear ho hbw
            by_cases hc2 : c < b
            · have HROW := Lib.hid (show rtL b n ++ [(i : Int), (a : Int), (c : Int), ((i : Int) + a + c) % (b : Int), ((i : Int) + a + c) / (b : Int)] = rtL b (n + 1) from by
                show _ = rtL b n ++ rowOf b n
                rw [hn.out, row_at ha2 hc2])
              have hn6 : n + 1 ≤ 512 := by
                have h1 := HBD.out
                have h2 := hn.out
                rw [Nat.add_mul, Nat.one_mul] at h1
                omega
              have HNX := Lib.hid (show n + 1 = (i * b + a) * b + (c + 1) from by rw [hn.out]; omega)
              have zb : ¬ b = 0 := by omega
              have zb2 : ¬ (b : Int) = 0 := by omega
              have eT : ((i : Int) + a + c).tmod (b : Int) = ((i : Int) + a + c) % (b : Int) := Int.tmod_eq_emod_of_nonneg (by omega)
              have eQ : ((i : Int) + a + c).tdiv (b : Int) = ((i : Int) + a + c) / (b : Int) := Int.tdiv_eq_ediv_of_nonneg (by omega)
              have m0 : 0 ≤ ((i : Int) + a + c) % (b : Int) := Int.emod_nonneg _ (by omega)
              have m1 : ((i : Int) + a + c) % (b : Int) < (b : Int) := Int.emod_lt_of_pos _ (by omega)
              have q0 : 0 ≤ ((i : Int) + a + c) / (b : Int) := Int.ediv_nonneg (by omega) (by omega)
              have q1 : ((i : Int) + a + c) / (b : Int) ≤ (i : Int) + a + c := Int.ediv_le_self _ (by omega)
              obtain ⟨M, hM⟩ : ∃ M, M = ((i : Int) + a + c) % (b : Int) := ⟨_, rfl⟩
              obtain ⟨Q, hQ⟩ : ∃ Q, Q = ((i : Int) + a + c) / (b : Int) := ⟨_, rfl⟩
              rw [← hM] at eT m0 m1 HROW
              rw [← hQ] at eQ q0 q1 HROW
              clear hM hQ hn
              have w1 : IntKind.i64.wrap ((i : Int) + a) = (i : Int) + a := IntWalk.i64_in _ (by omega)
              have w2 : IntKind.i64.wrap ((i : Int) + a + c) = (i : Int) + a + c := IntWalk.i64_in _ (by omega)
              have w3 : IntKind.i64.wrap M = M := IntWalk.i64_in _ (by omega)
              have w4 : IntKind.i64.wrap Q = Q := IntWalk.i64_in _ (by omega)
              go_wp2_with fail
              go_region_law ((refine step_appA (by rfl) _ _ (by rfl) [(i : Int), (a : Int), (c : Int), M, Q] rfl _ (recr_alloc (recr_drew HO.out) _) (by rfl) (by rfl) (heap_last _ _) (by omega) (by simp; omega) ?_; intro v' w9 ho' hg'; obtain ⟨hb', hs'⟩ := recr_below HBW.out.drew (recr_drew HO.out) hg' (Nat.le_refl _) hs; have O9 := Lib.hid ho'; have B9 := Lib.hid hb'; have s9 := hs'; clear ho' hb' hg' hs'))
              all_goals (
              clear eT eQ w1 w2 w3 w4
              go_wp2_with fail
              go_roundw
              case rel => exact ⟨c + 1, n + 1, _, rfl, by omega, by go_num, HNX.out, hn6, by rw [← HROW.out]; exact O9.out, B9.out, s9⟩
              case measure => first | (simp [intOf]; done) | (simp [intOf]; omega))
            · obtain rfl : c = b := by omega
              have HNX := Lib.hid (show n = (i * c + (a + 1)) * c from by rw [hn.out, ← Nat.add_assoc, Nat.add_mul (i * c + a) 1 c, Nat.one_mul])
              clear hn
              go_wp2_with fail
              refine ⟨⟨a + 1, n, _, rfl, by omega, by go_num, HNX.out, hn5, HO.out, HBW.out, hs⟩, ?_⟩
              first | (simp [intOf]; done) | (simp [intOf]; omega)
        · obtain rfl : a = b := by omega
          have HNX := Lib.hid (show n = (i + 1) * a * a from by rw [hn.out, Nat.add_mul i 1 a, Nat.one_mul])
          clear hn
          go_wp2_with fail
          refine ⟨⟨i + 1, n, _, rfl, by omega, by go_num, HNX.out, hn5, HO.out, HBW.out, hs⟩, ?_⟩
          first | (simp [intOf]; done) | (simp [intOf]; omega)
    · obtain rfl : i = 2 := by omega
      have HN := Lib.hid hn.out
      clear hn
      go_wp2_with fail
      go_ret
      exact ⟨_, rfl, by rw [← HN.out]; exact HO.out, HBW.out⟩
end Go.Proofs.Ytkhjmokjbiepgaa
