/- The worst pattern of errors: both functions return a slice of their own with the same numbers. -/
import Derived.Test.YtgfliiomebbknaaInts
import Derived.Test.YtgfliiomebbknaaSc1
namespace Go.Proofs.Ytgfliiomebbknaa
open Go.ChangeShapes Go.WideShapes Go.ChangeAt Go.RowKit
/-- s, -s, s, .. from the order down -/
def wpat (n : Nat) (s : Int) : List Int := (List.range (n + 1)).map fun k : Nat => if (n - k) % 2 = 1 then -s else s
theorem wpat_take (n : Nat) (s : Int) (j : Nat) (h : j ≤ n) : (wpat n s).take (j + 1) = (wpat n s).take j ++ [if (n - j) % 2 = 1 then -s else s] := by
  rw [List.take_succ_eq_append_getElem (by simp [wpat]; omega)]
  simp [wpat]
theorem wpat_at (n : Nat) (s : Int) (j : Nat) (h : j ≤ n) : (wpat n s).getD j 0 = if (n - j) % 2 = 1 then -s else s := by
  simp [wpat, List.getD, show j < n + 1 by omega]
theorem wpat_len (n : Nat) (s : Int) : (wpat n s).length = n + 1 := by simp [wpat]
set_option maxHeartbeats 400000 in
theorem spec_WorstPattern_yes (n : Nat) (s : Int) (w : World) (h1 : n ≤ 8) (b1 : 0 ≤ s) (b2 : s ≤ 1000000) :
    Calls Try.prog 19 #[.int .i64 n, .int .i64 s] w (RetOwnI w (wpat n s) 0) := by
  have hb := inB_true (n := s) b1 b2
  have ha := inB_true (n := (n : Int)) (lo := 0) (hi := 8) (by omega) (by omega)
  go_enter Try.func19, Try.ntmps19
  go_wp2_with (go_at_call 52; refine (spec_l17Order _ _ _).mono ?_; rintro e w' ⟨rfl, rfl⟩; rw [ha, hb, show okc (true && true) = 0 from rfl])
  go_loopw [7, 8] (fun v i wr => ∃ j : Nat, j ≤ n + 1 ∧ i = .int .i64 j ∧ Own wr w.heap.size v ((wpat n s).take j) ∧ Below w.heap.size w wr ∧ w.heap.size ≤ wr.heap.size) (fun _ i _ => 20 - (intOf i).toNat)
  case atStart => exact ⟨0, Nat.zero_le _, rfl, own_empty _ _ (Nat.le_refl _), (Below.refl _ _).alloc (Nat.le_refl _) _, by simp⟩
  case round =>
    obtain ⟨j, hj, rfl, ho, hb2, hs⟩ := hrel
    by_cases hlt : j ≤ n
    · have E := Lib.hid (wpat_take n s j hlt)
      have HO := Lib.hid ho; have HB := Lib.hid hb2; clear ho hb2
      have hlen : ((wpat n s).take j).length ≤ 1000000000 := by rw [List.length_take]; omega
      go_wp2_with (at_builtin; refine wp_app rfl _ _ rfl _ _ (own_alloc HO.out _) rfl rfl (by simp; rfl) hlen (by simp; omega) ?_; intro v' w' ho' hg')
      all_goals
        obtain ⟨hb', hs'⟩ := app_below HB.out HO.out hg' (Nat.le_refl _) hs
        go_roundw
        case rel => exact ⟨j + 1, by omega, by go_num, by rw [E.out]; first | (rw [if_neg (by simp at *; omega)]; exact ho') | (rw [if_pos (by simp at *; omega)]; exact ho'), hb', hs'⟩
        case measure => simp [intOf]; omega
    · obtain rfl : j = n + 1 := by omega
      rw [List.take_of_length_le (by rw [wpat_len]; omega)] at ho
      have HO := Lib.hid ho; have HB := Lib.hid hb2; clear ho hb2
      go_wp2
      go_ret2
      exact ⟨_, rfl, HO.out, HB.out⟩
theorem impl_WorstPattern_yes (n : Nat) (s : Int) (w : World) (h1 : n ≤ 8) (b1 : 0 ≤ s) (b2 : s ≤ 1000000) :
    Calls Try.prog 20 #[.int .i64 n, .int .i64 s] w (RetOwnI w (wpat n s) 0) := by
  have hb := inB_true (n := s) b1 b2
  have ha := inB_true (n := (n : Int)) (lo := 0) (hi := 8) (by omega) (by omega)
  go_enter Try.func20, Try.ntmps20
  go_wp2_with (first | (go_at_call 53; refine (impl_isOrder _ _).mono ?_; rintro e w' ⟨rfl, rfl⟩) | (go_at_call 54; refine (impl_isSlip _ _).mono ?_; rintro e w' ⟨rfl, rfl⟩) | (refine wp_make (B := w.heap.size) rfl _ _ rfl (n + 1) .i64 .i64 _ _ rfl rfl (by simp) (by simp) (by omega) (Nat.le_refl _) ?_; intro w1 ho hb1))
  have ho1 : Own w1 w.heap.size (.slice (some ⟨w.heap.size, 0, none⟩) (n + 1) (n + 1)) (filled (wpat n s) (n + 1) 0) := by simpa [filled] using ho
  have hs1 : w.heap.size ≤ w1.heap.size := hb1.size
  have HO1 := Lib.hid ho1; have HB1 := Lib.hid hb1; clear ho ho1 hb1
  go_loopw [7, 21] (fun _ i wr => ∃ j : Nat, j ≤ n + 1 ∧ i = .int .i64 j ∧ Own wr w.heap.size (.slice (some ⟨w.heap.size, 0, none⟩) (n + 1) (n + 1)) (filled (wpat n s) (n + 1) j) ∧ Below w.heap.size w wr ∧ w.heap.size ≤ wr.heap.size) (fun _ i _ => 20 - (intOf i).toNat)
  case atStart => exact ⟨0, Nat.zero_le _, rfl, HO1.out, HB1.out, hs1⟩
  case round =>
    obtain ⟨j, hj, rfl, ho, hb2, hs⟩ := hrel
    clear HO1 HB1
    have hfl := Lib.hid (filled_len hj (by rw [wpat_len]; omega) : (filled (wpat n s) (n + 1) j).length = n + 1)
    by_cases hlt : j ≤ n
    · obtain ⟨q1, q2⟩ := own_at ho hfl.out.symm (i := j) (by omega)
      have S1 := own_store ho hfl.out.symm j s
      obtain ⟨q3, q4⟩ := own_at S1.1 (by rw [List.length_set, hfl.out]) (i := j) (by omega)
      have S2 := own_store S1.1 (by rw [List.length_set, hfl.out]) j (-s)
      have E := filled_set (zs := wpat n s) (n := n + 1) (j := j) (by omega) (by rw [wpat_len]; omega)
      rw [wpat_at n s j hlt] at E
      rw [List.set_set] at S2
      have HS1 := Lib.hid S1; have HS2 := Lib.hid S2; have HE := Lib.hid E; have HB := Lib.hid hb2; clear S1 S2 E hb2 ho
      go_wp2
      · go_roundw
        case rel => exact ⟨j + 1, by omega, by go_num, by have e := HE.out; rw [if_pos (by simp at *; omega)] at e; rw [← e]; exact HS2.out.1, (HB.out.setCell (Nat.le_refl _) _).setCell (Nat.le_refl _) _, by simpa using hs⟩
        case measure => simp [intOf]; omega
      · go_roundw
        case rel => exact ⟨j + 1, by omega, by go_num, by have e := HE.out; rw [if_neg (by simp at *; omega)] at e; rw [← e]; exact HS1.out.1, HB.out.setCell (Nat.le_refl _) _, by simpa using hs⟩
        case measure => simp [intOf]; omega
    · obtain rfl : j = n + 1 := by omega
      have HO := Lib.hid ho; have HB := Lib.hid hb2; clear ho hb2
      go_wp2
      go_ret2
      exact ⟨_, rfl, by have := HO.out; rw [filled_all, List.take_of_length_le (by rw [wpat_len]; omega)] at this; exact this, HB.out⟩
def wpatR (n s : Int) : List Int × Int := if inB n 0 8 && inB s 0 1000000 then (wpat n.toNat s, 0) else ([], 2)
theorem wpatR_len (n s : Int) : (wpatR n s).1.length ≤ 9 := by
  unfold wpatR
  split
  · rename_i h
    simp only [Bool.and_eq_true] at h
    have := inB_iff.1 h.1
    rw [wpat_len]; omega
  · simp
theorem spec_WorstPattern (n s : Int) (w : World) : Calls Try.prog 19 #[.int .i64 n, .int .i64 s] w (RetOwnI w (wpatR n s).1 (wpatR n s).2) := by
  cases h1 : inB n 0 8
  · rw [show wpatR n s = ([], 2) from by simp [wpatR, h1]]
    go_enter Try.func19, Try.ntmps19
    go_wp2_with (go_at_call 52; refine (spec_l17Order _ _ _).mono ?_; rintro e w' ⟨rfl, rfl⟩; rw [h1, show okc (false && inB s 0 1000000) = 2 from rfl])
    go_ret2
    exact ⟨_, rfl, own_nil, Below.refl _ _⟩
  cases h2 : inB s 0 1000000
  · rw [show wpatR n s = ([], 2) from by simp [wpatR, h2]]
    go_enter Try.func19, Try.ntmps19
    go_wp2_with (go_at_call 52; refine (spec_l17Order _ _ _).mono ?_; rintro e w' ⟨rfl, rfl⟩; rw [h1, h2, show okc (true && false) = 2 from rfl])
    go_ret2
    exact ⟨_, rfl, own_nil, Below.refl _ _⟩
  obtain ⟨a1, a2⟩ := inB_iff.1 h1
  obtain ⟨b1, b2⟩ := inB_iff.1 h2
  obtain ⟨m, rfl⟩ := Int.eq_ofNat_of_zero_le a1
  rw [show wpatR m s = (wpat m s, 0) from by simp [wpatR, h1, h2]]
  exact spec_WorstPattern_yes m s w (by omega) b1 b2
theorem impl_WorstPattern (n s : Int) (w : World) : Calls Try.prog 20 #[.int .i64 n, .int .i64 s] w (RetOwnI w (wpatR n s).1 (wpatR n s).2) := by
  cases h1 : inB n 0 8
  · rw [show wpatR n s = ([], 2) from by simp [wpatR, h1]]
    go_enter Try.func20, Try.ntmps20
    go_wp2_with (first | (go_at_call 53; refine (impl_isOrder _ _).mono ?_; rintro e w' ⟨rfl, rfl⟩) | (go_at_call 54; refine (impl_isSlip _ _).mono ?_; rintro e w' ⟨rfl, rfl⟩))
    go_ret2
    exact ⟨_, rfl, own_nil, Below.refl _ _⟩
  cases h2 : inB s 0 1000000
  · rw [show wpatR n s = ([], 2) from by simp [wpatR, h2]]
    go_enter Try.func20, Try.ntmps20
    go_wp2_with (first | (go_at_call 53; refine (impl_isOrder _ _).mono ?_; rintro e w' ⟨rfl, rfl⟩) | (go_at_call 54; refine (impl_isSlip _ _).mono ?_; rintro e w' ⟨rfl, rfl⟩))
    go_ret2
    exact ⟨_, rfl, own_nil, Below.refl _ _⟩
  obtain ⟨a1, a2⟩ := inB_iff.1 h1
  obtain ⟨b1, b2⟩ := inB_iff.1 h2
  obtain ⟨m, rfl⟩ := Int.eq_ofNat_of_zero_le a1
  rw [show wpatR m s = (wpat m s, 0) from by simp [wpatR, h1, h2]]
  exact impl_WorstPattern_yes m s w (by omega) b1 b2
end Go.Proofs.Ytgfliiomebbknaa
