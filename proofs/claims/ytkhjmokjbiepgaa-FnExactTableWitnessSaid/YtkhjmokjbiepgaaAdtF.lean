/- isAddTable of the program. -/
import Derived.IntWalk
import Derived.Deep.QuietTactic
import Derived.BigQuiet
import Derived.Deep.RegionWith
import Derived.Test.YtkhjmokjbiepgaaAdt3
namespace Go.Proofs.Ytkhjmokjbiepgaa
open Go.ChangeShapes Go.WideShapes Go.ChangeAt Go.RowKit
set_option maxRecDepth 10000 in
set_option maxHeartbeats 8000000 in
theorem impl_isAddTable {B n : Nat} {u : Value} {xs : List Int} (b : Nat) (w : World) (h1 : OwnR w B u n xs) (hlen : n ≤ 1048576) (hb : 2 ≤ b) (hb2 : b ≤ 16) :
    Calls Try.prog 77 #[.int .i64 b, u] w (RetV w (.bool (formB b xs))) := by
  have hz := recr_len h1
  have hN5 := two_bb hb2
  obtain ⟨a1, c1, rfl, m1, q1⟩ := rows5_of h1
  have Q1 := Lib.hid q1; clear q1 h1
  have T := Lib.hid (fun wx => impl_rightTable b wx hb hb2)
  have HF := Lib.hid (show formB b xs = (decide (n = 2 * b * b) && rowsOk b xs (rtL b (2 * b * b)) (2 * b * b)) from by unfold formB; rw [show xs.length / 5 = n by omega])
  have hyl := rtL_len b (2 * b * b)
  generalize rtL b (2 * b * b) = ys at *
  generalize 2 * b * b = N at *
  go_enter Try.func77, Try.ntmps77
  go_wp2_with fail
  refine (T.out _).mono ?_; rintro e w1 ⟨v1, rfl, o1, b1⟩
  have s1 := b1.size
  have BW := Lib.hid b1
  have QX := Lib.hid (rows5_below Q1.out b1 (Nat.le_refl _) s1)
  obtain ⟨a2, c2, rfl, m2, q2⟩ := rows5_of o1
  have QY := Lib.hid q2
  clear o1 b1 q2 Q1 T
  by_cases hn : n = N
  rotate_left
  · have hn2 : ¬ (n : Int) = (N : Int) := by omega
    have HR := Lib.hid (show formB b xs = false from by rw [HF.out, decide_eq_false hn]; rfl)
    go_wp2_with fail
    go_ret
    exact ⟨ret_bb HR.out, BW.out⟩
  subst hn
  have HF2 := Lib.hid (show formB b xs = rowsOk b xs ys n from by rw [HF.out, decide_eq_true rfl]; rfl)
  go_wp2_with fail
  go_loopw [6, 7, 17] (fun _ _ ii wr => ∃ j : Nat, j ≤ n ∧ ii = .int .i64 j ∧ Hid (rowsOk b xs ys j = true) ∧ Below w1.heap.size w1 wr ∧ w1.heap.size ≤ wr.heap.size) (fun _ _ ii _ => n - (intOf ii).toNat)
  case atStart => exact ⟨0, Nat.zero_le _, rfl, Lib.hid rfl, Below.refl _ _, Nat.le_refl _⟩
  case round =>
    obtain ⟨j, hj, rfl, hok, hbw, hs⟩ := hrel
    have HBW := Lib.hid hbw
    by_cases hlt : j < n
    · obtain ⟨gx, rfl, lx, px0, px1, px2, px3, px4⟩ := rows5_below QX.out hbw (Nat.le_refl _) hs j hlt
      obtain ⟨gy, ey, ly, py0, py1, py2, py3, py4⟩ := rows5_below QY.out hbw (Nat.le_refl _) hs j hlt
      obtain rfl := ey
      have hr : rowOk b xs ys j = (decide (nth xs (j * 5) = nth ys (j * 5)) && (decide (nth xs (j * 5 + 1) = nth ys (j * 5 + 1)) && (decide (nth xs (j * 5 + 2) = nth ys (j * 5 + 2)) && (inB (nth xs (j * 5 + 3)) 0 ((b : Int) - 1) && inB (nth xs (j * 5 + 4)) 0 1)))) := rfl
      have HSTEP := Lib.hid (fun h2 => rowsOk_step (b := (b : Int)) (xs := xs) (ys := ys) hok.out h2)
      have HFAIL := Lib.hid (fun h2 => rowsOk_false (b := (b : Int)) (xs := xs) (ys := ys) (j := j) h2 n hlt)
      generalize nth xs (j * 5) = x0 at *
      generalize nth ys (j * 5) = y0 at *
      generalize nth xs (j * 5 + 1) = x1 at *
      generalize nth ys (j * 5 + 1) = y1 at *
      generalize nth xs (j * 5 + 2) = x2 at *
      generalize nth ys (j * 5 + 2) = y2 at *
      generalize nth xs (j * 5 + 3) = x3 at *
      generalize nth ys (j * 5 + 3) = y3 at *
      generalize nth xs (j * 5 + 4) = x4 at *
      generalize nth ys (j * 5 + 4) = y4 at *
      have K1 := Lib.hid (fun wx => impl_between x3 0 ((b : Int) - 1) wx)
      have K2 := Lib.hid (fun wx => impl_between x4 0 1 wx)
      have wb : IntKind.i64.wrap ((b : Int) - 1) = (b : Int) - 1 := IntWalk.i64_in _ (by omega)
      have i0 : (0 : Int) ≤ (j : Int) := by omega
      have i1 : (j : Int) < (n : Int) := by omega
      have HRW := Lib.hid hr
      clear hr hbw hok
      by_cases e0 : x0 = y0
      · subst e0
        by_cases e1 : x1 = y1
        · subst e1
          by_cases e2 : x2 = y2
          · subst e2
            cases e3 : inB x3 0 ((b : Int) - 1)
            · have HR := Lib.hid (show formB b xs = false from by rw [HF2.out]; exact HFAIL.out (by rw [HRW.out]; simp [e3]))
              rw [e3] at K1
              clear e3
              go_wp2_with fail
              go_quiet ((first | (go_at_call_of 62 x3; exact quiet_same (K1.out _)) | (go_at_call_of 62 x4; exact quiet_same (K2.out _))))
              clear i0 i1
              go_wp2_with fail
              go_ret
              exact ⟨ret_bb HR.out, Below.trans_size BW.out ((HBW.out.alloc hs _).trans (drewN_b _ _ _))⟩
            · have E3T := Lib.hid e3
              rw [e3] at K1
              clear e3
              cases e4 : inB x4 0 1
              · have HR := Lib.hid (show formB b xs = false from by rw [HF2.out]; exact HFAIL.out (by rw [HRW.out]; simp [e4]))
                rw [e4] at K2
                clear e4
                go_wp2_with fail
                go_quiet ((first | (go_at_call_of 62 x3; exact quiet_same (K1.out _)) | (go_at_call_of 62 x4; exact quiet_same (K2.out _))))
                clear i0 i1
                go_wp2_with fail
                go_ret
                exact ⟨ret_bb HR.out, Below.trans_size BW.out ((HBW.out.alloc hs _).trans (drewN_b _ _ _))⟩
              · have E4T := Lib.hid e4
                rw [e4] at K2
                clear e4
                have HN := Lib.hid (HSTEP.out (by rw [HRW.out, E3T.out, E4T.out]; simp))
                go_wp2_with fail
                go_quiet ((first | (go_at_call_of 62 x3; exact quiet_same (K1.out _)) | (go_at_call_of 62 x4; exact quiet_same (K2.out _))))
                clear i0 i1
                go_wp2_with fail
                go_roundw
                case rel => exact ⟨j + 1, by omega, by go_num, HN.out, (HBW.out.alloc hs _).trans (drewN_b _ _ _), by first | (simp; omega) | (show w1.heap.size ≤ _ + 1; omega)⟩
                case measure => first | (simp [intOf]; done) | (simp [intOf]; omega)
          · have E2 : (x2 == y2) = false := by simpa using e2
            have HR := Lib.hid (show formB b xs = false from by rw [HF2.out]; exact HFAIL.out (by rw [HRW.out]; simp [e2]))
            go_wp2_with fail
            go_quiet ((first | (go_at_call_of 62 x3; exact quiet_same (K1.out _)) | (go_at_call_of 62 x4; exact quiet_same (K2.out _))))
            clear i0 i1
            go_wp2_with fail
            go_ret
            exact ⟨ret_bb HR.out, Below.trans_size BW.out ((HBW.out.alloc hs _).trans (drewN_b _ _ _))⟩
        · have E1 : (x1 == y1) = false := by simpa using e1
          have HR := Lib.hid (show formB b xs = false from by rw [HF2.out]; exact HFAIL.out (by rw [HRW.out]; simp [e1]))
          go_wp2_with fail
          go_quiet ((first | (go_at_call_of 62 x3; exact quiet_same (K1.out _)) | (go_at_call_of 62 x4; exact quiet_same (K2.out _))))
          clear i0 i1
          go_wp2_with fail
          go_ret
          exact ⟨ret_bb HR.out, Below.trans_size BW.out ((HBW.out.alloc hs _).trans (drewN_b _ _ _))⟩
      · have E0 : (x0 == y0) = false := by simpa using e0
        have HR := Lib.hid (show formB b xs = false from by rw [HF2.out]; exact HFAIL.out (by rw [HRW.out]; simp [e0]))
        go_wp2_with fail
        go_quiet ((first | (go_at_call_of 62 x3; exact quiet_same (K1.out _)) | (go_at_call_of 62 x4; exact quiet_same (K2.out _))))
        clear i0 i1
        go_wp2_with fail
        go_ret
        exact ⟨ret_bb HR.out, Below.trans_size BW.out ((HBW.out.alloc hs _).trans (drewN_b _ _ _))⟩
    · obtain rfl : j = n := by omega
      have HR := Lib.hid (show formB b xs = true from by rw [HF2.out]; exact hok.out)
      clear hbw hok
      go_wp2_with fail
      go_ret
      exact ⟨ret_bb HR.out, Below.trans_size BW.out HBW.out⟩
end Go.Proofs.Ytkhjmokjbiepgaa
