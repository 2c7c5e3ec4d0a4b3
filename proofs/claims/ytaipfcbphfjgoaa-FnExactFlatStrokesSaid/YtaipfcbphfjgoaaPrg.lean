/- SameProgram of both packages: two slices of instructions are equal. -/
import Derived.IntWalk
import Derived.Deep.QuietTactic
import Derived.BigQuiet
import Derived.Test.YtaipfcbphfjgoaaRec
namespace Go.Proofs.Ytaipfcbphfjgoaa
open Go.ChangeShapes Go.WideShapes Go.ChangeAt Go.RowKit
theorem ret_b {c d : Bool} (h2 : c = d) : Ending.returned (.bool c) = .returned (.bool d) := by rw [h2]
theorem below_dd (w : World) (n m : Nat) : Below w.heap.size w ((w.drewN n).drewN m) := (below_drewN w n).trans (below_drewN (w.drewN n) m)
def sameP (xs ys : List Int) : Bool := decide (xs = ys)
theorem pairs_ext {xs ys : List Int} {n : Nat} (h1 : xs.length = n * 2) (h2 : ys.length = n * 2) (h : ∀ j, j < n → nth xs (j * 2) = nth ys (j * 2) ∧ nth xs (j * 2 + 1) = nth ys (j * 2 + 1)) : xs = ys := by
  refine nth_ext (by omega) fun i hi => ?_
  obtain ⟨a, b⟩ := h (i / 2) (by omega)
  rcases Nat.mod_two_eq_zero_or_one i with e | e
  · rwa [show i / 2 * 2 = i by omega] at a
  · rwa [show i / 2 * 2 + 1 = i by omega] at b
set_option maxHeartbeats 2000000 in
theorem impl_SameProgram {B1 B2 : Nat} {u v : Value} {n m : Nat} {xs ys : List Int} (w : World) (h1 : OwnR w B1 u n xs) (h2 : OwnR w B2 v m ys) :
    Calls Try.prog 13 #[u, v] w (RetV w (.bool (sameP xs ys))) := by
  have l1 := recr_len h1; have l2 := recr_len h2
  obtain ⟨a1, c1, rfl, m1, q1⟩ := recr_form h1
  obtain ⟨a2, c2, rfl, m2, q2⟩ := recr_form h2
  clear h1 h2
  have Q1 := Lib.hid q1; have Q2 := Lib.hid q2; clear q1 q2
  by_cases hnm : n = m
  · subst hnm
    go_enter Try.func13, Try.ntmps13
    go_wp2_with fail
    go_loopw [13] (fun i wr => ∃ j : Nat, j ≤ n ∧ i = .int .i64 j ∧ (∃ k, wr = w.drewN k) ∧ Hid (∀ k, k < j → nth xs (k * 2) = nth ys (k * 2) ∧ nth xs (k * 2 + 1) = nth ys (k * 2 + 1))) (fun i _ => n - (intOf i).toNat)
    case atStart => exact ⟨0, Nat.zero_le _, rfl, ⟨0, rfl⟩, fun k hk => by omega⟩
    case round =>
      obtain ⟨j, hj, rfl, ⟨k, rfl⟩, hall⟩ := hrel
      by_cases hlt : j < n
      · obtain ⟨g, rfl, r0, r1⟩ := Q1.out j hlt
        obtain ⟨g2, e2, t0, t1⟩ := Q2.out j hlt
        obtain rfl := e2
        by_cases e0 : nth xs (j * 2) = nth ys (j * 2)
        · by_cases e1 : nth xs (j * 2 + 1) = nth ys (j * 2 + 1)
          · have HA := Lib.hid (show ∀ k, k < j + 1 → nth xs (k * 2) = nth ys (k * 2) ∧ nth xs (k * 2 + 1) = nth ys (k * 2 + 1) from fun k hk => by
              rcases Nat.lt_succ_iff_lt_or_eq.1 hk with h | rfl
              · exact hall.out k h
              · exact ⟨e0, e1⟩)
            rw [← e0] at t0; rw [← e1] at t1
            clear hall e0 e1
            go_wp2_with fail
            go_quiet (fail)
            go_wp2_with fail
            go_roundw
            case rel => exact ⟨j + 1, by omega, by go_num, by first | exact ⟨_, rfl⟩ | skip, HA.out⟩
            case measure => first | (simp [intOf]; done) | (simp [intOf]; omega)
          · have HR := Lib.hid (show sameP xs ys = false from by unfold sameP; rw [decide_eq_false_iff_not]; rintro rfl; exact e1 rfl)
            have E1 : (nth xs (j * 2 + 1) == nth ys (j * 2 + 1)) = false := by simpa using e1
            clear hall
            go_wp2_with fail
            go_quiet (fail)
            go_wp2_with fail
            go_ret
            exact ⟨ret_b HR.out.symm, by first | exact below_drewN _ _ | exact below_dd _ _ _⟩
        · have HR := Lib.hid (show sameP xs ys = false from by unfold sameP; rw [decide_eq_false_iff_not]; rintro rfl; exact e0 rfl)
          have E0 : (nth xs (j * 2) == nth ys (j * 2)) = false := by simpa using e0
          clear hall
          go_wp2_with fail
          go_quiet (fail)
          go_wp2_with fail
          go_ret
          exact ⟨ret_b HR.out.symm, by first | exact below_drewN _ _ | exact below_dd _ _ _⟩
      · have HR := Lib.hid (show sameP xs ys = true from by unfold sameP; rw [decide_eq_true_iff]; exact pairs_ext l1 l2 (fun k hk => hall.out k (by omega)))
        clear hall
        go_wp2_with fail
        go_ret
        exact ⟨ret_b HR.out.symm, below_drewN _ _⟩
  · have HR := Lib.hid (show sameP xs ys = false from by unfold sameP; rw [decide_eq_false_iff_not]; rintro rfl; omega)
    have hnm2 : ¬ (n : Int) = (m : Int) := by omega
    clear l1 l2
    go_enter Try.func13, Try.ntmps13
    go_wp2_with fail
    go_ret
    exact ⟨ret_b HR.out.symm, Below.refl _ _⟩
set_option maxHeartbeats 2000000 in
theorem spec_SameProgram {B1 B2 : Nat} {u v : Value} {n m : Nat} {xs ys : List Int} (w : World) (h1 : OwnR w B1 u n xs) (h2 : OwnR w B2 v m ys) :
    Calls Try.prog 11 #[u, v] w (RetV w (.bool (sameP xs ys))) := by
  have l1 := recr_len h1; have l2 := recr_len h2
  obtain ⟨a1, c1, rfl, m1, q1⟩ := recr_form h1
  obtain ⟨a2, c2, rfl, m2, q2⟩ := recr_form h2
  clear h1 h2
  have Q1 := Lib.hid q1; have Q2 := Lib.hid q2; clear q1 q2
  by_cases hnm : n = m
  · subst hnm
    go_enter Try.func11, Try.ntmps11
    go_wp2_with fail
    go_loopw [5] (fun i wr => ∃ j : Nat, j ≤ n ∧ i = .int .i64 j ∧ (∃ k, wr = w.drewN k) ∧ Hid (∀ k, k < j → nth xs (k * 2) = nth ys (k * 2) ∧ nth xs (k * 2 + 1) = nth ys (k * 2 + 1))) (fun i _ => n - (intOf i).toNat)
    case atStart => exact ⟨0, Nat.zero_le _, rfl, ⟨0, rfl⟩, fun k hk => by omega⟩
    case round =>
      obtain ⟨j, hj, rfl, ⟨k, rfl⟩, hall⟩ := hrel
      by_cases hlt : j < n
      · obtain ⟨g, rfl, r0, r1⟩ := Q1.out j hlt
        obtain ⟨g2, e2, t0, t1⟩ := Q2.out j hlt
        obtain rfl := e2
        by_cases e0 : nth xs (j * 2) = nth ys (j * 2)
        · by_cases e1 : nth xs (j * 2 + 1) = nth ys (j * 2 + 1)
          · have HA := Lib.hid (show ∀ k, k < j + 1 → nth xs (k * 2) = nth ys (k * 2) ∧ nth xs (k * 2 + 1) = nth ys (k * 2 + 1) from fun k hk => by
              rcases Nat.lt_succ_iff_lt_or_eq.1 hk with h | rfl
              · exact hall.out k h
              · exact ⟨e0, e1⟩)
            rw [← e0] at t0; rw [← e1] at t1
            clear hall e0 e1
            go_wp2_with fail
            go_quiet (fail)
            go_wp2_with fail
            go_roundw
            case rel => exact ⟨j + 1, by omega, by go_num, by first | exact ⟨_, rfl⟩ | skip, HA.out⟩
            case measure => first | (simp [intOf]; done) | (simp [intOf]; omega)
          · have HR := Lib.hid (show sameP xs ys = false from by unfold sameP; rw [decide_eq_false_iff_not]; rintro rfl; exact e1 rfl)
            have E1 : (nth xs (j * 2 + 1) == nth ys (j * 2 + 1)) = false := by simpa using e1
            clear hall
            go_wp2_with fail
            go_quiet (fail)
            go_wp2_with fail
            go_ret
            exact ⟨ret_b HR.out.symm, by first | exact below_drewN _ _ | exact below_dd _ _ _⟩
        · have HR := Lib.hid (show sameP xs ys = false from by unfold sameP; rw [decide_eq_false_iff_not]; rintro rfl; exact e0 rfl)
          have E0 : (nth xs (j * 2) == nth ys (j * 2)) = false := by simpa using e0
          clear hall
          go_wp2_with fail
          go_quiet (fail)
          go_wp2_with fail
          go_ret
          exact ⟨ret_b HR.out.symm, by first | exact below_drewN _ _ | exact below_dd _ _ _⟩
      · have HR := Lib.hid (show sameP xs ys = true from by unfold sameP; rw [decide_eq_true_iff]; exact pairs_ext l1 l2 (fun k hk => hall.out k (by omega)))
        clear hall
        go_wp2_with fail
        go_ret
        exact ⟨ret_b HR.out.symm, below_drewN _ _⟩
  · have HR := Lib.hid (show sameP xs ys = false from by unfold sameP; rw [decide_eq_false_iff_not]; rintro rfl; omega)
    have hnm2 : ¬ (n : Int) = (m : Int) := by omega
    clear l1 l2
    go_enter Try.func11, Try.ntmps11
    go_wp2_with fail
    go_ret
    exact ⟨ret_b HR.out.symm, Below.refl _ _⟩
end Go.Proofs.Ytaipfcbphfjgoaa
