/- How many more digits are needed so that errors stay below a half unit; how an error spreads over differences. -/
import Derived.IntWalk
import Derived.Test.YtgfliiomebbknaaSumB
import Derived.Test.YtgfliiomebbknaaBin
import Derived.Test.YtgfliiomebbknaaSc1
namespace Go.Proofs.Ytgfliiomebbknaa
open Go.ChangeShapes Go.WideShapes Go.ChangeAt Go.RowKit
def gd : Nat → Int → Int → Int → Int → Int
  | 0, _, _, _, n => n
  | f + 1, b, S, u, n => if u < S then gd f b S (u * b) (n + 1) else n
theorem gd_go {f : Nat} {b S u n : Int} (hf : S - u < (f : Int)) (h : u < S) (hu : 1 ≤ u) (hb : 2 ≤ b) : ∃ f' : Nat, S - u * b < (f' : Int) ∧ gd f b S u n = gd f' b S (u * b) (n + 1) := by
  cases f with
  | zero => simp at hf; omega
  | succ f => exact ⟨f, by have := Int.mul_le_mul_of_nonneg_left hb (show 0 ≤ u by omega); omega, by show (if u < S then _ else _) = _; rw [if_pos h]⟩
theorem gd_end {f : Nat} {b S u n : Int} (h : ¬ u < S) : gd f b S u n = n := by
  cases f with
  | zero => rfl
  | succ f => show (if u < S then _ else _) = _; rw [if_neg h]
def gOk (o s b : Int) : Bool := inB o 0 8 && inB s 0 100000 && inB b 2 16
def gSum (o s : Int) : Int := psum (List.replicate (o.toNat + 1) 1) s.toNat (o.toNat + 1)
def gR (o s b : Int) : Int × Int := if gOk o s b then (if 1000000000000 < gSum o s then (0, 5) else (gd ((gSum o s).toNat + 1) b (gSum o s) 1 0, 0)) else (0, 2)
theorem ones_ok (n : Nat) : (List.replicate n (1 : Int)).all isSl = true := by
  rw [List.all_eq_true]; intro x hx; rw [(List.mem_replicate.1 hx).2]; rfl
theorem ones_snoc (n : Nat) : List.replicate n (1 : Int) ++ [1] = List.replicate (n + 1) 1 := by rw [List.replicate_succ']
set_option maxHeartbeats 1000000 in
theorem impl_GuardDigits (o s b : Int) (w : World) :
    Calls Try.prog 29 #[.int .i64 o, .int .i64 s, .int .i64 b] w (RetV w (.tuple #[.int .i64 (gR o s b).1, .int .i64 (gR o s b).2])) := by
  cases h1 : inB o 0 8
  · rw [show gR o s b = (0, 2) from by simp [gR, gOk, h1]]
    go_enter Try.func29, Try.ntmps29
    go_wp2_with (first | (go_at_call 53; refine (impl_isOrder _ _).mono ?_; rintro e w' ⟨rfl, rfl⟩) | (go_at_call 61; refine (impl_isStepCount _ _).mono ?_; rintro e w' ⟨rfl, rfl⟩) | (go_at_call 62; refine (impl_isBase _ _).mono ?_; rintro e w' ⟨rfl, rfl⟩))
    go_ret2
    exact ⟨rfl, Below.refl _ _⟩
  cases h2 : inB s 0 100000
  · rw [show gR o s b = (0, 2) from by simp [gR, gOk, h2]]
    go_enter Try.func29, Try.ntmps29
    go_wp2_with (first | (go_at_call 53; refine (impl_isOrder _ _).mono ?_; rintro e w' ⟨rfl, rfl⟩) | (go_at_call 61; refine (impl_isStepCount _ _).mono ?_; rintro e w' ⟨rfl, rfl⟩) | (go_at_call 62; refine (impl_isBase _ _).mono ?_; rintro e w' ⟨rfl, rfl⟩))
    go_ret2
    exact ⟨rfl, Below.refl _ _⟩
  cases h3 : inB b 2 16
  · rw [show gR o s b = (0, 2) from by simp [gR, gOk, h3]]
    go_enter Try.func29, Try.ntmps29
    go_wp2_with (first | (go_at_call 53; refine (impl_isOrder _ _).mono ?_; rintro e w' ⟨rfl, rfl⟩) | (go_at_call 61; refine (impl_isStepCount _ _).mono ?_; rintro e w' ⟨rfl, rfl⟩) | (go_at_call 62; refine (impl_isBase _ _).mono ?_; rintro e w' ⟨rfl, rfl⟩))
    go_ret2
    exact ⟨rfl, Below.refl _ _⟩
  obtain ⟨h1a, h1b⟩ := inB_iff.1 h1
  obtain ⟨h2a, h2b⟩ := inB_iff.1 h2
  obtain ⟨h3a, h3b⟩ := inB_iff.1 h3
  have HR := Lib.hid (show gR o s b = (if 1000000000000 < gSum o s then (0, 5) else (gd ((gSum o s).toNat + 1) b (gSum o s) 1 0, 0)) from by simp [gR, gOk, h1, h2, h3])
  go_enter Try.func29, Try.ntmps29
  go_wp2_with (first | (go_at_call 53; refine (impl_isOrder _ _).mono ?_; rintro e w' ⟨rfl, rfl⟩) | (go_at_call 61; refine (impl_isStepCount _ _).mono ?_; rintro e w' ⟨rfl, rfl⟩) | (go_at_call 62; refine (impl_isBase _ _).mono ?_; rintro e w' ⟨rfl, rfl⟩))
  go_loopw [8, 28] (fun v i wr => ∃ j : Nat, (j : Int) ≤ o + 1 ∧ i = .int .i64 j ∧ Own wr w.heap.size v (List.replicate j 1) ∧ Below w.heap.size w wr ∧ w.heap.size ≤ wr.heap.size) (fun _ i _ => (20 - intOf i).toNat)
  case atStart => exact ⟨0, by omega, rfl, own_empty _ _ (Nat.le_refl _), (Below.refl _ _).alloc (Nat.le_refl _) _, by simp⟩
  case round =>
    obtain ⟨j, hj, rfl, ho, hb, hs⟩ := hrel
    have HO := Lib.hid ho; have HB := Lib.hid hb; clear hb
    by_cases hlt : (j : Int) ≤ o
    · clear ho
      go_wp2_with (at_builtin; refine wp_app rfl _ _ rfl _ _ (own_alloc HO.out _) rfl rfl (by simp; rfl) (by simp; omega) (by simp; omega) ?_; intro v' w' ho' hg')
      obtain ⟨hb', hs'⟩ := app_below HB.out HO.out hg' (Nat.le_refl _) hs
      rw [ones_snoc] at ho'
      go_roundw
      case rel => exact ⟨j + 1, by omega, by go_num, ho', hb', hs'⟩
      case measure => simp [intOf]; omega
    · have hlen : (List.replicate j (1 : Int)).length = j := List.length_replicate
      have HG := Lib.hid (show psum (List.replicate j 1) s.toNat j = gSum o s from by unfold gSum; rw [show o.toNat + 1 = j from by omega])
      have hg0 : 0 ≤ gSum o s := by rw [← HG.out]; exact psum_nonneg (slip_nonneg (ones_ok _)) _
      go_wp2_with fail
      refine (impl_sumBound _ _ ho h2a h2b (ones_ok _) (by simp; omega)).mono ?_; rintro e w2 ⟨rfl, rfl⟩; rw [hlen]
      rw [HG.out]
      clear ho hlen
      by_cases big : 1000000000000 < gSum o s
      · have HF := Lib.hid (show gR o s b = (0, 5) from by rw [HR.out, if_pos big])
        rw [capM_big big]
        go_wp2_with fail
        go_ret2
        exact ⟨by rw [HF.out]; rfl, HB.out⟩
      · have HF := Lib.hid (show gR o s b = (gd ((gSum o s).toNat + 1) b (gSum o s) 1 0, 0) from by rw [HR.out, if_neg big])
        rw [capM_small (by omega)]
        go_wp2_with fail
        go_loop [10, 11] (fun n u => ∃ (f : Nat) (m x : Int), n = .int .i64 m ∧ u = .int .i64 x ∧ 0 ≤ m ∧ m < x ∧ x ≤ 100000000000000 ∧ Hid (gSum o s - x < (f : Int)) ∧ Hid (gd f b (gSum o s) x m = gd ((gSum o s).toNat + 1) b (gSum o s) 1 0)) (fun _ u => (100000000000000 - intOf u).toNat)
        case atStart => exact ⟨_, 0, 1, rfl, rfl, by omega, by omega, by omega, by show _ < _; omega, rfl⟩
        case round =>
          obtain ⟨f, m, x, rfl, rfl, m0, m1, x1, hf, hg⟩ := hrel
          by_cases hlt2 : x < gSum o s
          · have p1 := Int.mul_le_mul_of_nonneg_left h3a (show 0 ≤ x by omega)
            have p2 := Int.mul_le_mul_of_nonneg_left h3b (show 0 ≤ x by omega)
            obtain ⟨f', fa, fb⟩ := gd_go (n := m) hf.out hlt2 (by omega) h3a
            have FA := Lib.hid fa; have FB := Lib.hid fb; clear fa fb
            go_wp2
            go_round
            case rel => exact ⟨f', m + 1, x * b, rfl, rfl, by omega, by omega, by omega, FA.out, by show _ = _; rw [← FB.out]; exact hg.out⟩
            case measure => simp [intOf]; omega
          · have HE := Lib.hid (gd_end (f := f) (b := b) (n := m) hlt2)
            go_wp2
            go_ret2
            exact ⟨by rw [HF.out, ← hg.out, HE.out]; rfl, HB.out⟩
set_option maxHeartbeats 1000000 in
theorem spec_GuardDigits (o s b : Int) (w : World) :
    Calls Try.prog 28 #[.int .i64 o, .int .i64 s, .int .i64 b] w (RetV w (.tuple #[.int .i64 (gR o s b).1, .int .i64 (gR o s b).2])) := by
  cases h1 : inB o 0 8
  · rw [show gR o s b = (0, 2) from by simp [gR, gOk, h1]]
    go_enter Try.func28, Try.ntmps28
    go_wp2_with (first | (go_at_call 44; refine (spec_l00In _ _ _ _).mono ?_; rintro e w' ⟨rfl, rfl⟩) | (go_at_call 59; refine (spec_l02Base _ _).mono ?_; rintro e w' ⟨rfl, rfl⟩))
    go_ret2
    exact ⟨rfl, Below.refl _ _⟩
  cases h2 : inB s 0 100000
  · rw [show gR o s b = (0, 2) from by simp [gR, gOk, h2]]
    go_enter Try.func28, Try.ntmps28
    go_wp2_with (first | (go_at_call 44; refine (spec_l00In _ _ _ _).mono ?_; rintro e w' ⟨rfl, rfl⟩) | (go_at_call 59; refine (spec_l02Base _ _).mono ?_; rintro e w' ⟨rfl, rfl⟩))
    go_ret2
    exact ⟨rfl, Below.refl _ _⟩
  cases h3 : inB b 2 16
  · rw [show gR o s b = (0, 2) from by simp [gR, gOk, h3]]
    go_enter Try.func28, Try.ntmps28
    go_wp2_with (first | (go_at_call 44; refine (spec_l00In _ _ _ _).mono ?_; rintro e w' ⟨rfl, rfl⟩) | (go_at_call 59; refine (spec_l02Base _ _).mono ?_; rintro e w' ⟨rfl, rfl⟩))
    go_ret2
    exact ⟨rfl, Below.refl _ _⟩
  obtain ⟨h1a, h1b⟩ := inB_iff.1 h1
  obtain ⟨h2a, h2b⟩ := inB_iff.1 h2
  obtain ⟨h3a, h3b⟩ := inB_iff.1 h3
  have HR := Lib.hid (show gR o s b = (if 1000000000000 < gSum o s then (0, 5) else (gd ((gSum o s).toNat + 1) b (gSum o s) 1 0, 0)) from by simp [gR, gOk, h1, h2, h3])
  go_enter Try.func28, Try.ntmps28
  go_wp2_with (first | (go_at_call 44; refine (spec_l00In _ _ _ _).mono ?_; rintro e w' ⟨rfl, rfl⟩) | (go_at_call 59; refine (spec_l02Base _ _).mono ?_; rintro e w' ⟨rfl, rfl⟩))
  go_loopw [8, 9] (fun v i wr => ∃ j : Nat, (j : Int) ≤ o + 1 ∧ i = .int .i64 j ∧ Own wr w.heap.size v (List.replicate j 1) ∧ Below w.heap.size w wr ∧ w.heap.size ≤ wr.heap.size) (fun _ i _ => (20 - intOf i).toNat)
  case atStart => exact ⟨0, by omega, rfl, own_empty _ _ (Nat.le_refl _), (Below.refl _ _).alloc (Nat.le_refl _) _, by simp⟩
  case round =>
    obtain ⟨j, hj, rfl, ho, hb, hs⟩ := hrel
    have HO := Lib.hid ho; have HB := Lib.hid hb; clear hb
    by_cases hlt : (j : Int) ≤ o
    · clear ho
      go_wp2_with (at_builtin; refine wp_app rfl _ _ rfl _ _ (own_alloc HO.out _) rfl rfl (by simp; rfl) (by simp; omega) (by simp; omega) ?_; intro v' w' ho' hg')
      obtain ⟨hb', hs'⟩ := app_below HB.out HO.out hg' (Nat.le_refl _) hs
      rw [ones_snoc] at ho'
      go_roundw
      case rel => exact ⟨j + 1, by omega, by go_num, ho', hb', hs'⟩
      case measure => simp [intOf]; omega
    · have hlen : (List.replicate j (1 : Int)).length = j := List.length_replicate
      have HG := Lib.hid (show psum (List.replicate j 1) s.toNat j = gSum o s from by unfold gSum; rw [show o.toNat + 1 = j from by omega])
      have hg0 : 0 ≤ gSum o s := by rw [← HG.out]; exact psum_nonneg (slip_nonneg (ones_ok _)) _
      go_wp2_with fail
      refine (spec_l17Sum _ _ ho h2a h2b (ones_ok _) (by simp; omega)).mono ?_; rintro e w2 ⟨rfl, b2⟩; rw [hlen]; have HB := Lib.hid (Below.trans_size HB.out b2); clear b2
      rw [HG.out]
      clear ho hlen
      by_cases big : 1000000000000 < gSum o s
      · have HF := Lib.hid (show gR o s b = (0, 5) from by rw [HR.out, if_pos big])
        rw [capM_big big]
        go_wp2_with fail
        go_ret2
        exact ⟨by rw [HF.out]; rfl, HB.out⟩
      · have HF := Lib.hid (show gR o s b = (gd ((gSum o s).toNat + 1) b (gSum o s) 1 0, 0) from by rw [HR.out, if_neg big])
        rw [capM_small (by omega)]
        go_wp2_with fail
        go_loop [11, 12] (fun n u => ∃ (f : Nat) (m x : Int), n = .int .i64 m ∧ u = .int .i64 x ∧ 0 ≤ m ∧ m < x ∧ x ≤ 100000000000000 ∧ Hid (gSum o s - x < (f : Int)) ∧ Hid (gd f b (gSum o s) x m = gd ((gSum o s).toNat + 1) b (gSum o s) 1 0)) (fun _ u => (100000000000000 - intOf u).toNat)
        case atStart => exact ⟨_, 0, 1, rfl, rfl, by omega, by omega, by omega, by show _ < _; omega, rfl⟩
        case round =>
          obtain ⟨f, m, x, rfl, rfl, m0, m1, x1, hf, hg⟩ := hrel
          by_cases hlt2 : x < gSum o s
          · have p1 := Int.mul_le_mul_of_nonneg_left h3a (show 0 ≤ x by omega)
            have p2 := Int.mul_le_mul_of_nonneg_left h3b (show 0 ≤ x by omega)
            obtain ⟨f', fa, fb⟩ := gd_go (n := m) hf.out hlt2 (by omega) h3a
            have FA := Lib.hid fa; have FB := Lib.hid fb; clear fa fb
            go_wp2
            go_round
            case rel => exact ⟨f', m + 1, x * b, rfl, rfl, by omega, by omega, by omega, FA.out, by show _ = _; rw [← FB.out]; exact hg.out⟩
            case measure => simp [intOf]; omega
          · have HE := Lib.hid (gd_end (f := f) (b := b) (n := m) hlt2)
            go_wp2
            go_ret2
            exact ⟨by rw [HF.out, ← hg.out, HE.out]; rfl, HB.out⟩
def spl (n : Nat) (s : Int) : List Int := (List.range (n + 1)).map fun k : Nat => if k % 2 = 1 then -(s * (ch n k : Int)) else s * (ch n k : Int)
theorem spl_take (n : Nat) (s : Int) (j : Nat) (h : j ≤ n) : (spl n s).take (j + 1) = (spl n s).take j ++ [if j % 2 = 1 then -(s * (ch n j : Int)) else s * (ch n j : Int)] := by
  rw [List.take_succ_eq_append_getElem (by simp [spl]; omega)]
  simp [spl]
theorem spl_len (n : Nat) (s : Int) : (spl n s).length = n + 1 := by simp [spl]
def splR (n s : Int) : List Int × Int := if inB n 0 8 && inB s 0 1000000 then (spl n.toNat s, 0) else ([], 2)
theorem splR_len (n s : Int) : (splR n s).1.length ≤ 9 := by
  unfold splR
  split
  · rename_i h
    simp only [Bool.and_eq_true] at h
    have := inB_iff.1 h.1
    rw [spl_len]; omega
  · simp
theorem ch8_chk : ∀ n : Fin 9, ∀ k : Fin 9, k.val ≤ n.val → binOf (n.val : Int) (k.val : Int) = (ch n.val k.val : Int) ∧ capM (ch n.val k.val) = (ch n.val k.val : Int) ∧ (ch n.val k.val : Int) ≤ 70 := by decide +kernel
theorem ch8 {n k : Nat} (hn : n ≤ 8) (hk : k ≤ n) : binOf (n : Int) (k : Int) = (ch n k : Int) ∧ capM (ch n k) = (ch n k : Int) ∧ (ch n k : Int) ≤ 70 := ch8_chk ⟨n, by omega⟩ ⟨k, by omega⟩ hk
set_option maxHeartbeats 1000000 in
theorem impl_SpreadError (n s : Int) (w : World) :
    Calls Try.prog 31 #[.int .i64 n, .int .i64 s] w (RetOwnI w (splR n s).1 (splR n s).2) := by
  cases h1 : inB n 0 8
  · rw [show splR n s = ([], 2) from by simp [splR, h1]]
    go_enter Try.func31, Try.ntmps31
    go_wp2_with (first | (go_at_call 53; refine (impl_isOrder _ _).mono ?_; rintro e w' ⟨rfl, rfl⟩) | (go_at_call 54; refine (impl_isSlip _ _).mono ?_; rintro e w' ⟨rfl, rfl⟩))
    go_ret2
    exact ⟨_, rfl, own_nil, Below.refl _ _⟩
  cases h2 : inB s 0 1000000
  · rw [show splR n s = ([], 2) from by simp [splR, h2]]
    go_enter Try.func31, Try.ntmps31
    go_wp2_with (first | (go_at_call 53; refine (impl_isOrder _ _).mono ?_; rintro e w' ⟨rfl, rfl⟩) | (go_at_call 54; refine (impl_isSlip _ _).mono ?_; rintro e w' ⟨rfl, rfl⟩))
    go_ret2
    exact ⟨_, rfl, own_nil, Below.refl _ _⟩
  obtain ⟨h1a, h1b⟩ := inB_iff.1 h1
  obtain ⟨h2a, h2b⟩ := inB_iff.1 h2
  rw [show splR n s = (spl n.toNat s, 0) from by simp [splR, h1, h2]]
  obtain ⟨n, rfl⟩ := Int.eq_ofNat_of_zero_le h1a
  replace h1b : n ≤ 8 := by omega
  rw [Int.toNat_natCast]
  go_enter Try.func31, Try.ntmps31
  go_wp2_with (first | (go_at_call 53; refine (impl_isOrder _ _).mono ?_; rintro e w' ⟨rfl, rfl⟩) | (go_at_call 54; refine (impl_isSlip _ _).mono ?_; rintro e w' ⟨rfl, rfl⟩))
  go_loopw [6, 7, 8, 20] (fun v _ _ i wr => ∃ j : Nat, j ≤ n + 1 ∧ i = .int .i64 j ∧ Own wr w.heap.size v ((spl n s).take j) ∧ Below w.heap.size w wr ∧ w.heap.size ≤ wr.heap.size) (fun _ _ _ i _ => (20 - intOf i).toNat)
  case atStart => exact ⟨0, by omega, rfl, own_empty _ _ (Nat.le_refl _), (Below.refl _ _).alloc (Nat.le_refl _) _, by simp⟩
  case round =>
    obtain ⟨j, hj, rfl, ho, hb, hs⟩ := hrel
    have HO := Lib.hid ho; have HB := Lib.hid hb; clear ho hb
    by_cases hlt : j ≤ n
    · have HT := Lib.hid (spl_take n s j hlt)
      have E1 := Lib.hid ((ch8 (n := n) (k := j) h1b (by omega)).1)
      have c1 := (ch8 (n := n) (k := j) h1b hlt).2.2
      have p := prod_bd h2a h2b (show (0 : Int) ≤ (ch n j : Int) by omega) c1
      obtain ⟨p1, p2⟩ := p
      have hl : ((spl n s).take j).length ≤ 1000000000 := by rw [List.length_take]; omega
      by_cases odd : j % 2 = 1
      · have b1 : (((j : Int) % 2) == 1) = true := by simp; omega
        have HODD := Lib.hid odd; clear odd
        go_wp2_with (first | (go_at_call 65; refine (impl_binomial _ _ _ (by omega) (by omega) (by omega) (by omega)).mono ?_; rintro e w' ⟨rfl, rfl⟩; rw [E1.out]) | (at_builtin; refine wp_app rfl _ _ rfl _ _ (own_alloc HO.out _) rfl rfl (by simp; rfl) hl (by simp; omega) ?_; intro v' w' ho' hg'))
        obtain ⟨hb', hs'⟩ := app_below HB.out HO.out hg' (Nat.le_refl _) hs
        go_roundw
        case rel => exact ⟨j + 1, by omega, by go_num, by rw [HT.out, if_pos HODD.out]; exact ho', hb', hs'⟩
        case measure => simp [intOf]; omega
      · have b1 : (((j : Int) % 2) == 1) = false := by simp; omega
        have HODD := Lib.hid odd; clear odd
        go_wp2_with (first | (go_at_call 65; refine (impl_binomial _ _ _ (by omega) (by omega) (by omega) (by omega)).mono ?_; rintro e w' ⟨rfl, rfl⟩; rw [E1.out]) | (at_builtin; refine wp_app rfl _ _ rfl _ _ (own_alloc HO.out _) rfl rfl (by simp; rfl) hl (by simp; omega) ?_; intro v' w' ho' hg'))
        obtain ⟨hb', hs'⟩ := app_below HB.out HO.out hg' (Nat.le_refl _) hs
        go_roundw
        case rel => exact ⟨j + 1, by omega, by go_num, by rw [HT.out, if_neg HODD.out]; exact ho', hb', hs'⟩
        case measure => simp [intOf]; omega
    · obtain rfl : j = n + 1 := by omega
      have HF := Lib.hid (show (spl n s).take (n + 1) = spl n s from List.take_of_length_le (by rw [spl_len]; omega))
      go_wp2
      go_ret2
      exact ⟨_, rfl, by have := HO.out; rw [HF.out] at this; exact this, HB.out⟩
set_option maxHeartbeats 1000000 in
theorem spec_SpreadError (n s : Int) (w : World) :
    Calls Try.prog 30 #[.int .i64 n, .int .i64 s] w (RetOwnI w (splR n s).1 (splR n s).2) := by
  cases h1 : inB n 0 8
  · rw [show splR n s = ([], 2) from by simp [splR, h1]]
    go_enter Try.func30, Try.ntmps30
    go_wp2_with (go_at_call 52; refine (spec_l17Order _ _ _).mono ?_; rintro e w' ⟨rfl, rfl⟩; rw [h1, show okc (false && inB s 0 1000000) = 2 from rfl])
    go_ret2
    exact ⟨_, rfl, own_nil, Below.refl _ _⟩
  cases h2 : inB s 0 1000000
  · rw [show splR n s = ([], 2) from by simp [splR, h2]]
    go_enter Try.func30, Try.ntmps30
    go_wp2_with (go_at_call 52; refine (spec_l17Order _ _ _).mono ?_; rintro e w' ⟨rfl, rfl⟩; rw [h1, h2, show okc (true && false) = 2 from rfl])
    go_ret2
    exact ⟨_, rfl, own_nil, Below.refl _ _⟩
  obtain ⟨h1a, h1b⟩ := inB_iff.1 h1
  obtain ⟨h2a, h2b⟩ := inB_iff.1 h2
  rw [show splR n s = (spl n.toNat s, 0) from by simp [splR, h1, h2]]
  obtain ⟨n, rfl⟩ := Int.eq_ofNat_of_zero_le h1a
  replace h1b : n ≤ 8 := by omega
  rw [Int.toNat_natCast]
  go_enter Try.func30, Try.ntmps30
  go_wp2_with (go_at_call 52; refine (spec_l17Order _ _ _).mono ?_; rintro e w' ⟨rfl, rfl⟩; rw [h1, h2, show okc (true && true) = 0 from rfl])
  go_loopw [7, 8, 9] (fun v i _ wr => ∃ j : Nat, j ≤ n + 1 ∧ i = .int .i64 j ∧ Own wr w.heap.size v ((spl n s).take j) ∧ Below w.heap.size w wr ∧ w.heap.size ≤ wr.heap.size) (fun _ i _ _ => (20 - intOf i).toNat)
  case atStart => exact ⟨0, by omega, rfl, own_empty _ _ (Nat.le_refl _), (Below.refl _ _).alloc (Nat.le_refl _) _, by simp⟩
  case round =>
    obtain ⟨j, hj, rfl, ho, hb, hs⟩ := hrel
    have HO := Lib.hid ho; have HB := Lib.hid hb; clear ho hb
    by_cases hlt : j ≤ n
    · have HT := Lib.hid (spl_take n s j hlt)
      have E1 := Lib.hid ((show capM (ch (n : Int).toNat (j : Int).toNat) = (ch n j : Int) from (ch8 (n := n) (k := j) h1b (by omega)).2.1))
      have c1 := (ch8 (n := n) (k := j) h1b hlt).2.2
      have p := prod_bd h2a h2b (show (0 : Int) ≤ (ch n j : Int) by omega) c1
      obtain ⟨p1, p2⟩ := p
      have hl : ((spl n s).take j).length ≤ 1000000000 := by rw [List.length_take]; omega
      by_cases odd : j % 2 = 1
      · have b1 : (((j : Int) % 2) == 1) = true := by simp; omega
        have HODD := Lib.hid odd; clear odd
        go_wp2_with (first | (go_at_call 64; refine (spec_l17Choose _ _ _ (by omega) (by omega) (by omega) (by omega)).mono ?_; rintro e w' ⟨rfl, rfl⟩; rw [E1.out]) | (at_builtin; refine wp_app rfl _ _ rfl _ _ (own_alloc HO.out _) rfl rfl (by simp; rfl) hl (by simp; omega) ?_; intro v' w' ho' hg'))
        obtain ⟨hb', hs'⟩ := app_below HB.out HO.out hg' (Nat.le_refl _) hs
        go_roundw
        case rel => exact ⟨j + 1, by omega, by go_num, by rw [HT.out, if_pos HODD.out]; exact ho', hb', hs'⟩
        case measure => simp [intOf]; omega
      · have b1 : (((j : Int) % 2) == 1) = false := by simp; omega
        have HODD := Lib.hid odd; clear odd
        go_wp2_with (first | (go_at_call 64; refine (spec_l17Choose _ _ _ (by omega) (by omega) (by omega) (by omega)).mono ?_; rintro e w' ⟨rfl, rfl⟩; rw [E1.out]) | (at_builtin; refine wp_app rfl _ _ rfl _ _ (own_alloc HO.out _) rfl rfl (by simp; rfl) hl (by simp; omega) ?_; intro v' w' ho' hg'))
        obtain ⟨hb', hs'⟩ := app_below HB.out HO.out hg' (Nat.le_refl _) hs
        go_roundw
        case rel => exact ⟨j + 1, by omega, by go_num, by rw [HT.out, if_neg HODD.out]; exact ho', hb', hs'⟩
        case measure => simp [intOf]; omega
    · obtain rfl : j = n + 1 := by omega
      have HF := Lib.hid (show (spl n s).take (n + 1) = spl n s from List.take_of_length_le (by rw [spl_len]; omega))
      go_wp2
      go_ret2
      exact ⟨_, rfl, by have := HO.out; rw [HF.out] at this; exact this, HB.out⟩
end Go.Proofs.Ytgfliiomebbknaa
