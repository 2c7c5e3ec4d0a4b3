/- The value of a polynomial that is told by its first differences: the functions of both packages. -/
import Derived.IntWalk
import Derived.Deep.DeepCutAuto
import Derived.Test.YtgmgdjdpmjmmhaaNvP
import Derived.Test.YtgmgdjdpmjmmhaaDifB
namespace Go.Proofs.Ytgmgdjdpmjmmhaa
open Go.ChangeShapes Go.WideShapes Go.ChangeAt Go.RowKit
theorem ret_ib {a b : Int} {c d : Bool} (h : a = b) (h2 : c = d) : Ending.returned (.tuple #[.int .i64 a, .bool c]) = .returned (.tuple #[.int .i64 b, .bool d]) := by rw [h, h2]
theorem ret_nv {cs : List Int} {n : Nat} {s : Int} {b : Bool} (h : nvR cs n = (s, b)) : Ending.returned (.tuple #[.int .i64 s, .bool b]) = .returned (.tuple #[.int .i64 (nvR cs n).1, .bool (nvR cs n).2]) := by rw [h]
set_option maxHeartbeats 4000000 in
theorem impl_newtonValue {B : Nat} {v : Value} {zs : List Int} (n : Int) (w : World) (h : Own w B v zs) (h0 : 0 ≤ n) (h1 : n ≤ 1000) (hc : coefB zs = true) :
    Calls Try.prog 48 #[v, .int .i64 n] w fun e w' => e = .returned (.tuple #[.int .i64 (nvR zs n.toNat).1, .bool (nvR zs n.toNat).2]) ∧ w = w' := by
  obtain ⟨hbd, _, hl⟩ := coefB_parts hc
  obtain ⟨a, cap, rfl, hm, hcc⟩ := own_form h
  have HC := Lib.hid hcc; have HB := Lib.hid hbd; clear hcc h hbd hc
  go_enter Try.func48, Try.ntmps48
  go_wp2_with fail
  go_loop [6, 7, 8, 9, 12] (fun s c _ _ i => ∃ (j : Nat) (C S : Int), j ≤ zs.length ∧ i = .int .i64 j ∧ s = .int .i64 S ∧ c = .int .i64 C ∧ 0 ≤ C ∧ C ≤ 1000000000000001 ∧ -1000000000000000 ≤ S ∧ S ≤ 1000000000000000 ∧ Hid (C = capF (ch n.toNat (j - 1))) ∧ Hid (nvs zs n.toNat j = some S)) (fun _ _ _ _ i => (100 - intOf i).toNat)
  case atStart => exact ⟨0, 1, 0, Nat.zero_le _, rfl, rfl, rfl, by omega, by omega, by omega, by omega, by show (1 : Int) = capF (ch _ 0); rw [ch_zero]; rfl, rfl⟩
  case round =>
    obtain ⟨j, C, S, hj, rfl, rfl, rfl, c0, c1, s0, s1, hC, hS⟩ := hrel
    by_cases hlt : j < zs.length
    · obtain ⟨g, rfl, q⟩ := HC.out j hlt
      obtain ⟨z0, z1⟩ := nth_bd HB.out hlt
      obtain ⟨C', hC'⟩ : ∃ C', Hid (C' = capF (ch n.toNat j)) := ⟨_, rfl⟩
      have hC0 : 0 ≤ C' ∧ C' ≤ 1000000000000001 := by rw [hC'.out]; exact capF_bd (by omega)
      obtain ⟨y0, y1⟩ := hC0
      have cases3 : (j = 0 ∧ C' = C) ∨ (∃ i : Nat, j = i + 1 ∧ C ≤ 1000000000000000 ∧ Hid (C = (ch n.toNat i : Int))) ∨ (∃ i : Nat, j = i + 1 ∧ 1000000000000000 < C ∧ C' = C) := by
        cases j with
        | zero => exact .inl ⟨rfl, by rw [hC.out, hC'.out]⟩
        | succ i =>
          by_cases cb : C ≤ 1000000000000000
          · refine .inr (.inl ⟨i, rfl, cb, ?_⟩)
            have e : C = capF (ch n.toNat i) := hC.out
            show C = _
            unfold capF at e; split at e <;> omega
          · refine .inr (.inr ⟨i, rfl, by omega, ?_⟩)
            have e : C = capF (ch n.toNat i) := hC.out
            have e2 : 1000000000000000 < ch n.toNat i := by unfold capF at e; split at e <;> omega
            have e3 := (ch_big15 (show i ≤ 8 by omega) e2).1
            rw [hC'.out, capF_big (by omega)]; omega
      rcases cases3 with ⟨rfl, rfl⟩ | ⟨i, rfl, cb, hCi⟩ | ⟨i, rfl, cb, rfl⟩
      · go_upto_if 22 with (fail)
        go_cut [7] (fun s wx => s = .int .i64 C' ∧ wx = w)
        case first =>
          go_wp2
          go_meet
          exact ⟨rfl, rfl⟩
        case rest =>
          obtain ⟨rfl, rfl⟩ := hcut
          have CC := Lib.hid (show C' ≤ (ch n.toNat 0 : Int) from by rw [hC'.out]; unfold capF; split <;> omega)
          by_cases zc : nth zs 0 = 0
          · have E := Lib.hid (nvs_skip hS.out s0 s1 (.inl zc))
            have b0 : (nth zs 0 == 0) = true := by simpa using zc
            clear zc
            go_wp2
            go_round
            case rel => exact ⟨0 + 1, C', S, by omega, by go_num, rfl, rfl, y0, y1, s0, s1, hC', E.out⟩
            case measure => first | (simp [intOf]; done) | (simp [intOf]; omega)
          have b0 : (nth zs 0 == 0) = false := by simpa using zc
          by_cases zC : C' = 0
          · have E := Lib.hid (nvs_skip hS.out s0 s1 (.inr (by have e := hC'.out; rw [zC] at e; unfold capF at e; split at e <;> omega)))
            have b1 : (C' == 0) = true := by simpa using zC
            have ZC := Lib.hid zC
            clear zc zC
            go_wp2
            go_round
            case rel => exact ⟨0 + 1, C', S, by omega, by go_num, rfl, rfl, y0, y1, s0, s1, hC', E.out⟩
            case measure => first | (simp [intOf]; done) | (simp [intOf]; omega)
          have b1 : (C' == 0) = false := by simpa using zC
          have ia := iabs_bd (nth zs 0)
          have ip : 0 < iabs (nth zs 0) := by rcases ia.2.2.2 with h | h <;> omega
          obtain ⟨ia1, ia2, ia3, -⟩ := ia
          by_cases big : 1000000000000000 / iabs (nth zs 0) < C'
          · have HR := Lib.hid (nvR_none (nvs_big hS.out zc CC.out big) (show 0 + 1 ≤ zs.length by omega))
            have ZN := Lib.hid zc; clear zc zC
            go_wp2_with (first | (go_at_call 68; refine (impl_absolute _ _ (by omega) (by omega)).mono ?_; rintro e w' ⟨rfl, rfl⟩))
            go_ret2
            exact ⟨ret_nv HR.out, rfl⟩
          · obtain ⟨m1, m2, m3⟩ := prod_abs zc y0 big
            have CE := Lib.hid (show C' = (ch n.toNat 0 : Int) from by have e := hC'.out; unfold capF at e; split at e <;> omega)
            have E := Lib.hid (nvs_ok hS.out CE.out (.inr big))
            have ZN := Lib.hid zc; clear zc zC
            cases far : inB (S + nth zs 0 * C') (-1000000000000000) 1000000000000000
            · have HR := Lib.hid (nvR_none (show nvs zs n.toNat (0 + 1) = none by rw [E.out, far]; rfl) (show 0 + 1 ≤ zs.length by omega))
              go_wp2_with (first | (go_at_call 68; refine (impl_absolute _ _ (by omega) (by omega)).mono ?_; rintro e w' ⟨rfl, rfl⟩) | (go_at_call 52; refine (impl_isFar _ _).mono ?_; rintro e w' ⟨rfl, rfl⟩))
              go_ret2
              exact ⟨ret_nv HR.out, rfl⟩
            · have HS2 := Lib.hid (show nvs zs n.toNat (0 + 1) = some (S + nth zs 0 * C') by rw [E.out, far]; rfl)
              have fb := Lib.hid (inB_iff.1 far)
              go_wp2_with (first | (go_at_call 68; refine (impl_absolute _ _ (by omega) (by omega)).mono ?_; rintro e w' ⟨rfl, rfl⟩) | (go_at_call 52; refine (impl_isFar _ _).mono ?_; rintro e w' ⟨rfl, rfl⟩))
              go_round
              case rel => exact ⟨0 + 1, C', S + nth zs 0 * C', by omega, by go_num, rfl, rfl, y0, y1, fb.out.1, fb.out.2, hC', HS2.out⟩
              case measure => first | (simp [intOf]; done) | (simp [intOf]; omega)
      · go_upto_if 22 with (fail)
        go_cut [7] (fun s wx => s = .int .i64 C' ∧ wx = w)
        case first =>
          by_cases hin : (i : Int) ≤ n
          · have p := prod_bd c0 cb (show 0 ≤ n - (↑i + 1) + 1 by omega) (show n - (↑i + 1) + 1 ≤ 1009 by omega)
            obtain ⟨p1, p2⟩ := p
            have E := Lib.hid (show C * (n - (↑i + 1) + 1) / (↑i + 1) = (ch n.toNat (i + 1) : Int) from by
              rw [hCi.out]; have e := ch_step_div (N := n.toNat) (i := i) (by omega); rwa [show ((n.toNat : Nat) : Int) = n by omega] at e)
            by_cases hcap : C * (n - (↑i + 1) + 1) / (↑i + 1) ≤ 1000000000000001
            all_goals
              go_wp2
              go_meet
              exact ⟨congrArg (Value.int .i64) (by rw [hC'.out]; unfold capF; have := E.out; split <;> omega), rfl⟩
          · have Z := Lib.hid (show C' = 0 from by rw [hC'.out, ch_lt (by omega)]; rfl)
            obtain rfl : C = 0 := by rw [hCi.out, ch_lt (by omega)]; rfl
            go_wp2
            go_meet
            exact ⟨congrArg (Value.int .i64) (by rw [Z.out]), rfl⟩
        case rest =>
          obtain ⟨rfl, rfl⟩ := hcut
          have CC := Lib.hid (show C' ≤ (ch n.toNat (i + 1) : Int) from by rw [hC'.out]; unfold capF; split <;> omega)
          by_cases zc : nth zs (i + 1) = 0
          · have E := Lib.hid (nvs_skip hS.out s0 s1 (.inl zc))
            have b0 : (nth zs (i + 1) == 0) = true := by simpa using zc
            clear zc
            go_wp2
            go_round
            case rel => exact ⟨(i + 1) + 1, C', S, by omega, by go_num, rfl, rfl, y0, y1, s0, s1, hC', E.out⟩
            case measure => first | (simp [intOf]; done) | (simp [intOf]; omega)
          have b0 : (nth zs (i + 1) == 0) = false := by simpa using zc
          by_cases zC : C' = 0
          · have E := Lib.hid (nvs_skip hS.out s0 s1 (.inr (by have e := hC'.out; rw [zC] at e; unfold capF at e; split at e <;> omega)))
            have b1 : (C' == 0) = true := by simpa using zC
            have ZC := Lib.hid zC
            clear zc zC
            go_wp2
            go_round
            case rel => exact ⟨(i + 1) + 1, C', S, by omega, by go_num, rfl, rfl, y0, y1, s0, s1, hC', E.out⟩
            case measure => first | (simp [intOf]; done) | (simp [intOf]; omega)
          have b1 : (C' == 0) = false := by simpa using zC
          have ia := iabs_bd (nth zs (i + 1))
          have ip : 0 < iabs (nth zs (i + 1)) := by rcases ia.2.2.2 with h | h <;> omega
          obtain ⟨ia1, ia2, ia3, -⟩ := ia
          by_cases big : 1000000000000000 / iabs (nth zs (i + 1)) < C'
          · have HR := Lib.hid (nvR_none (nvs_big hS.out zc CC.out big) (show (i + 1) + 1 ≤ zs.length by omega))
            have ZN := Lib.hid zc; clear zc zC
            go_wp2_with (first | (go_at_call 68; refine (impl_absolute _ _ (by omega) (by omega)).mono ?_; rintro e w' ⟨rfl, rfl⟩))
            go_ret2
            exact ⟨ret_nv HR.out, rfl⟩
          · obtain ⟨m1, m2, m3⟩ := prod_abs zc y0 big
            have CE := Lib.hid (show C' = (ch n.toNat (i + 1) : Int) from by have e := hC'.out; unfold capF at e; split at e <;> omega)
            have E := Lib.hid (nvs_ok hS.out CE.out (.inr big))
            have ZN := Lib.hid zc; clear zc zC
            cases far : inB (S + nth zs (i + 1) * C') (-1000000000000000) 1000000000000000
            · have HR := Lib.hid (nvR_none (show nvs zs n.toNat ((i + 1) + 1) = none by rw [E.out, far]; rfl) (show (i + 1) + 1 ≤ zs.length by omega))
              go_wp2_with (first | (go_at_call 68; refine (impl_absolute _ _ (by omega) (by omega)).mono ?_; rintro e w' ⟨rfl, rfl⟩) | (go_at_call 52; refine (impl_isFar _ _).mono ?_; rintro e w' ⟨rfl, rfl⟩))
              go_ret2
              exact ⟨ret_nv HR.out, rfl⟩
            · have HS2 := Lib.hid (show nvs zs n.toNat ((i + 1) + 1) = some (S + nth zs (i + 1) * C') by rw [E.out, far]; rfl)
              have fb := Lib.hid (inB_iff.1 far)
              go_wp2_with (first | (go_at_call 68; refine (impl_absolute _ _ (by omega) (by omega)).mono ?_; rintro e w' ⟨rfl, rfl⟩) | (go_at_call 52; refine (impl_isFar _ _).mono ?_; rintro e w' ⟨rfl, rfl⟩))
              go_round
              case rel => exact ⟨(i + 1) + 1, C', S + nth zs (i + 1) * C', by omega, by go_num, rfl, rfl, y0, y1, fb.out.1, fb.out.2, hC', HS2.out⟩
              case measure => first | (simp [intOf]; done) | (simp [intOf]; omega)
      · go_upto_if 22 with (fail)
        go_cut [7] (fun s wx => s = .int .i64 C' ∧ wx = w)
        case first =>
          go_wp2
          go_meet
          exact ⟨rfl, rfl⟩
        case rest =>
          obtain ⟨rfl, rfl⟩ := hcut
          have CC := Lib.hid (show C' ≤ (ch n.toNat (i + 1) : Int) from by rw [hC'.out]; unfold capF; split <;> omega)
          by_cases zc : nth zs (i + 1) = 0
          · have E := Lib.hid (nvs_skip hS.out s0 s1 (.inl zc))
            have b0 : (nth zs (i + 1) == 0) = true := by simpa using zc
            clear zc
            go_wp2
            go_round
            case rel => exact ⟨(i + 1) + 1, C', S, by omega, by go_num, rfl, rfl, y0, y1, s0, s1, hC', E.out⟩
            case measure => first | (simp [intOf]; done) | (simp [intOf]; omega)
          have b0 : (nth zs (i + 1) == 0) = false := by simpa using zc
          by_cases zC : C' = 0
          · have E := Lib.hid (nvs_skip hS.out s0 s1 (.inr (by have e := hC'.out; rw [zC] at e; unfold capF at e; split at e <;> omega)))
            have b1 : (C' == 0) = true := by simpa using zC
            have ZC := Lib.hid zC
            clear zc zC
            go_wp2
            go_round
            case rel => exact ⟨(i + 1) + 1, C', S, by omega, by go_num, rfl, rfl, y0, y1, s0, s1, hC', E.out⟩
            case measure => first | (simp [intOf]; done) | (simp [intOf]; omega)
          have b1 : (C' == 0) = false := by simpa using zC
          have ia := iabs_bd (nth zs (i + 1))
          have ip : 0 < iabs (nth zs (i + 1)) := by rcases ia.2.2.2 with h | h <;> omega
          obtain ⟨ia1, ia2, ia3, -⟩ := ia
          by_cases big : 1000000000000000 / iabs (nth zs (i + 1)) < C'
          · have HR := Lib.hid (nvR_none (nvs_big hS.out zc CC.out big) (show (i + 1) + 1 ≤ zs.length by omega))
            have ZN := Lib.hid zc; clear zc zC
            go_wp2_with (first | (go_at_call 68; refine (impl_absolute _ _ (by omega) (by omega)).mono ?_; rintro e w' ⟨rfl, rfl⟩))
            go_ret2
            exact ⟨ret_nv HR.out, rfl⟩
          · exfalso
            have := (prod_abs zc y0 big).2.2
            omega
    · obtain rfl : j = zs.length := by omega
      have HR := Lib.hid (nvR_some hS.out)
      go_wp2
      go_ret2
      exact ⟨ret_nv HR.out, rfl⟩
def tms (c b o : Int) : Int := if 1000000000000000 < c then c else c * b / o
theorem spec_l15Times (c b o : Int) (w : World) (h0 : 0 ≤ c) (h1 : c ≤ 1000000000000000000) (h2 : 0 ≤ b) (h3 : b ≤ 1000) (h4 : 1 ≤ o) (h5 : o ≤ 100) :
    Calls Try.prog 67 #[.int .i64 c, .int .i64 b, .int .i64 o] w fun e w' => e = .returned (.int .i64 (tms c b o)) ∧ w = w' := by
  unfold tms
  by_cases hb : 1000000000000000 < c
  · rw [if_pos hb]
    go_enter Try.func67, Try.ntmps67
    go_wp2
    go_ret
    exact ⟨rfl, rfl⟩
  · rw [if_neg hb]
    have p := prod_bd h0 (show c ≤ 1000000000000000 by omega) h2 h3
    obtain ⟨p1, p2⟩ := p
    go_enter Try.func67, Try.ntmps67
    go_wp2
    go_ret
    exact ⟨rfl, rfl⟩
theorem nv_big2 {cs : List Int} {n j : Nat} {s C : Int} (h : nvs cs n j = some s) (hc : nth cs j ≠ 0) (hC : ((ch n j : Int) ≤ 1000000000000000 → C = (ch n j : Int)) ∧ (1000000000000000 < (ch n j : Int) → 1000000000000000 < C)) (hb : 1000000000000000 / iabs (nth cs j) < C) : nvs cs n (j + 1) = none := by
  by_cases q : (ch n j : Int) ≤ 1000000000000000
  · exact nvs_big h hc (by rw [hC.1 q]; exact Int.le_refl _) hb
  · have b := iabs_bd (nth cs j)
    have e := Int.ediv_le_self (a := 1000000000000000) (iabs (nth cs j)) (by omega)
    exact nvs_big h hc (Int.le_refl _) (by omega)
theorem tms_step {n j : Nat} {C : Int} (hj : j ≤ 8) (h1 : (ch n j : Int) ≤ 1000000000000000 → C = (ch n j : Int)) (h2 : 1000000000000000 < (ch n j : Int) → 1000000000000000 < C) (hn : j < n) :
    ((ch n (j + 1) : Int) ≤ 1000000000000000 → tms C ((n : Int) - j) (j + 1) = (ch n (j + 1) : Int)) ∧ (1000000000000000 < (ch n (j + 1) : Int) → 1000000000000000 < tms C ((n : Int) - j) (j + 1)) := by
  by_cases big : 1000000000000000 < (ch n j : Int)
  · have b := ch_big15 hj (show 1000000000000000 < ch n j by omega)
    have c := h2 big
    rw [show tms C ((n : Int) - j) (j + 1) = C from if_pos c]
    exact ⟨fun h => by omega, fun _ => c⟩
  · have c := h1 (by omega)
    have e := ch_step_div (N := n) (i := j) (by omega)
    rw [show tms C ((n : Int) - j) (j + 1) = C * ((n : Int) - j) / (j + 1) from if_neg (by omega), c, show (n : Int) - j = (n : Int) - (j + 1) + 1 by omega, e]
    exact ⟨fun _ => rfl, fun h => h⟩
theorem tms_bd {C b o : Int} (h0 : 0 ≤ C) (h1 : C ≤ 1000000000000000000) (h2 : 0 ≤ b) (h3 : b ≤ 1000) (h4 : 1 ≤ o) : 0 ≤ tms C b o ∧ tms C b o ≤ 1000000000000000000 := by
  unfold tms
  split
  · omega
  · have p := prod_bd h0 (show C ≤ 1000000000000000 by omega) h2 h3
    have q := Int.ediv_le_self o p.1
    have r := Int.ediv_nonneg p.1 (show 0 ≤ o by omega)
    omega
set_option maxHeartbeats 4000000 in
theorem spec_l15Value {B : Nat} {v : Value} {zs : List Int} (n : Int) (w : World) (h : Own w B v zs) (h0 : 0 ≤ n) (h1 : n ≤ 1000) (hc : coefB zs = true) :
    Calls Try.prog 47 #[v, .int .i64 n] w fun e w' => e = .returned (.tuple #[.int .i64 (nvR zs n.toNat).1, .bool (nvR zs n.toNat).2]) ∧ w = w' := by
  obtain ⟨hbd, _, hl⟩ := coefB_parts hc
  obtain ⟨a, cap, rfl, hm, hcc⟩ := own_form h
  have HC := Lib.hid hcc; have HB := Lib.hid hbd; clear hcc h hbd hc
  obtain ⟨N, rfl⟩ := Int.eq_ofNat_of_zero_le h0
  go_enter Try.func47, Try.ntmps47
  go_wp2_with fail
  go_loop [6, 7, 8, 9] (fun s c i _ => ∃ (j : Nat) (C S : Int), j ≤ zs.length ∧ i = .int .i64 j ∧ s = .int .i64 S ∧ c = .int .i64 C ∧ 0 ≤ C ∧ C ≤ 1000000000000000000 ∧ -1000000000000000 ≤ S ∧ S ≤ 1000000000000000 ∧ Hid (((ch N j : Int) ≤ 1000000000000000 → C = (ch N j : Int)) ∧ (1000000000000000 < (ch N j : Int) → 1000000000000000 < C)) ∧ Hid (nvs zs N j = some S)) (fun _ _ i _ => (100 - intOf i).toNat)
  case atStart => exact ⟨0, 1, 0, Nat.zero_le _, rfl, rfl, rfl, by omega, by omega, by omega, by omega, ⟨fun _ => by rw [ch_zero]; rfl, fun h => by rw [ch_zero] at h; omega⟩, rfl⟩
  case round =>
    obtain ⟨j, C, S, hj, rfl, rfl, rfl, c0, c1, s0, s1, hC, hS⟩ := hrel
    by_cases hlt : j < zs.length
    · obtain ⟨g, rfl, q⟩ := HC.out j hlt
      obtain ⟨z0, z1⟩ := nth_bd HB.out hlt
      have ia := iabs_bd (nth zs j)
      obtain ⟨ia1, ia2, ia3, -⟩ := ia
      have hT : Hid (∀ C2 : Int, (C2 = if (j : Int) < N then tms C ((N : Int) - j) (j + 1) else 0) → 0 ≤ C2 ∧ C2 ≤ 1000000000000000000 ∧ (((ch N (j + 1) : Int) ≤ 1000000000000000 → C2 = (ch N (j + 1) : Int)) ∧ (1000000000000000 < (ch N (j + 1) : Int) → 1000000000000000 < C2))) := by
        intro C2 e
        by_cases hjn : (j : Int) < N
        · rw [if_pos hjn] at e
          have b := tms_bd (b := (N : Int) - j) (o := (j : Int) + 1) c0 c1 (by omega) (by omega) (by omega)
          have t := tms_step (show j ≤ 8 by omega) hC.out.1 hC.out.2 (show j < N by omega)
          rw [e]; exact ⟨b.1, b.2, t⟩
        · rw [if_neg hjn] at e
          rw [e, ch_lt (show N < j + 1 by omega)]
          exact ⟨by omega, by omega, fun _ => rfl, fun h => by omega⟩
      by_cases zc : nth zs j = 0
      · have E := Lib.hid (nvs_skip hS.out s0 s1 (.inl zc))
        have b0 : (nth zs j != 0) = false := by simpa using zc
        have m0 : nth zs j * C = 0 := by rw [zc]; simp
        have M0 := Lib.hid m0
        have m1 : 0 ≤ nth zs j * C := by omega
        have m2 : nth zs j * C ≤ 0 := by omega
        have SE := Lib.hid (show S + nth zs j * C = S by omega)
        have far := Lib.hid (inB_true s0 s1)
        have ZN := Lib.hid zc
        clear zc m0
        by_cases hjn : (j : Int) < N
        · have T := Lib.hid (hT.out _ (if_pos hjn).symm)
          go_wp2_with (first | (go_at_call 66; refine (spec_l15In _ _).mono ?_; rintro e w' ⟨rfl, rfl⟩; rw [SE.out, far.out]) | (go_at_call 67; refine (spec_l15Times _ _ _ _ c0 c1 (by omega) (by omega) (by omega) (by omega)).mono ?_; rintro e w' ⟨rfl, rfl⟩))
          go_round
          case rel => exact ⟨j + 1, _, S, by omega, by go_num, by first | rfl | rw [SE.out], rfl, T.out.1, T.out.2.1, s0, s1, T.out.2.2, E.out⟩
          case measure => first | (simp [intOf]; done) | (simp [intOf]; omega)
        · have T := Lib.hid (hT.out 0 (if_neg hjn).symm)
          go_wp2_with (first | (go_at_call 66; refine (spec_l15In _ _).mono ?_; rintro e w' ⟨rfl, rfl⟩; rw [SE.out, far.out]))
          go_round
          case rel => exact ⟨j + 1, 0, S, by omega, by go_num, by first | rfl | rw [SE.out], rfl, T.out.1, T.out.2.1, s0, s1, T.out.2.2, E.out⟩
          case measure => first | (simp [intOf]; done) | (simp [intOf]; omega)
      have b0 : (nth zs j != 0) = true := by simpa using zc
      have ip : 0 < iabs (nth zs j) := by rcases (iabs_bd (nth zs j)).2.2.2 with h | h <;> omega
      by_cases big : 1000000000000000 / iabs (nth zs j) < C
      · have HR := Lib.hid (nvR_none (nv_big2 hS.out zc hC.out big) (show j + 1 ≤ zs.length by omega))
        have ZN := Lib.hid zc; clear zc
        go_wp2_with (first | (go_at_call 65; refine (spec_l04Size _ _ (by omega) (by omega)).mono ?_; rintro e w' ⟨rfl, rfl⟩))
        go_ret2
        exact ⟨ret_nv HR.out, rfl⟩
      · obtain ⟨m1, m2, m3⟩ := prod_abs zc c0 big
        have CE := Lib.hid (show C = (ch N j : Int) from by
          have e := hC.out
          by_cases hq : (ch N j : Int) ≤ 1000000000000000
          · exact e.1 hq
          · have := e.2 (by omega); omega)
        have E := Lib.hid (nvs_ok hS.out CE.out (.inr big))
        have ZN := Lib.hid zc; clear zc
        cases far : inB (S + nth zs j * C) (-1000000000000000) 1000000000000000
        · have HR := Lib.hid (nvR_none (show nvs zs N (j + 1) = none by rw [E.out, far]; rfl) (show j + 1 ≤ zs.length by omega))
          go_wp2_with (first | (go_at_call 65; refine (spec_l04Size _ _ (by omega) (by omega)).mono ?_; rintro e w' ⟨rfl, rfl⟩) | (go_at_call 66; refine (spec_l15In _ _).mono ?_; rintro e w' ⟨rfl, rfl⟩))
          go_ret2
          exact ⟨ret_nv HR.out, rfl⟩
        · have HS2 := Lib.hid (show nvs zs N (j + 1) = some (S + nth zs j * C) by rw [E.out, far]; rfl)
          have fb := Lib.hid (inB_iff.1 far)
          by_cases hjn : (j : Int) < N
          · have T := Lib.hid (hT.out _ (if_pos hjn).symm)
            go_wp2_with (first | (go_at_call 65; refine (spec_l04Size _ _ (by omega) (by omega)).mono ?_; rintro e w' ⟨rfl, rfl⟩) | (go_at_call 66; refine (spec_l15In _ _).mono ?_; rintro e w' ⟨rfl, rfl⟩) | (go_at_call 67; refine (spec_l15Times _ _ _ _ c0 c1 (by omega) (by omega) (by omega) (by omega)).mono ?_; rintro e w' ⟨rfl, rfl⟩))
            go_round
            case rel => exact ⟨j + 1, _, S + nth zs j * C, by omega, by go_num, rfl, rfl, T.out.1, T.out.2.1, fb.out.1, fb.out.2, T.out.2.2, HS2.out⟩
            case measure => first | (simp [intOf]; done) | (simp [intOf]; omega)
          · have T := Lib.hid (hT.out 0 (if_neg hjn).symm)
            go_wp2_with (first | (go_at_call 65; refine (spec_l04Size _ _ (by omega) (by omega)).mono ?_; rintro e w' ⟨rfl, rfl⟩) | (go_at_call 66; refine (spec_l15In _ _).mono ?_; rintro e w' ⟨rfl, rfl⟩))
            go_round
            case rel => exact ⟨j + 1, 0, S + nth zs j * C, by omega, by go_num, rfl, rfl, T.out.1, T.out.2.1, fb.out.1, fb.out.2, T.out.2.2, HS2.out⟩
            case measure => first | (simp [intOf]; done) | (simp [intOf]; omega)
    · obtain rfl : j = zs.length := by omega
      have HR := Lib.hid (nvR_some hS.out)
      go_wp2
      go_ret2
      exact ⟨ret_nv HR.out, rfl⟩
end Go.Proofs.Ytgmgdjdpmjmmhaa
