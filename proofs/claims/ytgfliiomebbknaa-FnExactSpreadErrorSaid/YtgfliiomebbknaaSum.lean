/- The bound of an error after some steps: both packages return the same capped sum. -/
import Derived.IntWalk
import Derived.Deep.DeepCutAuto
import Derived.Test.YtgfliiomebbknaaInts
import Derived.Test.YtgfliiomebbknaaChP
namespace Go.Proofs.Ytgfliiomebbknaa
open Go.ChangeShapes Go.WideShapes Go.ChangeAt Go.RowKit
set_option maxHeartbeats 400000 in
theorem spec_l17Choose (n k : Int) (w : World) (h0 : 0 ≤ n) (h1 : n ≤ 100000) (h2 : 0 ≤ k) (h3 : k ≤ 8) :
    Calls Try.prog 64 #[.int .i64 n, .int .i64 k] w fun e w' => e = .returned (.int .i64 (capM (ch n.toNat k.toNat))) ∧ w = w' := by
  by_cases hkn : n < k
  · have H := Lib.hid (show capM (ch n.toNat k.toNat) = 0 from by rw [ch_lt (by omega)]; rfl)
    go_enter Try.func64, Try.ntmps64
    go_wp2
    go_ret
    exact ⟨ret_int H.out.symm, rfl⟩
  · obtain ⟨m, hm⟩ : ∃ m : Nat, (m : Int) = n - k := ⟨(n - k).toNat, by omega⟩
    have HN := Lib.hid (show n.toNat = m + k.toNat from by omega)
    have HM := Lib.hid hm; clear hm
    go_enter Try.func64, Try.ntmps64
    go_wp2_with fail
    go_loop [5, 6] (fun o i => ∃ j : Nat, (j : Int) ≤ k ∧ i = .int .i64 (j + 1) ∧ o = .int .i64 (ch (m + j) j) ∧ (ch (m + j) j : Int) ≤ 1000000000000) (fun _ i => (100 - intOf i).toNat)
    case atStart => exact ⟨0, by omega, rfl, by rw [ch_zero]; rfl, by simp [ch_zero]⟩
    case round =>
      obtain ⟨j, hj, rfl, rfl, hb⟩ := hrel
      by_cases hlt : (j : Int) < k
      · have p := prod_bd (show (0 : Int) ≤ (ch (m + j) j : Int) by omega) hb (show 0 ≤ n - k + (↑j + 1) by omega) (show n - k + (↑j + 1) ≤ 100009 by omega)
        obtain ⟨p1, p2⟩ := p
        have E := Lib.hid (show (ch (m + j) j : Int) * (n - k + (↑j + 1)) / (↑j + 1) = (ch (m + (j + 1)) (j + 1) : Int) from by rw [← ch_diag_div, HM.out.symm]; simp [Int.add_assoc])
        by_cases hbig : (1000000000000 : Int) < (ch (m + j) j : Int) * (n - k + (↑j + 1)) / (↑j + 1)
        · have HR := Lib.hid (show capM (ch n.toNat k.toNat) = 1000000000001 from capM_big (by
            have a := ch_diag_le m (show j + 1 ≤ k.toNat by omega)
            rw [E.out] at hbig; rw [HN.out]; omega))
          go_wp2
          go_ret
          exact ⟨ret_int HR.out.symm, rfl⟩
        · go_wp2
          go_round
          case rel => exact ⟨j + 1, by omega, by go_num, by rw [E.out], by rw [← E.out]; omega⟩
          case measure => first | (simp [intOf]; done) | (simp [intOf]; omega)
      · have HR := Lib.hid (show capM (ch n.toNat k.toNat) = (ch (m + j) j : Int) from by rw [HN.out, show k.toNat = j from by omega]; exact capM_small hb)
        go_wp2
        go_ret
        exact ⟨ret_int HR.out.symm, rfl⟩
def isSl (s : Int) : Bool := inB s 0 1000000
def slipsOk (zs : List Int) : Bool := zs.all isSl && inB zs.length 1 9
theorem slip_bd {zs : List Int} (h : zs.all isSl = true) {j : Nat} (hj : j < zs.length) : 0 ≤ nth zs j ∧ nth zs j ≤ 1000000 := inB_iff.1 (all_get (p := isSl) h hj)
theorem slip_nonneg {zs : List Int} (h : zs.all isSl = true) : ∀ x ∈ zs, 0 ≤ x := fun x hx => (inB_iff.1 ((List.all_eq_true.1 h) x hx)).1
theorem sum_step {zs : List Int} {N j : Nat} {C : Int} (hs : zs.all isSl = true) (hj : j < zs.length) (h : nth zs j = 0 ∨ (0 < nth zs j ∧ nth zs j * C ≤ 1000000000000)) (hC : C = capM (ch N j)) :
    psum zs N (j + 1) = psum zs N j + nth zs j * C := by
  show psum zs N j + nth zs j * (ch N j : Int) = _
  rcases h with h | ⟨h1, h2⟩
  · rw [h]; simp
  · have e : C = (ch N j : Int) := by
      unfold capM at hC
      split at hC
      · exact hC
      · rw [hC] at h2; omega
    rw [e]
theorem sum_over {zs : List Int} {N j : Nat} (hs : zs.all isSl = true) (hj : j < zs.length) (h : 1000000000000 < psum zs N (j + 1)) : capM (psum zs N zs.length) = 1000000000001 :=
  capM_big (by have := psum_mono (n := N) (slip_nonneg hs) (show j + 1 ≤ zs.length by omega); omega)
theorem sum_early {zs : List Int} {N j : Nat} {C : Int} (hs : zs.all isSl = true) (hj : j < zs.length) (hz : 0 < nth zs j) (h : 1000000000000 / nth zs j < C) (hC : C = capM (ch N j)) :
    capM (psum zs N zs.length) = 1000000000001 := by
  refine sum_over hs hj ?_
  have a := psum_nonneg (n := N) (slip_nonneg hs) j
  have c : C ≤ (ch N j : Int) := by unfold capM at hC; split at hC <;> omega
  have b := mul_gt hz (show 1000000000000 / nth zs j < (ch N j : Int) by omega)
  show 1000000000000 < psum zs N j + nth zs j * (ch N j : Int)
  omega
set_option maxHeartbeats 4000000 in
theorem impl_sumBound {B : Nat} {v : Value} {zs : List Int} (n : Int) (w : World) (h : Own w B v zs) (h0 : 0 ≤ n) (h1 : n ≤ 100000) (hs : zs.all isSl = true) (hl : zs.length ≤ 9) :
    Calls Try.prog 63 #[v, .int .i64 n] w fun e w' => e = .returned (.int .i64 (capM (psum zs n.toNat zs.length))) ∧ w = w' := by
  obtain ⟨a, cap, rfl, hm, hc⟩ := own_form h
  have HC := Lib.hid hc; have HS := Lib.hid hs; clear hc h hs
  go_enter Try.func63, Try.ntmps63
  go_wp2_with fail
  go_loop [5, 6, 7, 8, 11] (fun s c _ _ i => ∃ (j : Nat) (C S : Int), j ≤ zs.length ∧ i = .int .i64 j ∧ s = .int .i64 S ∧ c = .int .i64 C ∧ 0 ≤ C ∧ C ≤ 1000000000001 ∧ 0 ≤ S ∧ S ≤ 1000000000000 ∧ Hid (C = capM (ch n.toNat (j - 1))) ∧ Hid (S = psum zs n.toNat j)) (fun _ _ _ _ i => (100 - intOf i).toNat)
  case atStart => exact ⟨0, 1, 0, Nat.zero_le _, rfl, rfl, rfl, by omega, by omega, by omega, by omega, by show (1 : Int) = capM (ch _ 0); rw [ch_zero]; rfl, rfl⟩
  case round =>
    obtain ⟨j, C, S, hj, rfl, rfl, rfl, c0, c1, s0, s1, hC, hS⟩ := hrel
    by_cases hlt : j < zs.length
    · obtain ⟨g, rfl, q⟩ := HC.out j hlt
      obtain ⟨z0, z1⟩ := slip_bd HS.out hlt
      obtain ⟨C', hC'⟩ : ∃ C', Hid (C' = capM (ch n.toNat j)) := ⟨_, rfl⟩
      have hC0 : 0 ≤ C' ∧ C' ≤ 1000000000001 := by rw [hC'.out]; exact capM_bd (by omega)
      obtain ⟨y0, y1⟩ := hC0
      have cases3 : (j = 0 ∧ C' = C) ∨ (∃ i : Nat, j = i + 1 ∧ C ≤ 1000000000000 ∧ Hid (C = (ch n.toNat i : Int))) ∨ (∃ i : Nat, j = i + 1 ∧ 1000000000000 < C ∧ C' = C) := by
        cases j with
        | zero => exact .inl ⟨rfl, by rw [hC.out, hC'.out]⟩
        | succ i =>
          by_cases cb : C ≤ 1000000000000
          · refine .inr (.inl ⟨i, rfl, cb, ?_⟩)
            have e : C = capM (ch n.toNat i) := hC.out
            show C = _
            unfold capM at e; split at e <;> omega
          · refine .inr (.inr ⟨i, rfl, by omega, ?_⟩)
            have e : C = capM (ch n.toNat i) := hC.out
            have e2 : 1000000000000 < ch n.toNat i := by unfold capM at e; split at e <;> omega
            have e3 := ch_big (show i ≤ 8 by omega) e2
            rw [hC'.out, capM_big (by omega)]; omega
      rcases cases3 with ⟨rfl, rfl⟩ | ⟨i, rfl, cb, hCi⟩ | ⟨i, rfl, cb, rfl⟩
      · go_upto_if 21 with (fail)
        go_cut [6] (fun s wx => s = .int .i64 C' ∧ wx = w)
        case first =>
          go_wp2
          go_meet
          exact ⟨rfl, rfl⟩
        case rest =>
          obtain ⟨rfl, rfl⟩ := hcut
          by_cases zp : 0 < nth zs 0
          · by_cases big : 1000000000000 / nth zs 0 < C'
            · have HR := Lib.hid (sum_early HS.out hlt zp big hC'.out)
              go_wp2
              go_ret
              exact ⟨ret_int HR.out.symm, rfl⟩
            · have ml := mul_le zp (show C' ≤ 1000000000000 / nth zs 0 by omega)
              have ml0 := Int.mul_nonneg z0 y0
              have E := Lib.hid (sum_step HS.out hlt (.inr ⟨zp, ml⟩) hC'.out)
              by_cases over : 1000000000000 < S + nth zs 0 * C'
              · have HR := Lib.hid (sum_over HS.out hlt (show 1000000000000 < psum zs n.toNat (0 + 1) by rw [E.out, ← hS.out]; exact over))
                go_wp2
                go_ret
                exact ⟨ret_int HR.out.symm, rfl⟩
              · go_wp2
                go_round
                case rel => exact ⟨0 + 1, C', S + nth zs 0 * C', by omega, by go_num, rfl, rfl, y0, y1, by omega, by omega, hC', by show _ = psum _ _ (0 + 1); rw [E.out, ← hS.out]⟩
                case measure => first | (simp [intOf]; done) | (simp [intOf]; omega)
          · have z9 : nth zs 0 = 0 := by omega
            have E := Lib.hid (sum_step HS.out hlt (.inl z9) hC'.out)
            have ml : nth zs 0 * C' = 0 := by rw [z9]; simp
            have ML := Lib.hid ml
            have ml1 : 0 ≤ nth zs 0 * C' := by omega
            have ml2 : nth zs 0 * C' ≤ 0 := by omega
            clear z9 ml
            go_wp2
            go_round
            case rel => exact ⟨0 + 1, C', S + nth zs 0 * C', by omega, by go_num, rfl, rfl, y0, y1, by omega, by omega, hC', by show _ = psum _ _ (0 + 1); rw [E.out, ← hS.out]⟩
            case measure => first | (simp [intOf]; done) | (simp [intOf]; omega)
      · go_upto_if 21 with (fail)
        go_cut [6] (fun s wx => s = .int .i64 C' ∧ wx = w)
        case first =>
          by_cases hin : (i : Int) ≤ n
          · have p := prod_bd c0 cb (show 0 ≤ n - (↑i + 1) + 1 by omega) (show n - (↑i + 1) + 1 ≤ 100009 by omega)
            obtain ⟨p1, p2⟩ := p
            have E := Lib.hid (show C * (n - (↑i + 1) + 1) / (↑i + 1) = (ch n.toNat (i + 1) : Int) from by
              rw [hCi.out]; have e := ch_step_div (N := n.toNat) (i := i) (by omega); rwa [show ((n.toNat : Nat) : Int) = n by omega] at e)
            by_cases hcap : C * (n - (↑i + 1) + 1) / (↑i + 1) ≤ 1000000000001
            all_goals
              go_wp2
              go_meet
              exact ⟨congrArg (Value.int .i64) (by rw [hC'.out]; unfold capM; have := E.out; split <;> omega), rfl⟩
          · have Z := Lib.hid (show C' = 0 from by rw [hC'.out, ch_lt (by omega)]; rfl)
            go_wp2
            go_meet
            exact ⟨congrArg (Value.int .i64) (by rw [Z.out]), rfl⟩
        case rest =>
          obtain ⟨rfl, rfl⟩ := hcut
          by_cases zp : 0 < nth zs (i + 1)
          · by_cases big : 1000000000000 / nth zs (i + 1) < C'
            · have HR := Lib.hid (sum_early HS.out hlt zp big hC'.out)
              go_wp2
              go_ret
              exact ⟨ret_int HR.out.symm, rfl⟩
            · have ml := mul_le zp (show C' ≤ 1000000000000 / nth zs (i + 1) by omega)
              have ml0 := Int.mul_nonneg z0 y0
              have E := Lib.hid (sum_step HS.out hlt (.inr ⟨zp, ml⟩) hC'.out)
              by_cases over : 1000000000000 < S + nth zs (i + 1) * C'
              · have HR := Lib.hid (sum_over HS.out hlt (show 1000000000000 < psum zs n.toNat ((i + 1) + 1) by rw [E.out, ← hS.out]; exact over))
                go_wp2
                go_ret
                exact ⟨ret_int HR.out.symm, rfl⟩
              · go_wp2
                go_round
                case rel => exact ⟨(i + 1) + 1, C', S + nth zs (i + 1) * C', by omega, by go_num, rfl, rfl, y0, y1, by omega, by omega, hC', by show _ = psum _ _ ((i + 1) + 1); rw [E.out, ← hS.out]⟩
                case measure => first | (simp [intOf]; done) | (simp [intOf]; omega)
          · have z9 : nth zs (i + 1) = 0 := by omega
            have E := Lib.hid (sum_step HS.out hlt (.inl z9) hC'.out)
            have ml : nth zs (i + 1) * C' = 0 := by rw [z9]; simp
            have ML := Lib.hid ml
            have ml1 : 0 ≤ nth zs (i + 1) * C' := by omega
            have ml2 : nth zs (i + 1) * C' ≤ 0 := by omega
            clear z9 ml
            go_wp2
            go_round
            case rel => exact ⟨(i + 1) + 1, C', S + nth zs (i + 1) * C', by omega, by go_num, rfl, rfl, y0, y1, by omega, by omega, hC', by show _ = psum _ _ ((i + 1) + 1); rw [E.out, ← hS.out]⟩
            case measure => first | (simp [intOf]; done) | (simp [intOf]; omega)
      · go_upto_if 21 with (fail)
        go_cut [6] (fun s wx => s = .int .i64 C' ∧ wx = w)
        case first =>
          go_wp2
          go_meet
          exact ⟨rfl, rfl⟩
        case rest =>
          obtain ⟨rfl, rfl⟩ := hcut
          by_cases zp : 0 < nth zs (i + 1)
          · by_cases big : 1000000000000 / nth zs (i + 1) < C'
            · have HR := Lib.hid (sum_early HS.out hlt zp big hC'.out)
              go_wp2
              go_ret
              exact ⟨ret_int HR.out.symm, rfl⟩
            · have ml := mul_le zp (show C' ≤ 1000000000000 / nth zs (i + 1) by omega)
              have ml0 := Int.mul_nonneg z0 y0
              have E := Lib.hid (sum_step HS.out hlt (.inr ⟨zp, ml⟩) hC'.out)
              by_cases over : 1000000000000 < S + nth zs (i + 1) * C'
              · have HR := Lib.hid (sum_over HS.out hlt (show 1000000000000 < psum zs n.toNat ((i + 1) + 1) by rw [E.out, ← hS.out]; exact over))
                go_wp2
                go_ret
                exact ⟨ret_int HR.out.symm, rfl⟩
              · go_wp2
                go_round
                case rel => exact ⟨(i + 1) + 1, C', S + nth zs (i + 1) * C', by omega, by go_num, rfl, rfl, y0, y1, by omega, by omega, hC', by show _ = psum _ _ ((i + 1) + 1); rw [E.out, ← hS.out]⟩
                case measure => first | (simp [intOf]; done) | (simp [intOf]; omega)
          · have z9 : nth zs (i + 1) = 0 := by omega
            have E := Lib.hid (sum_step HS.out hlt (.inl z9) hC'.out)
            have ml : nth zs (i + 1) * C' = 0 := by rw [z9]; simp
            have ML := Lib.hid ml
            have ml1 : 0 ≤ nth zs (i + 1) * C' := by omega
            have ml2 : nth zs (i + 1) * C' ≤ 0 := by omega
            clear z9 ml
            go_wp2
            go_round
            case rel => exact ⟨(i + 1) + 1, C', S + nth zs (i + 1) * C', by omega, by go_num, rfl, rfl, y0, y1, by omega, by omega, hC', by show _ = psum _ _ ((i + 1) + 1); rw [E.out, ← hS.out]⟩
            case measure => first | (simp [intOf]; done) | (simp [intOf]; omega)
    · have HR := Lib.hid (show capM (psum zs n.toNat zs.length) = S from by rw [hS.out, show j = zs.length from by omega]; exact capM_small (by rw [← show j = zs.length from by omega, ← hS.out]; omega))
      go_wp2
      go_ret
      exact ⟨ret_int HR.out.symm, rfl⟩
theorem l17_mul {z C D : Int} (hD : D = imin C (1000000000000 / z + 1)) (zp : 0 < z) (z1 : z ≤ 1000000) : z * D ≤ 2000000000000000 := by
  have a := imin_le C (1000000000000 / z + 1)
  rw [← hD] at a
  have b := Int.mul_le_mul_of_nonneg_left a.2.1 (show 0 ≤ z by omega)
  have c := Int.mul_ediv_add_emod 1000000000000 z
  have d := Int.emod_nonneg 1000000000000 (show z ≠ 0 by omega)
  rw [Int.mul_add] at b
  omega
theorem l17_zero {zs : List Int} {N j : Nat} {S : Int} (hs : zs.all isSl = true) (hj : j < zs.length) (hz : nth zs j = 0) (hS : S = capM (psum zs N j)) : S = capM (psum zs N (j + 1)) := by
  rw [hS]; show _ = capM (psum zs N j + nth zs j * (ch N j : Int)); rw [hz]; simp
theorem l17_fin {zs : List Int} {N j : Nat} {S C D : Int} (hs : zs.all isSl = true) (hj : j < zs.length) (hz : 0 < nth zs j) (hC : C = capM (ch N j)) (hD : D = imin C (1000000000000 / nth zs j + 1)) (hS : S = capM (psum zs N j)) :
    imin 1000000000001 (S + nth zs j * D) = capM (psum zs N (j + 1)) := by
  have a := psum_nonneg (n := N) (slip_nonneg hs) j
  have s0 : 0 ≤ S := by rw [hS]; exact (capM_bd a).1
  by_cases big : 1000000000000 / nth zs j < C
  · have e : D = 1000000000000 / nth zs j + 1 := by rw [hD]; unfold imin; split <;> omega
    have g := mul_gt hz (show 1000000000000 / nth zs j < D by omega)
    have c : C ≤ (ch N j : Int) := by unfold capM at hC; split at hC <;> omega
    have b := mul_gt hz (show 1000000000000 / nth zs j < (ch N j : Int) by omega)
    have t : 1000000000000 < psum zs N (j + 1) := by show 1000000000000 < psum zs N j + nth zs j * (ch N j : Int); omega
    rw [capM_big t, imin_pos (by omega)]
  · have e : D = C := by rw [hD]; unfold imin; split <;> omega
    have ml := mul_le hz (show C ≤ 1000000000000 / nth zs j by omega)
    have E := sum_step hs hj (.inr ⟨hz, ml⟩) hC
    have m0 : 0 ≤ nth zs j * C := Int.mul_nonneg (by omega) (by rw [hC]; exact (capM_bd (by omega)).1)
    rw [E, e]
    generalize nth zs j * C = T at *
    unfold capM imin at *
    split <;> split <;> split at hS <;> omega
set_option maxHeartbeats 1000000 in
theorem spec_l17Sum {B : Nat} {v : Value} {zs : List Int} (n : Int) (w : World) (h : Own w B v zs) (h0 : 0 ≤ n) (h1 : n ≤ 100000) (hs : zs.all isSl = true) (hl : zs.length ≤ 9) :
    Calls Try.prog 60 #[v, .int .i64 n] w (RetV w (.int .i64 (capM (psum zs n.toNat zs.length)))) := by
  obtain ⟨a, cap, rfl, hm, hc⟩ := own_form h
  have HC := Lib.hid hc; have HS := Lib.hid hs; clear hc h hs
  go_enter Try.func60, Try.ntmps60
  go_wp2_with fail
  go_loopw [5, 6] (fun s i wr => ∃ (j : Nat) (S : Int), j ≤ zs.length ∧ i = .int .i64 j ∧ s = .int .i64 S ∧ 0 ≤ S ∧ S ≤ 1000000000001 ∧ Hid (S = capM (psum zs n.toNat j)) ∧ ∃ nn, wr = w.drewN nn) (fun _ i _ => (100 - intOf i).toNat)
  case atStart => exact ⟨0, 0, Nat.zero_le _, rfl, rfl, by omega, by omega, rfl, 0, rfl⟩
  case round =>
    obtain ⟨j, S, hj, rfl, rfl, s0, s1, hS, nn, rfl⟩ := hrel
    by_cases hlt : j < zs.length
    · obtain ⟨g, rfl, q⟩ := HC.out j hlt
      obtain ⟨z0, z1⟩ := slip_bd HS.out hlt
      by_cases zp : 0 < nth zs j
      · obtain ⟨C, hC⟩ : ∃ C, Hid (C = capM (ch n.toNat (j : Int).toNat)) := ⟨_, rfl⟩
        have hC0 : 0 ≤ C ∧ C ≤ 1000000000001 := by rw [hC.out]; exact capM_bd (by omega)
        obtain ⟨y0, y1⟩ := hC0
        have q0 : 0 ≤ 1000000000000 / nth zs j := Int.ediv_nonneg (by omega) (by omega)
        have q1 : 1000000000000 / nth zs j ≤ 1000000000000 := Int.ediv_le_self _ (by omega)
        obtain ⟨D, hD⟩ : ∃ D, Hid (D = imin C (1000000000000 / nth zs j + 1)) := ⟨_, rfl⟩
        have dd := imin_le C (1000000000000 / nth zs j + 1)
        rw [← hD.out] at dd
        have d0 : 0 ≤ D := by omega
        have d1 : D ≤ 1000000000001 := by omega
        clear dd
        have m0 := Int.mul_nonneg z0 d0
        have m1 : nth zs j * D ≤ 2000000000000000 := l17_mul hD.out zp z1
        have F := Lib.hid (l17_fin HS.out hlt zp hC.out hD.out hS.out)
        have w1 : IntKind.i64.wrap (1000000000000 / nth zs j + 1) = 1000000000000 / nth zs j + 1 := IntWalk.i64_in _ (by omega)
        have w2 : IntKind.i64.wrap (nth zs j * D) = nth zs j * D := IntWalk.i64_in _ (by omega)
        have w3 : IntKind.i64.wrap (S + nth zs j * D) = S + nth zs j * D := IntWalk.i64_in _ (by omega)
        have k1 := Lib.hid (show (0 : Int) ≤ (j : Int) ∧ (j : Int) ≤ 8 from by omega)
        have t1 : (1000000000000 : Int).tdiv (nth zs j) = 1000000000000 / nth zs j := Int.tdiv_eq_ediv_of_nonneg (by omega)
        have K1 := Lib.hid (fun wx => show Calls Try.prog 64 #[.int .i64 n, .int .i64 j] wx fun e w' => e = .returned (.int .i64 C) ∧ wx = w' from by rw [hC.out]; exact spec_l17Choose n j wx h0 h1 (by omega) (by omega))
        have K2 := Lib.hid (fun wx => show Calls Try.prog 74 #[.int .i64 C, .int .i64 (1000000000000 / nth zs j + 1)] wx fun e w' => e = .returned (.int .i64 D) ∧ wx = w' from by rw [hD.out]; exact spec_l00Min _ _ wx)
        go_wp2
        go_quiet ((first | (go_at_call 64; exact quiet_same2 (K1.out _)) | (go_at_call 74; exact quiet_same2 (K2.out _)) | (go_at_call 74; exact quiet_same2 (spec_l00Min _ _ _))))
        clear t1 w1 w2 w3
        go_wp2
        rw [F.out]
        have b9 := capM_bd (psum_nonneg (n := n.toNat) (slip_nonneg HS.out) (j + 1))
        go_roundw
        case rel => exact ⟨j + 1, _, by omega, by go_num, rfl, b9.1, b9.2, rfl, _, rfl⟩
        case measure => first | (simp [intOf]; done) | (simp [intOf]; omega)
      · have F := Lib.hid (l17_zero HS.out hlt (show nth zs j = 0 by omega) hS.out)
        go_wp2
        go_roundw
        case rel => exact ⟨j + 1, S, by omega, by go_num, rfl, s0, s1, F.out, _, rfl⟩
        case measure => first | (simp [intOf]; done) | (simp [intOf]; omega)
    · obtain rfl : j = zs.length := by omega
      go_wp2
      go_ret
      exact ⟨ret_int hS.out, below_drewN _ _⟩
end Go.Proofs.Ytgfliiomebbknaa
