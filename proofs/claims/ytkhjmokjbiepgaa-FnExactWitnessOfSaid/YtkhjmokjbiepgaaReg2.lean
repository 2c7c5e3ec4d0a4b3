/- Valid registers and ClearTurns: contracts of both packages. -/
import Derived.IntWalk
import Derived.Deep.RegionLaw
import Derived.Deep.QuietTactic
import Derived.BigQuiet
import Derived.Test.YtkhjmokjbiepgaaReg
namespace Go.Proofs.Ytkhjmokjbiepgaa
open Go.ChangeShapes Go.WideShapes Go.ChangeAt Go.RowKit
set_option maxHeartbeats 2000000 in
theorem spec_l02Value {B : Nat} {v : Value} {xs : List Int} (b : Int) (w : World) (h : Own w B v xs) (hb : 2 ≤ b) (hb2 : b ≤ 16) (hd : ∀ d ∈ xs, 0 ≤ d ∧ d ≤ 15) (hl : xs.length ≤ 16) :
    Calls Try.prog 84 #[.int .i64 b, v] w fun e w' => e = .returned (.int .i64 (valC b xs)) ∧ w = w' := by
  obtain ⟨a1, c1, rfl, m1, q1⟩ := own_form h
  have QQ := Lib.hid q1; have HD := Lib.hid hd; clear q1 h hd
  go_enter Try.func84, Try.ntmps84
  go_wp2_with fail
  go_loop [5, 6] (fun vv ii => ∃ j : Nat, j ≤ xs.length ∧ ii = .int .i64 ((j : Int) - 1) ∧ vv = .int .i64 (valC b (xs.drop j))) (fun _ ii => (intOf ii + 1).toNat)
  case atStart => exact ⟨xs.length, Nat.le_refl _, rfl, by rw [List.drop_length]; rfl⟩
  case round =>
    obtain ⟨j, hj, rfl, rfl⟩ := hrel
    have bd := valC_bd hb (xs.drop j) (drop_bd HD.out j)
    by_cases h0 : j = 0
    · subst h0
      have HR := Lib.hid (show valC b (xs.drop 0) = valC b xs from by rw [List.drop_zero])
      generalize valC b (xs.drop 0) = V at *
      go_wp2_with fail
      go_ret
      exact ⟨ret_int (by first | rfl | exact HR.out | exact HR.out.symm), rfl⟩
    · obtain ⟨i, hi⟩ : ∃ i, j = i + 1 := ⟨j - 1, by omega⟩
      have hlt : i < xs.length := by omega
      obtain ⟨g, rfl, q⟩ := QQ.out i hlt
      have hst := valC_step b hlt
      rw [← hi] at hst
      have dd := HD.out _ (nth_mem hlt)
      have pm := Int.mul_nonneg bd.1 (show 0 ≤ b by omega)
      have pm2 := Int.mul_le_mul_of_nonneg_left hb2 bd.1
      generalize valC b (xs.drop j) = V at *
      obtain ⟨V', hV'⟩ : ∃ V', V' = valC b (xs.drop i) := ⟨_, rfl⟩
      rw [← hV'] at hst
      have HV' := Lib.hid hV'; clear hV'
      generalize nth xs i = d at *
      obtain ⟨P, eP⟩ : ∃ P, V * b = P := ⟨_, rfl⟩
      rw [eP] at hst pm pm2
      have HST := Lib.hid (show imin 1000000000001 (P + d) = V' from hst.symm); clear hst
      have e1 : (j : Int) - 1 = (i : Int) := by omega
      have wP : IntKind.i64.wrap P = P := IntWalk.i64_in _ (by omega)
      have wA : IntKind.i64.wrap (P + d) = P + d := IntWalk.i64_in _ (by omega)
      clear hi
      rw [e1] at *
      go_wp2_with fail
      refine (spec_l00Min _ _ _).mono ?_; rintro e w' ⟨rfl, rfl⟩; rw [HST.out]
      go_wp2_with fail
      go_round
      case rel => exact ⟨i, by omega, by first | rfl | go_num, by rw [HV'.out]⟩
      case measure => first | (simp [intOf]; done) | (simp [intOf]; omega)
set_option maxHeartbeats 2000000 in
theorem spec_l02Digits {B : Nat} {v : Value} {xs : List Int} (b : Int) (w : World) (h : Own w B v xs) (hb : 2 ≤ b) (hb2 : b ≤ 16) (hl : xs.length ≤ 1048576) :
    Calls Try.prog 83 #[.int .i64 b, v] w fun e w' => e = .returned (.bool (xs.all (isD b) && inB xs.length 1 16)) ∧ w = w' := by
  obtain ⟨a1, c1, rfl, m1, q1⟩ := own_form h
  have QQ := Lib.hid q1; clear q1 h
  go_enter Try.func83, Try.ntmps83
  go_wp2_with fail
  go_loop [5] (fun ii => ∃ j : Nat, j ≤ xs.length ∧ ii = .int .i64 j ∧ Hid ((xs.take j).all (isD b) = true)) (fun ii => xs.length - (intOf ii).toNat)
  case atStart => exact ⟨0, Nat.zero_le _, rfl, Lib.hid rfl⟩
  case round =>
    obtain ⟨j, hj, rfl, hall⟩ := hrel
    by_cases hlt : j < xs.length
    · obtain ⟨g, rfl, q⟩ := QQ.out j hlt
      cases hp : inB (nth xs j) 0 (b - 1)
      · have HR := Lib.hid (show (xs.all (isD b) && inB xs.length 1 16) = false from by rw [all_fail (p := isD b) hlt hp]; rfl)
        have HP := Lib.hid hp; clear hp hall
        go_wp2_with fail
        refine (spec_l00In _ _ _ _).mono ?_; rintro e w' ⟨rfl, rfl⟩; rw [HP.out]
        go_wp2_with fail
        go_ret
        exact ⟨ret_b HR.out.symm, rfl⟩
      · have HA := Lib.hid (all_step (p := isD b) hlt hall.out hp)
        have HP := Lib.hid hp; clear hp hall
        go_wp2_with fail
        refine (spec_l00In _ _ _ _).mono ?_; rintro e w' ⟨rfl, rfl⟩; rw [HP.out]
        go_wp2_with fail
        go_round
        case rel => exact ⟨j + 1, by omega, by go_num, HA.out⟩
        case measure => first | (simp [intOf]; done) | (simp [intOf]; omega)
    · have HR := Lib.hid (show (xs.all (isD b) && inB xs.length 1 16) = inB xs.length 1 16 from by rw [all_done (p := isD b) hlt hall.out]; rfl)
      clear hall
      go_wp2_with fail
      refine (spec_l00In _ _ _ _).mono ?_; rintro e w' ⟨rfl, rfl⟩
      go_wp2_with fail
      go_ret
      exact ⟨ret_b HR.out.symm, rfl⟩
theorem spec_l02Base' (b : Int) (w : World) : Calls Try.prog 50 #[.int .i64 b] w fun e w' => e = .returned (.bool (inB b 2 16)) ∧ w = w' := spec_l02Base b w
set_option maxHeartbeats 4000000 in
theorem spec_l02Ok {B : Nat} {v : Value} {xs : List Int} (b : Int) (g0 : Nat) (w : World) (h : Own w B v xs) (hc0 : w.cell? ⟨g0, 0, none⟩ = some (.int .i64 b)) (hc1 : w.cell? ⟨g0, 1, none⟩ = some v) (hlen : xs.length ≤ 1048576) :
    Calls Try.prog 54 #[.pointer (some ⟨g0, 0, none⟩)] w fun e w' => e = .returned (.bool (validR b xs)) ∧ ∃ k, w' = w.drewN k := by
  have HO := Lib.hid h
  obtain ⟨a1, c1, rfl, m1, -⟩ := own_form h
  clear h
  have K1 := Lib.hid (fun wx => spec_l02Base b wx)
  cases hb : inB b 2 16
  · have HR := Lib.hid (show validR b xs = false from by simp [validR, hb])
    rw [hb] at K1
    clear hb
    go_enter Try.func54, Try.ntmps54
    go_wp2_with fail
    go_quiet ((first | (go_at_call 50; exact quiet_same (K1.out _))))
    go_wp2_with fail
    go_ret
    exact ⟨ret_b HR.out.symm, by first | exact ⟨_, rfl⟩ | exact drewN_ex _ _ _⟩
  obtain ⟨b0, b1⟩ := inB_iff.1 hb
  have K2 := Lib.hid (fun n => spec_l02Digits b (w.drewN n) (own_drewN HO.out n) b0 b1 hlen)
  cases hdg : (xs.all (isD b) && inB xs.length 1 16)
  · have HR := Lib.hid (show validR b xs = false from by
      unfold validR
      rw [Bool.and_eq_false_iff] at hdg
      rcases hdg with h | h <;> simp [h])
    rw [hb] at K1; rw [hdg] at K2
    clear hb hdg
    go_enter Try.func54, Try.ntmps54
    go_wp2_with fail
    go_quiet ((first | (go_at_call 50; exact quiet_same (K1.out _)) | (go_at_call 83; exact quiet_same (K2.out _))))
    go_wp2_with fail
    go_ret
    exact ⟨ret_b HR.out.symm, by first | exact ⟨_, rfl⟩ | exact drewN_ex _ _ _⟩
  have hdg' := hdg
  rw [Bool.and_eq_true] at hdg'
  have hl16 := inB_iff.1 hdg'.2
  have K3 := Lib.hid (fun n => spec_l02Value b (w.drewN n) (own_drewN HO.out n) b0 b1 (isD_bd b1 hdg'.1) (by omega))
  have HR := Lib.hid (show validR b xs = decide (valC b xs ≤ 1000000000000) from by unfold validR; rw [hb, hdg'.1, hdg'.2]; rfl)
  rw [hb] at K1; rw [hdg] at K2
  clear hb hdg hdg'
  generalize valC b xs = V at *
  by_cases hv : V ≤ 1000000000000
  · have HR2 := Lib.hid (show validR b xs = true from by rw [HR.out]; simpa using hv)
    go_enter Try.func54, Try.ntmps54
    go_wp2_with fail
    go_quiet ((first | (go_at_call 50; exact quiet_same (K1.out _)) | (go_at_call 83; exact quiet_same (K2.out _)) | (go_at_call 84; exact quiet_same (K3.out _))))
    go_wp2_with fail
    go_ret
    exact ⟨ret_b HR2.out.symm, by first | exact ⟨_, rfl⟩ | exact drewN_ex _ _ _⟩
  · have HR2 := Lib.hid (show validR b xs = false from by rw [HR.out]; simpa using hv)
    go_enter Try.func54, Try.ntmps54
    go_wp2_with fail
    go_quiet ((first | (go_at_call 50; exact quiet_same (K1.out _)) | (go_at_call 83; exact quiet_same (K2.out _)) | (go_at_call 84; exact quiet_same (K3.out _))))
    go_wp2_with fail
    go_ret
    exact ⟨by first | exact ret_b HR2.out.symm | exact ret_b HR.out.symm, by first | exact ⟨_, rfl⟩ | exact drewN_ex _ _ _⟩
set_option maxHeartbeats 4000000 in
theorem impl_ValidRegister {B : Nat} {v : Value} {xs : List Int} (b : Int) (w : World) (h : Own w B v xs) (hlen : xs.length ≤ 1048576) :
    Calls Try.prog 61 #[.agg #[.int .i64 b, v]] w (RetV w (.bool (validR b xs))) := by
  have HO := Lib.hid h
  obtain ⟨a1, c1, rfl, m1, q1⟩ := own_form h
  have QQ := Lib.hid q1; clear q1 h
  cases hb : inB b 2 16
  · have HB := Lib.hid hb
    have HR := Lib.hid (show validR b xs = false from by simp [validR, hb])
    clear hb
    go_enter Try.func61, Try.ntmps61
    go_wp2_with fail
    refine (impl_isBase _ _).mono ?_; rintro e w' ⟨rfl, rfl⟩; rw [HB.out]
    go_wp2_with fail
    go_ret
    exact ⟨ret_b HR.out.symm, below_al _ _⟩
  have HB := Lib.hid hb
  obtain ⟨b0, b1⟩ := inB_iff.1 hb
  cases hl : inB xs.length 1 16
  · have HL := Lib.hid hl
    have HR := Lib.hid (show validR b xs = false from by simp [validR, hl])
    clear hb hl
    go_enter Try.func61, Try.ntmps61
    go_wp2_with fail
    refine (impl_isBase _ _).mono ?_; rintro e w' ⟨rfl, rfl⟩; rw [HB.out]
    go_wp2_with fail
    refine (impl_isRegisterWidth _ _).mono ?_; rintro e w' ⟨rfl, rfl⟩; rw [HL.out]
    go_wp2_with fail
    go_ret
    exact ⟨ret_b HR.out.symm, below_al _ _⟩
  have HL := Lib.hid hl
  have hl16 := inB_iff.1 hl
  have HVR := Lib.hid (show validR b xs = (xs.all (isD b) && decide (valC b xs ≤ 1000000000000)) from by unfold validR; rw [hb, hl]; rfl)
  clear hb hl
  go_enter Try.func61, Try.ntmps61
  go_wp2_with fail
  refine (impl_isBase _ _).mono ?_; rintro e w' ⟨rfl, rfl⟩; rw [HB.out]
  go_wp2_with fail
  refine (impl_isRegisterWidth _ _).mono ?_; rintro e w' ⟨rfl, rfl⟩; rw [HL.out]
  go_wp2_with fail
  go_loop [4, 19] (fun _ ii => ∃ j : Nat, j ≤ xs.length ∧ ii = .int .i64 j ∧ Hid ((xs.take j).all (isD b) = true)) (fun _ ii => xs.length - (intOf ii).toNat)
  case atStart => exact ⟨0, Nat.zero_le _, rfl, Lib.hid rfl⟩
  case round =>
    obtain ⟨j, hj, rfl, hall⟩ := hrel
    by_cases hlt : j < xs.length
    · obtain ⟨g, rfl, q⟩ := QQ.out j hlt
      have gl := World.block_lt_of_cell? w _ q
      cases hp : inB (nth xs j) 0 (b - 1)
      · have HR := Lib.hid (show validR b xs = false from by rw [HVR.out, all_fail (p := isD b) hlt hp]; rfl)
        have HP := Lib.hid hp; clear hp hall
        go_wp2_with fail
        refine (impl_between _ _ _ _).mono ?_; rintro e w' ⟨rfl, rfl⟩; rw [HP.out]
        go_wp2_with fail
        go_ret
        exact ⟨ret_b HR.out.symm, below_al _ _⟩
      · have HA := Lib.hid (all_step (p := isD b) hlt hall.out hp)
        have HP := Lib.hid hp; clear hp hall
        go_wp2_with fail
        refine (impl_between _ _ _ _).mono ?_; rintro e w' ⟨rfl, rfl⟩; rw [HP.out]
        go_wp2_with fail
        go_round
        case rel => exact ⟨j + 1, by omega, by go_num, HA.out⟩
        case measure => first | (simp [intOf]; done) | (simp [intOf]; omega)
    · have hA := all_done (p := isD b) hlt hall.out
      have HR := Lib.hid (show validR b xs = decide (valC b xs ≤ 1000000000000) from by rw [HVR.out, hA]; rfl)
      have HDD := Lib.hid (isD_bd b1 hA)
      clear hall hA
      go_wp2_with fail
      refine (impl_value b _ (own_alloc HO.out _) b0 b1 HDD.out (by omega)).mono ?_; rintro e w1 ⟨rfl, b1'⟩
      have BW := Lib.hid (blk1 b1').2.1; clear b1'
      generalize valC b xs = V at *
      go_wp2_with fail
      go_ret
      exact ⟨ret_b HR.out.symm, BW.out⟩
def clrD (b d : Int) : Int := (b - d) % b
def clC (b : Int) (xs : List Int) : Int := if validR b xs then 0 else 1
def clL (b : Int) (xs : List Int) : List Int := if validR b xs then xs.map (clrD b) else []
theorem validR_parts {b : Int} {xs : List Int} (h : validR b xs = true) : 2 ≤ b ∧ b ≤ 16 ∧ 1 ≤ xs.length ∧ xs.length ≤ 16 ∧ ∀ k, k < xs.length → 0 ≤ nth xs k ∧ nth xs k ≤ b - 1 := by
  unfold validR at h
  simp only [Bool.and_eq_true] at h
  have a := inB_iff.1 h.1; have c := inB_iff.1 h.2.1
  refine ⟨a.1, a.2, by omega, by omega, fun k hk => inB_iff.1 (all_get h.2.2.1 hk)⟩
theorem take_map_step {f : Int → Int} {zs : List Int} {j : Nat} (hj : j < zs.length) : (zs.take (j + 1)).map f = (zs.take j).map f ++ [f (nth zs j)] := by
  rw [List.take_succ_eq_append_getElem hj, List.map_append]
  simp [nth, List.getD, hj]
theorem laws_markRegister {B : Nat} {v : Value} {zs : List Int} (b : Int) (w : World) (k : Int) (h1 : Own w B v zs) (h0 : 0 ≤ k) (hk : k ≤ 1000000000) (hl : zs.length ≤ 1000000000) :
    Calls Try.prog 25 #[.agg #[.int .i64 b, v], .int .i64 k] w fun e w' => e = .returned (.int .i64 (k + zs.length)) ∧ ∃ o, (w.alloc o).grownBy w' v.ownBlock := by
  have H1 := Lib.hid h1
  obtain ⟨a1, c1, rfl, -, -⟩ := own_form h1
  clear h1
  go_enter Try.func25, Try.ntmps25
  go_wp2_with fail
  refine (laws_markInt64S _ k (own_alloc H1.out _) h0 hk hl).mono ?_; rintro e w1 ⟨rfl, o1, g1⟩
  have G1 := Lib.hid g1; clear o1 g1
  go_wp2_with fail
  go_ret
  exact ⟨rfl, _, G1.out⟩
theorem clL_len (b : Int) (xs : List Int) : (clL b xs).length ≤ 16 := by
  unfold clL
  split
  · rename_i h
    have := validR_parts h
    rw [List.length_map]; omega
  · simp
end Go.Proofs.Ytkhjmokjbiepgaa
