/- Valid registers and ClearTurns: contracts of both packages. -/
import Derived.IntWalk
import Derived.Deep.RegionLaw
import Derived.Deep.QuietTactic
import Derived.BigQuiet
import Derived.Test.YtcooabjcikcpiaaReg
namespace Go.Proofs.Ytcooabjcikcpiaa
open Go.ChangeShapes Go.WideShapes Go.ChangeAt Go.RowKit
set_option maxHeartbeats 2000000 in
theorem spec_l02Value {B : Nat} {v : Value} {xs : List Int} (b : Int) (w : World) (h : Own w B v xs) (hb : 2 ≤ b) (hb2 : b ≤ 16) (hd : ∀ d ∈ xs, 0 ≤ d ∧ d ≤ 15) (hl : xs.length ≤ 16) :
    Calls Try.prog 74 #[.int .i64 b, v] w fun e w' => e = .returned (.int .i64 (valC b xs)) ∧ w = w' := by
  obtain ⟨a1, c1, rfl, m1, q1⟩ := own_form h
  have QQ := Lib.hid q1; have HD := Lib.hid hd; clear q1 h hd
  go_enter Try.func74, Try.ntmps74
  go_wp2_with fail
  go_loop [5, 6] (fun vv ii => ∃ j : Nat, j ≤ xs.length ∧ ii = .int .i64 ((j : Int) - 1) ∧ vv = .int .i64 (valC b (xs.drop j))) (fun _ ii => (intOf ii + 1).toNat)
  case atStart => exact ⟨xs.length, Nat.le_refl _, rfl, by rw [List.drop_length]; rfl⟩
  case round =>
    obtain ⟨j, hj, rfl, rfl⟩ := hrel
    have bd := valC_bd hb (xs.drop j) (drop_bd HD.out j)
    by_cases h0 : j = 0
    · subst h0
      have HR := Lib.hid (show valC b (xs.drop 0) = valC b xs from by rw [List.drop_zero])
      generalize valC b (xs.drop 0) = V at *
      go_wp2_with fail
      go_ret
      exact ⟨ret_int (by first | rfl | exact HR.out | exact HR.out.symm), rfl⟩
    · obtain ⟨i, hi⟩ : ∃ i, j = i + 1 := ⟨j - 1, by omega⟩
      have hlt : i < xs.length := by omega
      obtain ⟨g, rfl, q⟩ := QQ.out i hlt
      have hst := valC_step b hlt
      rw [← hi] at hst
      have dd := HD.out _ (nth_mem hlt)
      have pm := Int.mul_nonneg bd.1 (show 0 ≤ b by omega)
      have pm2 := Int.mul_le_mul_of_nonneg_left hb2 bd.1
      generalize valC b (xs.drop j) = V at *
      obtain ⟨V', hV'⟩ : ∃ V', V' = valC b (xs.drop i) := ⟨_, rfl⟩
      rw [← hV'] at hst
      have HV' := Lib.hid hV'; clear hV'
      generalize nth xs i = d at *
      obtain ⟨P, eP⟩ : ∃ P, V * b = P := ⟨_, rfl⟩
      rw [eP] at hst pm pm2
      have HST := Lib.hid (show imin 1000000000001 (P + d) = V' from hst.symm); clear hst
      have e1 : (j : Int) - 1 = (i : Int) := by omega
      have wP : IntKind.i64.wrap P = P := IntWalk.i64_in _ (by omega)
      have wA : IntKind.i64.wrap (P + d) = P + d := IntWalk.i64_in _ (by omega)
      clear hi
      rw [e1] at *
      go_wp2_with fail
      refine (spec_l00Min _ _ _).mono ?_; rintro e w' ⟨rfl, rfl⟩; rw [HST.out]
      go_wp2_with fail
      go_round
      case rel => exact ⟨i, by omega, by first | rfl | go_num, by rw [HV'.out]⟩
      case measure => first | (simp [intOf]; done) | (simp [intOf]; omega)
set_option maxHeartbeats 2000000 in
theorem spec_l02Digits {B : Nat} {v : Value} {xs : List Int} (b : Int) (w : World) (h : Own w B v xs) (hb : 2 ≤ b) (hb2 : b ≤ 16) (hl : xs.length ≤ 1048576) :
    Calls Try.prog 73 #[.int .i64 b, v] w fun e w' => e = .returned (.bool (xs.all (isD b) && inB xs.length 1 16)) ∧ w = w' := by
  obtain ⟨a1, c1, rfl, m1, q1⟩ := own_form h
  have QQ := Lib.hid q1; clear q1 h
  go_enter Try.func73, Try.ntmps73
  go_wp2_with fail
  go_loop [5] (fun ii => ∃ j : Nat, j ≤ xs.length ∧ ii = .int .i64 j ∧ Hid ((xs.take j).all (isD b) = true)) (fun ii => xs.length - (intOf ii).toNat)
  case atStart => exact ⟨0, Nat.zero_le _, rfl, Lib.hid rfl⟩
  case round =>
    obtain ⟨j, hj, rfl, hall⟩ := hrel
    by_cases hlt : j < xs.length
    · obtain ⟨g, rfl, q⟩ := QQ.out j hlt
      cases hp : inB (nth xs j) 0 (b - 1)
      · have HR := Lib.hid (show (xs.all (isD b) && inB xs.length 1 16) = false from by rw [all_fail (p := isD b) hlt hp]; rfl)
        have HP := Lib.hid hp; clear hp hall
        go_wp2_with fail
        refine (spec_l00In _ _ _ _).mono ?_; rintro e w' ⟨rfl, rfl⟩; rw [HP.out]
        go_wp2_with fail
        go_ret
        exact ⟨ret_b HR.out.symm, rfl⟩
      · have HA := Lib.hid (all_step (p := isD b) hlt hall.out hp)
        have HP := Lib.hid hp; clear hp hall
        go_wp2_with fail
        refine (spec_l00In _ _ _ _).mono ?_; rintro e w' ⟨rfl, rfl⟩; rw [HP.out]
        go_wp2_with fail
        go_round
        case rel => exact ⟨j + 1, by omega, by go_num, HA.out⟩
        case measure => first | (simp [intOf]; done) | (simp [intOf]; omega)
    · have HR := Lib.hid (show (xs.all (isD b) && inB xs.length 1 16) = inB xs.length 1 16 from by rw [all_done (p := isD b) hlt hall.out]; rfl)
      clear hall
      go_wp2_with fail
      refine (spec_l00In _ _ _ _).mono ?_; rintro e w' ⟨rfl, rfl⟩
      go_wp2_with fail
      go_ret
      exact ⟨ret_b HR.out.symm, rfl⟩
theorem spec_l02Base' (b : Int) (w : World) : Calls Try.prog 55 #[.int .i64 b] w fun e w' => e = .returned (.bool (inB b 2 16)) ∧ w = w' := spec_l02Base b w
set_option maxHeartbeats 4000000 in
theorem spec_l02Ok {B : Nat} {v : Value} {xs : List Int} (b : Int) (g0 : Nat) (w : World) (h : Own w B v xs) (hc0 : w.cell? ⟨g0, 0, none⟩ = some (.int .i64 b)) (hc1 : w.cell? ⟨g0, 1, none⟩ = some v) (hlen : xs.length ≤ 1048576) :
    Calls Try.prog 46 #[.pointer (some ⟨g0, 0, none⟩)] w fun e w' => e = .returned (.bool (validR b xs)) ∧ ∃ k, w' = w.drewN k := by
  have HO := Lib.hid h
  obtain ⟨a1, c1, rfl, m1, -⟩ := own_form h
  clear h
  have K1 := Lib.hid (fun wx => spec_l02Base b wx)
  cases hb : inB b 2 16
  · have HR := Lib.hid (show validR b xs = false from by simp [validR, hb])
    rw [hb] at K1
    clear hb
    go_enter Try.func46, Try.ntmps46
    go_wp2_with fail
    go_quiet ((first | (go_at_call 55; exact quiet_same (K1.out _))))
    go_wp2_with fail
    go_ret
    exact ⟨ret_b HR.out.symm, by first | exact ⟨_, rfl⟩ | exact drewN_ex _ _ _⟩
  obtain ⟨b0, b1⟩ := inB_iff.1 hb
  have K2 := Lib.hid (fun n => spec_l02Digits b (w.drewN n) (own_drewN HO.out n) b0 b1 hlen)
  cases hdg : (xs.all (isD b) && inB xs.length 1 16)
  · have HR := Lib.hid (show validR b xs = false from by
      unfold validR
      rw [Bool.and_eq_false_iff] at hdg
      rcases hdg with h | h <;> simp [h])
    rw [hb] at K1; rw [hdg] at K2
    clear hb hdg
    go_enter Try.func46, Try.ntmps46
    go_wp2_with fail
    go_quiet ((first | (go_at_call 55; exact quiet_same (K1.out _)) | (go_at_call 73; exact quiet_same (K2.out _))))
    go_wp2_with fail
    go_ret
    exact ⟨ret_b HR.out.symm, by first | exact ⟨_, rfl⟩ | exact drewN_ex _ _ _⟩
  have hdg' := hdg
  rw [Bool.and_eq_true] at hdg'
  have hl16 := inB_iff.1 hdg'.2
  have K3 := Lib.hid (fun n => spec_l02Value b (w.drewN n) (own_drewN HO.out n) b0 b1 (isD_bd b1 hdg'.1) (by omega))
  have HR := Lib.hid (show validR b xs = decide (valC b xs ≤ 1000000000000) from by unfold validR; rw [hb, hdg'.1, hdg'.2]; rfl)
  rw [hb] at K1; rw [hdg] at K2
  clear hb hdg hdg'
  generalize valC b xs = V at *
  by_cases hv : V ≤ 1000000000000
  · have HR2 := Lib.hid (show validR b xs = true from by rw [HR.out]; simpa using hv)
    go_enter Try.func46, Try.ntmps46
    go_wp2_with fail
    go_quiet ((first | (go_at_call 55; exact quiet_same (K1.out _)) | (go_at_call 73; exact quiet_same (K2.out _)) | (go_at_call 74; exact quiet_same (K3.out _))))
    go_wp2_with fail
    go_ret
    exact ⟨ret_b HR2.out.symm, by first | exact ⟨_, rfl⟩ | exact drewN_ex _ _ _⟩
  · have HR2 := Lib.hid (show validR b xs = false from by rw [HR.out]; simpa using hv)
    go_enter Try.func46, Try.ntmps46
    go_wp2_with fail
    go_quiet ((first | (go_at_call 55; exact quiet_same (K1.out _)) | (go_at_call 73; exact quiet_same (K2.out _)) | (go_at_call 74; exact quiet_same (K3.out _))))
    go_wp2_with fail
    go_ret
    exact ⟨by first | exact ret_b HR2.out.symm | exact ret_b HR.out.symm, by first | exact ⟨_, rfl⟩ | exact drewN_ex _ _ _⟩
set_option maxHeartbeats 4000000 in
theorem impl_ValidRegister {B : Nat} {v : Value} {xs : List Int} (b : Int) (w : World) (h : Own w B v xs) (hlen : xs.length ≤ 1048576) :
    Calls Try.prog 48 #[.agg #[.int .i64 b, v]] w (RetV w (.bool (validR b xs))) := by
  have HO := Lib.hid h
  obtain ⟨a1, c1, rfl, m1, q1⟩ := own_form h
  have QQ := Lib.hid q1; clear q1 h
  cases hb : inB b 2 16
  · have HB := Lib.hid hb
    have HR := Lib.hid (show validR b xs = false from by simp [validR, hb])
    clear hb
    go_enter Try.func48, Try.ntmps48
    go_wp2_with fail
    refine (impl_isBase _ _).mono ?_; rintro e w' ⟨rfl, rfl⟩; rw [HB.out]
    go_wp2_with fail
    go_ret
    exact ⟨ret_b HR.out.symm, below_al _ _⟩
  have HB := Lib.hid hb
  obtain ⟨b0, b1⟩ := inB_iff.1 hb
  cases hl : inB xs.length 1 16
  · have HL := Lib.hid hl
    have HR := Lib.hid (show validR b xs = false from by simp [validR, hl])
    clear hb hl
    go_enter Try.func48, Try.ntmps48
    go_wp2_with fail
    refine (impl_isBase _ _).mono ?_; rintro e w' ⟨rfl, rfl⟩; rw [HB.out]
    go_wp2_with fail
    refine (impl_isRegisterWidth _ _).mono ?_; rintro e w' ⟨rfl, rfl⟩; rw [HL.out]
    go_wp2_with fail
    go_ret
    exact ⟨ret_b HR.out.symm, below_al _ _⟩
  have HL := Lib.hid hl
  have hl16 := inB_iff.1 hl
  have HVR := Lib.hid (show validR b xs = (xs.all (isD b) && decide (valC b xs ≤ 1000000000000)) from by unfold validR; rw [hb, hl]; rfl)
  clear hb hl
  go_enter Try.func48, Try.ntmps48
  go_wp2_with fail
  refine (impl_isBase _ _).mono ?_; rintro e w' ⟨rfl, rfl⟩; rw [HB.out]
  go_wp2_with fail
  refine (impl_isRegisterWidth _ _).mono ?_; rintro e w' ⟨rfl, rfl⟩; rw [HL.out]
  go_wp2_with fail
  go_loop [4, 19] (fun _ ii => ∃ j : Nat, j ≤ xs.length ∧ ii = .int .i64 j ∧ Hid ((xs.take j).all (isD b) = true)) (fun _ ii => xs.length - (intOf ii).toNat)
  case atStart => exact ⟨0, Nat.zero_le _, rfl, Lib.hid rfl⟩
  case round =>
    obtain ⟨j, hj, rfl, hall⟩ := hrel
    by_cases hlt : j < xs.length
    · obtain ⟨g, rfl, q⟩ := QQ.out j hlt
      have gl := World.block_lt_of_cell? w _ q
      cases hp : inB (nth xs j) 0 (b - 1)
      · have HR := Lib.hid (show validR b xs = false from by rw [HVR.out, all_fail (p := isD b) hlt hp]; rfl)
        have HP := Lib.hid hp; clear hp hall
        go_wp2_with fail
        refine (impl_between _ _ _ _).mono ?_; rintro e w' ⟨rfl, rfl⟩; rw [HP.out]
        go_wp2_with fail
        go_ret
        exact ⟨ret_b HR.out.symm, below_al _ _⟩
      · have HA := Lib.hid (all_step (p := isD b) hlt hall.out hp)
        have HP := Lib.hid hp; clear hp hall
        go_wp2_with fail
        refine (impl_between _ _ _ _).mono ?_; rintro e w' ⟨rfl, rfl⟩; rw [HP.out]
        go_wp2_with fail
        go_round
        case rel => exact ⟨j + 1, by omega, by go_num, HA.out⟩
        case measure => first | (simp [intOf]; done) | (simp [intOf]; omega)
    · have hA := all_done (p := isD b) hlt hall.out
      have HR := Lib.hid (show validR b xs = decide (valC b xs ≤ 1000000000000) from by rw [HVR.out, hA]; rfl)
      have HDD := Lib.hid (isD_bd b1 hA)
      clear hall hA
      go_wp2_with fail
      refine (impl_value b _ (own_alloc HO.out _) b0 b1 HDD.out (by omega)).mono ?_; rintro e w1 ⟨rfl, b1'⟩
      have BW := Lib.hid (blk1 b1').2.1; clear b1'
      generalize valC b xs = V at *
      go_wp2_with fail
      go_ret
      exact ⟨ret_b HR.out.symm, BW.out⟩
def clrD (b d : Int) : Int := (b - d) % b
def clC (b : Int) (xs : List Int) : Int := if validR b xs then 0 else 1
def clL (b : Int) (xs : List Int) : List Int := if validR b xs then xs.map (clrD b) else []
theorem validR_parts {b : Int} {xs : List Int} (h : validR b xs = true) : 2 ≤ b ∧ b ≤ 16 ∧ 1 ≤ xs.length ∧ xs.length ≤ 16 ∧ ∀ k, k < xs.length → 0 ≤ nth xs k ∧ nth xs k ≤ b - 1 := by
  unfold validR at h
  simp only [Bool.and_eq_true] at h
  have a := inB_iff.1 h.1; have c := inB_iff.1 h.2.1
  refine ⟨a.1, a.2, by omega, by omega, fun k hk => inB_iff.1 (all_get h.2.2.1 hk)⟩
theorem take_map_step {f : Int → Int} {zs : List Int} {j : Nat} (hj : j < zs.length) : (zs.take (j + 1)).map f = (zs.take j).map f ++ [f (nth zs j)] := by
  rw [List.take_succ_eq_append_getElem hj, List.map_append]
  simp [nth, List.getD, hj]
set_option maxHeartbeats 4000000 in
theorem impl_ClearTurns {B : Nat} {v : Value} {xs : List Int} (b : Int) (w : World) (h : Own w B v xs) (hlen : xs.length ≤ 1048576) :
    Calls Try.prog 22 #[.agg #[.int .i64 b, v]] w (RetOwnI w (clL b xs) (clC b xs)) := by
  have HO := Lib.hid h
  obtain ⟨a1, c1, rfl, m1, q1⟩ := own_form h
  have QQ := Lib.hid q1; clear q1 h
  cases hv : validR b xs
  · rw [show clL b xs = [] from by simp [clL, hv], show clC b xs = 1 from by simp [clC, hv]]
    have HV := Lib.hid hv; clear hv
    go_enter Try.func22, Try.ntmps22
    go_wp2_with fail
    refine (impl_ValidRegister b _ (own_alloc HO.out _) hlen).mono ?_; rintro e w1 ⟨rfl, b1⟩; rw [HV.out]
    have BW := Lib.hid (blk1 b1).2.1; clear b1
    go_wp2_with fail
    refine bodyPost_ret (v := .tuple #[.slice none 0 0, .int .i64 1]) (by simp [results, Try.results22, go_sem, *]) rfl ?_
    exact ⟨_, rfl, own_nil, BW.out⟩
  rw [show clL b xs = xs.map (clrD b) from by simp [clL, hv], show clC b xs = 0 from by simp [clC, hv]]
  have HV := Lib.hid hv
  obtain ⟨b0, bb1, l0, l1, hd⟩ := validR_parts hv
  have HD := Lib.hid hd; clear hv hd
  go_enter Try.func22, Try.ntmps22
  go_wp2_with fail
  refine (impl_ValidRegister b _ (own_alloc HO.out _) hlen).mono ?_; rintro e w1 ⟨rfl, b1⟩; rw [HV.out]
  obtain ⟨y0, bw, s1, -⟩ := blk1 b1
  have C0 := Lib.hid (cell_blk y0 0); have C1 := Lib.hid (cell_blk y0 1)
  have c0 := cell_blk y0 0; have c1' := cell_blk y0 1
  have lt0 : w.heap.size < w1.heap.size := by omega
  have BW := Lib.hid bw
  have QR := Lib.hid (show ∀ j, j < xs.length → ∃ g, a1 = some ⟨g, 0, none⟩ ∧ g < w1.heap.size ∧ w1.cell? ⟨g, j, none⟩ = some (.int .i64 (nth xs j)) from fun j hj => by
    obtain ⟨g, e1, e2⟩ := QQ.out j hj
    have gl : g < w.heap.size := World.block_lt_of_cell? w _ e2
    exact ⟨g, e1, by omega, (bw.cell (World.block_lt_of_cell? w _ e2)).trans e2⟩)
  clear b1 bw y0 QQ
  go_wp2_with fail
  go_loopw [4, 6, 14] (fun vv _ ii wr => ∃ (j : Nat) (u : Value), vv = u ∧ j ≤ xs.length ∧ ii = .int .i64 j ∧ Own wr w1.heap.size u ((xs.take j).map (clrD b)) ∧ Below w1.heap.size w1 wr ∧ w1.heap.size ≤ wr.heap.size) (fun _ _ ii _ => xs.length - (intOf ii).toNat)
  case atStart => exact ⟨0, _, rfl, Nat.zero_le _, rfl, own_empty w1 _ (Nat.le_refl _), (Below.refl _ _).alloc (Nat.le_refl _) _, by simp⟩
  case round =>
    obtain ⟨j, u, rfl, hj, rfl, ho, hbw, hs⟩ := hrel
    have k0 : wr.cell? ⟨w.heap.size, 0, none⟩ = some (.int .i64 b) := (hbw.cell lt0).trans C0.out
    have k1 : wr.cell? ⟨w.heap.size, 1, none⟩ = some (.slice a1 xs.length c1) := (hbw.cell lt0).trans C1.out
    have lt1 : w.heap.size < wr.heap.size := by omega
    have HOL := Lib.hid ho; have HBW := Lib.hid hbw
    have hlb : ((xs.take j).map (clrD b)).length ≤ 16 := by rw [List.length_map, List.length_take]; omega
    by_cases hlt : j < xs.length
    · obtain ⟨g, rfl, gl, r0⟩ := QR.out j hlt
      have p0 := (hbw.cell gl).trans r0
      have gl2 : g < wr.heap.size := by omega
      obtain ⟨x0, x1⟩ := HD.out j hlt
      have HN := Lib.hid (show (xs.take j).map (clrD b) ++ [clrD b (nth xs j)] = (xs.take (j + 1)).map (clrD b) from (take_map_step hlt).symm)
      have eT : (b - nth xs j).tmod b = clrD b (nth xs j) := Int.tmod_eq_emod_of_nonneg (by omega)
      have D0 : 0 ≤ clrD b (nth xs j) := Int.emod_nonneg _ (by omega)
      have D1 : clrD b (nth xs j) < b := Int.emod_lt_of_pos _ (by omega)
      generalize (xs.take j).map (clrD b) = L at *
      generalize clrD b (nth xs j) = D at *
      generalize nth xs j = x at *
      have wS : IntKind.i64.wrap (b - x) = b - x := IntWalk.i64_in _ (by omega)
      have wD : IntKind.i64.wrap D = D := IntWalk.i64_in _ (by omega)
      have zb : ¬ b = 0 := by omega
      have i0 : (0 : Int) ≤ (j : Int) := by omega
      have i1 : (j : Int) < (xs.length : Int) := by omega
      obtain ⟨az, cz, rfl, -, -⟩ := own_form ho
      clear r0 hbw ho c0 c1'
      go_wp2_with (at_builtin; refine wp_app rfl _ _ rfl _ _ (own_alloc HOL.out _) rfl rfl (by first | (simp; rfl) | exact cell_blk (heap_last _ _) 0) (by omega) (by first | (simp; done) | (simp; omega)) ?_; intro v' w9 ho' hg'; obtain ⟨hb', hs'⟩ := app_below HBW.out HOL.out hg' (Nat.le_refl _) hs; have O9 := Lib.hid ho'; have B9 := Lib.hid hb'; have s9 := hs'; clear ho' hb' hg')
      all_goals (
      clear eT wS wD
      go_wp2_with fail
      go_roundw
      case rel => exact ⟨j + 1, _, rfl, by omega, by go_num, by rw [← HN.out]; exact O9.out, B9.out, s9⟩
      case measure => first | (simp [intOf]; done) | (simp [intOf]; omega))
    · have HF := Lib.hid (show (xs.take j).map (clrD b) = xs.map (clrD b) from by rw [List.take_of_length_le (by omega)])
      rw [HF.out] at HOL
      generalize xs.map (clrD b) = L at *
      obtain ⟨az, cz, rfl, -, -⟩ := own_form HOL.out
      clear hbw ho
      go_wp2_with fail
      refine bodyPost_ret (v := .tuple #[.slice az L.length cz, .int .i64 0]) (by simp [results, Try.results22, go_sem, *]) rfl ?_
      exact ⟨_, rfl, own_base HOL.out (by omega), Below.trans_size BW.out HBW.out⟩
set_option maxHeartbeats 4000000 in
theorem spec_ClearTurns {B : Nat} {v : Value} {xs : List Int} (b : Int) (w : World) (h : Own w B v xs) (hlen : xs.length ≤ 1048576) :
    Calls Try.prog 20 #[.agg #[.int .i64 b, v]] w (RetOwnI w (clL b xs) (clC b xs)) := by
  have HO := Lib.hid h
  obtain ⟨a1, c1, rfl, m1, q1⟩ := own_form h
  have QQ := Lib.hid q1; clear q1 h
  cases hv : validR b xs
  · rw [show clL b xs = [] from by simp [clL, hv], show clC b xs = 1 from by simp [clC, hv]]
    have HV := Lib.hid hv; clear hv
    go_enter Try.func20, Try.ntmps20
    go_wp2_with fail
    refine (spec_l02Ok b _ _ (own_alloc HO.out _) (cell_blk (heap_last _ _) 0) (cell_blk (heap_last _ _) 1) hlen).mono ?_; rintro e w1 ⟨rfl, k, hk⟩; rw [HV.out]
    have b1 : Below (w.alloc (.cells #[.int .i64 b, .slice a1 xs.length c1] 29)).heap.size (w.alloc (.cells #[.int .i64 b, .slice a1 xs.length c1] 29)) w1 := by rw [hk]; exact below_drewN _ _
    have BW := Lib.hid (blk1 b1).2.1; clear b1 hk
    go_wp2_with fail
    refine bodyPost_ret (v := .tuple #[.slice none 0 0, .int .i64 1]) (by simp [results, Try.results20, go_sem, *]) rfl ?_
    exact ⟨_, rfl, own_nil, BW.out⟩
  rw [show clL b xs = xs.map (clrD b) from by simp [clL, hv], show clC b xs = 0 from by simp [clC, hv]]
  have HV := Lib.hid hv
  obtain ⟨b0, bb1, l0, l1, hd⟩ := validR_parts hv
  have HD := Lib.hid hd; clear hv hd
  go_enter Try.func20, Try.ntmps20
  go_wp2_with fail
  refine (spec_l02Ok b _ _ (own_alloc HO.out _) (cell_blk (heap_last _ _) 0) (cell_blk (heap_last _ _) 1) hlen).mono ?_; rintro e w1 ⟨rfl, k, hk⟩; rw [HV.out]
  have b1 : Below (w.alloc (.cells #[.int .i64 b, .slice a1 xs.length c1] 29)).heap.size (w.alloc (.cells #[.int .i64 b, .slice a1 xs.length c1] 29)) w1 := by rw [hk]; exact below_drewN _ _
  obtain ⟨y0, bw, s1, -⟩ := blk1 b1
  have C0 := Lib.hid (cell_blk y0 0); have C1 := Lib.hid (cell_blk y0 1)
  have c0 := cell_blk y0 0; have c1' := cell_blk y0 1
  have lt0 : w.heap.size < w1.heap.size := by omega
  have BW := Lib.hid bw
  have QR := Lib.hid (show ∀ j, j < xs.length → ∃ g, a1 = some ⟨g, 0, none⟩ ∧ g < w1.heap.size ∧ w1.cell? ⟨g, j, none⟩ = some (.int .i64 (nth xs j)) from fun j hj => by
    obtain ⟨g, e1, e2⟩ := QQ.out j hj
    have gl : g < w.heap.size := World.block_lt_of_cell? w _ e2
    exact ⟨g, e1, by omega, (bw.cell (World.block_lt_of_cell? w _ e2)).trans e2⟩)
  clear b1 bw y0 QQ hk
  go_wp2_with fail
  go_loopw [4, 5] (fun vv ii wr => ∃ (j : Nat) (u : Value), vv = u ∧ j ≤ xs.length ∧ ii = .int .i64 j ∧ Own wr w1.heap.size u ((xs.take j).map (clrD b)) ∧ Below w1.heap.size w1 wr ∧ w1.heap.size ≤ wr.heap.size) (fun _ ii _ => xs.length - (intOf ii).toNat)
  case atStart => exact ⟨0, _, rfl, Nat.zero_le _, rfl, own_empty w1 _ (Nat.le_refl _), (Below.refl _ _).alloc (Nat.le_refl _) _, by simp⟩
  case round =>
    obtain ⟨j, u, rfl, hj, rfl, ho, hbw, hs⟩ := hrel
    have k0 : wr.cell? ⟨w.heap.size, 0, none⟩ = some (.int .i64 b) := (hbw.cell lt0).trans C0.out
    have k1 : wr.cell? ⟨w.heap.size, 1, none⟩ = some (.slice a1 xs.length c1) := (hbw.cell lt0).trans C1.out
    have lt1 : w.heap.size < wr.heap.size := by omega
    have HOL := Lib.hid ho; have HBW := Lib.hid hbw
    have hlb : ((xs.take j).map (clrD b)).length ≤ 16 := by rw [List.length_map, List.length_take]; omega
    by_cases hlt : j < xs.length
    · obtain ⟨g, rfl, gl, r0⟩ := QR.out j hlt
      have p0 := (hbw.cell gl).trans r0
      have gl2 : g < wr.heap.size := by omega
      obtain ⟨x0, x1⟩ := HD.out j hlt
      have HN := Lib.hid (show (xs.take j).map (clrD b) ++ [clrD b (nth xs j)] = (xs.take (j + 1)).map (clrD b) from (take_map_step hlt).symm)
      have eT : (b - nth xs j).tmod b = clrD b (nth xs j) := Int.tmod_eq_emod_of_nonneg (by omega)
      have D0 : 0 ≤ clrD b (nth xs j) := Int.emod_nonneg _ (by omega)
      have D1 : clrD b (nth xs j) < b := Int.emod_lt_of_pos _ (by omega)
      generalize (xs.take j).map (clrD b) = L at *
      generalize clrD b (nth xs j) = D at *
      generalize nth xs j = x at *
      have wS : IntKind.i64.wrap (b - x) = b - x := IntWalk.i64_in _ (by omega)
      have wD : IntKind.i64.wrap D = D := IntWalk.i64_in _ (by omega)
      have zb : ¬ b = 0 := by omega
      have i0 : (0 : Int) ≤ (j : Int) := by omega
      have i1 : (j : Int) < (xs.length : Int) := by omega
      obtain ⟨az, cz, rfl, -, -⟩ := own_form ho
      clear r0 hbw ho c0 c1'
      go_wp2_with fail
      go_region_law ((refine step_app (by rfl) _ _ (by rfl) _ _ (own_alloc (own_drew HOL.out) _) (by rfl) (by rfl) (by simp; rfl) (by omega) (by simp; omega) ?_; intro v' w9 ho' hg'; obtain ⟨hb', hs'⟩ := app_below HBW.out.drew (own_drew HOL.out) hg' (Nat.le_refl _) (show w1.heap.size ≤ wr.heap.size from hs); have O9 := Lib.hid ho'; have B9 := Lib.hid hb'; have s9 := hs'; clear ho' hb' hg'))
      all_goals (
      clear eT wS wD
      go_wp2_with fail
      go_roundw
      case rel => exact ⟨j + 1, _, rfl, by omega, by go_num, by rw [← HN.out]; exact O9.out, B9.out, s9⟩
      case measure => first | (simp [intOf]; done) | (simp [intOf]; omega))
    · have HF := Lib.hid (show (xs.take j).map (clrD b) = xs.map (clrD b) from by rw [List.take_of_length_le (by omega)])
      rw [HF.out] at HOL
      generalize xs.map (clrD b) = L at *
      obtain ⟨az, cz, rfl, -, -⟩ := own_form HOL.out
      clear hbw ho
      go_wp2_with fail
      refine bodyPost_ret (v := .tuple #[.slice az L.length cz, .int .i64 0]) (by simp [results, Try.results20, go_sem, *]) rfl ?_
      exact ⟨_, rfl, own_base HOL.out (by omega), Below.trans_size BW.out HBW.out⟩
theorem laws_markRegister {B : Nat} {v : Value} {zs : List Int} (b : Int) (w : World) (k : Int) (h1 : Own w B v zs) (h0 : 0 ≤ k) (hk : k ≤ 1000000000) (hl : zs.length ≤ 1000000000) :
    Calls Try.prog 17 #[.agg #[.int .i64 b, v], .int .i64 k] w fun e w' => e = .returned (.int .i64 (k + zs.length)) ∧ ∃ o, (w.alloc o).grownBy w' v.ownBlock := by
  have H1 := Lib.hid h1
  obtain ⟨a1, c1, rfl, -, -⟩ := own_form h1
  clear h1
  go_enter Try.func17, Try.ntmps17
  go_wp2_with fail
  refine (laws_markInt64S _ k (own_alloc H1.out _) h0 hk hl).mono ?_; rintro e w1 ⟨rfl, o1, g1⟩
  have G1 := Lib.hid g1; clear o1 g1
  go_wp2_with fail
  go_ret
  exact ⟨rfl, _, G1.out⟩
theorem clL_len (b : Int) (xs : List Int) : (clL b xs).length ≤ 16 := by
  unfold clL
  split
  · rename_i h
    have := validR_parts h
    rw [List.length_map]; omega
  · simp
end Go.Proofs.Ytcooabjcikcpiaa
