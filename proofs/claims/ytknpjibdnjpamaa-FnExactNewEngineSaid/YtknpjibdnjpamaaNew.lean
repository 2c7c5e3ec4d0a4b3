/- NewEngine of both packages: a struct whose slice grows in a loop. -/
import Derived.IntWalk
import Derived.Maps.AppendAt
import Derived.Deep.RegionLaw
import Derived.Test.YtknpjibdnjpamaaEng
import Derived.Test.YtknpjibdnjpamaaDifB
import Derived.Test.YtknpjibdnjpamaaGrow
namespace Go.Proofs.Ytknpjibdnjpamaa
open Go.ChangeShapes Go.WideShapes Go.ChangeAt Go.RowKit
def modW (wd c : Int) : Int := c % ipow 10 wd.toNat
def nwW (wd : Int) (zs : List Int) : Int := if coefB zs && inB wd 1 12 then wd else 0
def nwL (wd : Int) (zs : List Int) : List Int := if coefB zs && inB wd 1 12 then zs.map (modW wd) else []
def nwC (wd : Int) (zs : List Int) : Int := if coefB zs then (if inB wd 1 12 then 0 else 2) else 1
theorem mod_go (c m : Int) (hm : 0 < m) : (c.tmod m + m) % m = c % m := by
  rw [Int.add_emod_right]
  have h := Int.mul_tdiv_add_tmod c m
  have : c.tmod m = c - m * c.tdiv m := by omega
  rw [this, Int.sub_mul_emod_self_left]
theorem tmod_bd (c m : Int) (hm : 0 < m) : -m < c.tmod m ∧ c.tmod m < m := by
  have := Int.tmod_lt_of_pos c hm
  have := Int.lt_tmod_of_pos c hm
  omega
theorem take_map_step {f : Int → Int} {zs : List Int} {j : Nat} (hj : j < zs.length) : (zs.take (j + 1)).map f = (zs.take j).map f ++ [f (nth zs j)] := by
  rw [List.take_succ_eq_append_getElem hj, List.map_append]
  simp [nth, List.getD, hj]
set_option maxHeartbeats 4000000 in
theorem impl_NewEngine {B : Nat} {v : Value} {zs : List Int} (wd : Int) (w : World) (ho : Own w B v zs) :
    Calls Try.prog 16 #[.int .i64 wd, v] w (RetAggI w (nwW wd zs) (nwL wd zs) (nwC wd zs)) := by
  have HO := Lib.hid ho
  obtain ⟨a0, cap0, rfl, hm0, q0⟩ := own_form ho
  have QQ := Lib.hid q0; clear ho q0
  cases hc : coefB zs
  · rw [show nwW wd zs = 0 from by simp [nwW, hc], show nwL wd zs = [] from by simp [nwL, hc], show nwC wd zs = 1 from by simp [nwC, hc]]
    have HC := Lib.hid hc; clear hc
    go_enter Try.func16, Try.ntmps16
    go_wp2_with fail
    refine (impl_areCoefs _ (own_alloc HO.out _)).mono ?_; rintro e w' ⟨rfl, rfl⟩; rw [HC.out]
    go_wp2_with fail
    refine bodyPost_ret (v := .tuple #[.agg #[.int .i64 0, .slice none 0 0], .int .i64 1]) (by simp [results, Try.results16, go_sem, *]) rfl ?_
    exact ⟨_, rfl, own_nil, by first | exact ((below_al _ _).setCell (by simp) _).setCell (by simp) _ | exact below_al _ _⟩
  cases hb : inB wd 1 12
  · rw [show nwW wd zs = 0 from by simp [nwW, hc, hb], show nwL wd zs = [] from by simp [nwL, hc, hb], show nwC wd zs = 2 from by simp [nwC, hc, hb]]
    have HC := Lib.hid hc; have HB := Lib.hid hb; clear hc hb
    go_enter Try.func16, Try.ntmps16
    go_wp2_with fail
    refine (impl_areCoefs _ (own_alloc HO.out _)).mono ?_; rintro e w' ⟨rfl, rfl⟩; rw [HC.out]
    go_wp2_with fail
    refine (impl_isEngineWidth _ _).mono ?_; rintro e w' ⟨rfl, rfl⟩; rw [HB.out]
    go_wp2_with fail
    refine bodyPost_ret (v := .tuple #[.agg #[.int .i64 0, .slice none 0 0], .int .i64 2]) (by simp [results, Try.results16, go_sem, *]) rfl ?_
    exact ⟨_, rfl, own_nil, by first | exact ((below_al _ _).setCell (by simp) _).setCell (by simp) _ | exact below_al _ _⟩
  rw [show nwW wd zs = wd from by simp [nwW, hc, hb], show nwL wd zs = zs.map (modW wd) from by simp [nwL, hc, hb], show nwC wd zs = 0 from by simp [nwC, hc, hb]]
  have HC := Lib.hid hc; have HB := Lib.hid hb
  obtain ⟨b0, b1⟩ := inB_iff.1 hb
  obtain ⟨cp, cl1, cl2⟩ := coefB_parts hc
  have CP := Lib.hid cp; clear cp hc hb
  obtain ⟨_, t2, t3⟩ := ten_bd (n := wd.toNat) (by omega)
  have I := Lib.hid (fun wx => impl_modulus wd wx (by omega) (by omega))
  have hmw : ∀ c, modW wd c = c % ipow 10 wd.toNat := fun c => rfl
  generalize ipow 10 wd.toNat = M at *
  have HMW := Lib.hid hmw; clear hmw
  go_enter Try.func16, Try.ntmps16
  go_wp2_with fail
  refine (impl_areCoefs _ (own_alloc HO.out _)).mono ?_; rintro e w' ⟨rfl, rfl⟩; rw [HC.out]
  go_wp2_with fail
  refine (impl_isEngineWidth _ _).mono ?_; rintro e w' ⟨rfl, rfl⟩; rw [HB.out]
  go_wp2_with fail
  refine (I.out _).mono ?_; rintro e w' ⟨rfl, rfl⟩
  go_wp2_with fail
  go_loopw [24, 9] (fun i _ wr => ∃ (j : Nat) (v : Value), j ≤ zs.length ∧ i = .int .i64 j ∧ Own wr w.heap.size v ((zs.take j).map (modW wd)) ∧ some w.heap.size ≠ v.ownBlock ∧ some (w.heap.size + 1) ≠ v.ownBlock ∧ wr.heap[w.heap.size]? = some (.cells #[.int .i64 0, .slice none 0 0] 27) ∧ wr.heap[w.heap.size + 1]? = some (.cells #[.int .i64 wd, v] 27) ∧ Below w.heap.size w wr ∧ w.heap.size + 1 + 1 ≤ wr.heap.size) (fun i _ _ => zs.length - (intOf i).toNat)
  case atStart =>
    obtain ⟨x0, x1, bw, hs, he⟩ := blk2 (Below.refl _ _)
    exact ⟨0, _, Nat.zero_le _, rfl, own_nil, by simp [Value.ownBlock], by simp [Value.ownBlock], x0, x1, bw, by omega⟩
  case round =>
    obtain ⟨j, v, hj, rfl, ho, n4, n5, h4, h5, hbw, hs⟩ := hrel
    have H4 := Lib.hid h4; have H5 := Lib.hid h5; have N4 := Lib.hid n4; have N5 := Lib.hid n5
    have HOL := Lib.hid ho; have HBW := Lib.hid hbw
    have hlb : ((zs.take j).map (modW wd)).length ≤ 9 := by rw [List.length_map, List.length_take]; omega
    generalize hL : (zs.take j).map (modW wd) = L at *
    have HL := Lib.hid hL; clear hL
    obtain ⟨a, cap, rfl, -, -⟩ := own_form ho
    have c0 := cell_blk h5 0; have c1 := cell_blk h5 1; have f1 := frozen_blk h5 1
    clear ho n4 n5
    by_cases hlt : j < zs.length
    · obtain ⟨g, rfl, q⟩ := QQ.out j hlt
      have gl := World.block_lt_of_cell? w _ q
      have q1 := (hbw.cell gl).trans q
      obtain ⟨cb1, cb2⟩ := nth_bd CP.out hlt
      obtain ⟨tb1, tb2⟩ := tmod_bd (nth zs j) M (by omega)
      have hgo := mod_go (nth zs j) M (by omega)
      obtain ⟨R, hR⟩ : ∃ R, R = (nth zs j).tmod M := ⟨_, rfl⟩
      obtain ⟨D, hD⟩ : ∃ D, D = (nth zs j) % M := ⟨_, rfl⟩
      have d0 : 0 ≤ D := by rw [hD]; exact Int.emod_nonneg _ (by omega)
      have d1 : D < M := by rw [hD]; exact Int.emod_lt_of_pos _ (by omega)
      have HN := Lib.hid (show L ++ [D] = (zs.take (j + 1)).map (modW wd) from by rw [take_map_step hlt, HL.out, HMW.out, hD])
      have eT := hR.symm
      rw [← hR, ← hD] at hgo
      rw [← hR] at tb1 tb2
      have wR : IntKind.i64.wrap R = R := IntWalk.i64_in _ (by omega)
      have wS : IntKind.i64.wrap (R + M) = R + M := IntWalk.i64_in _ (by omega)
      have eT2 : (R + M).tmod M = D := by rw [Int.tmod_eq_emod_of_nonneg (by omega)]; exact hgo
      have wD : IntKind.i64.wrap D = D := IntWalk.i64_in _ (by omega)
      have zb : ¬ M = 0 := by omega
      clear hR hD hgo hbw h4 h5 q
      have lt5 : w.heap.size + 1 < wr.heap.size := by omega
      go_wp2_with fail
      go_region_law ((refine step_app_at (by rfl) _ _ (by rfl) _ _ (own_alloc (own_drew HOL.out) _) (by rfl) (by rfl) (by simp; rfl) (by omega) (by simp; omega) ?_; intro v' w9 ho' hg' hloc; obtain ⟨hb', hs'⟩ := app_below HBW.out.drew (own_drew HOL.out) hg' (Nat.le_refl _) (show w.heap.size ≤ wr.heap.size by omega); have X4 := Lib.hid ((hg'.block w.heap.size (by simp; omega) N4.out).trans ((Below.heap_alloc wr.drew _ _ (show w.heap.size < wr.heap.size by omega)).trans H4.out)); have x5 := (hg'.block (w.heap.size + 1) (by simp; omega) N5.out).trans ((Below.heap_alloc wr.drew _ _ (show w.heap.size + 1 < wr.heap.size by omega)).trans H5.out); have hs9 := hg'.size; have M4 := Lib.hid (loc_ne hloc N4.out (by simp; omega)); have M5 := Lib.hid (loc_ne hloc N5.out (by simp; omega)); obtain ⟨av, cv, rfl, -, -⟩ := own_form ho'; have c0 := cell_blk x5 0; have c1 := cell_blk x5 1; have f1 := frozen_blk x5 1; have X5 := Lib.hid x5; have O9 := Lib.hid ho'; have B9 := Lib.hid hb'; clear ho' hb' hg' hloc x5))
      all_goals (
      clear eT wR wS eT2 wD zb
      go_wp2_with fail
      go_roundw
      case rel => exact ⟨j + 1, _, by omega, by go_num, by rw [← HN.out]; exact own_setCell_ne O9.out M5.out, fun e => M4.out e.symm, fun e => M5.out e.symm, by rw [Below.heap_setCell _ _ _ _ (by first | (simp; done) | (simp; omega))]; exact X4.out, by simpa using setCell_blk X5.out _, B9.out.setCell (by first | (simp; done) | (simp; omega)) _, by simp at *; omega⟩
      case measure => first | (simp [intOf]; done) | (simp [intOf]; omega))
    · have HF := Lib.hid (show L = zs.map (modW wd) from by rw [← HL.out, List.take_of_length_le (by omega)])
      have d0 := cell_blk h4 0; have d1 := cell_blk h4 1; have g0 := frozen_blk h4 0; have g1 := frozen_blk h4 1
      clear h4 h5 hbw
      go_wp2_with fail
      refine bodyPost_ret (v := .tuple #[.agg #[.int .i64 wd, .slice a L.length cap], .int .i64 0]) (by simp [results, Try.results16, go_sem, *]) rfl ?_
      exact ⟨_, by rfl, by rw [← HF.out]; exact own_setCell_ne (own_setCell_ne HOL.out (fun e => N4.out e.symm)) (fun e => N4.out e.symm), (HBW.out.setCell (by simp) _).setCell (by simp) _⟩
set_option maxHeartbeats 1000000 in
theorem spec_l16Mod (wd c : Int) (w : World) (h1 : 1 ≤ wd) (h2 : wd ≤ 12) (hc1 : -1000000000 ≤ c) (hc2 : c ≤ 1000000000) :
    Calls Try.prog 41 #[.int .i64 wd, .int .i64 c] w fun e w' => e = .returned (.int .i64 (modW wd c)) ∧ w = w' := by
  obtain ⟨t1, t2, t3⟩ := ten_bd (n := wd.toNat) (by omega)
  have K := Lib.hid (fun wx => show Calls Try.prog 39 #[.int .i64 10, .int .i64 wd] wx (fun e w' => e = .returned (.int .i64 (ipow 10 wd.toNat)) ∧ wx = w') from by rw [← t1]; exact spec_l10Power 10 wd wx (by omega) (by omega) (by omega) (by omega))
  have hmw : modW wd c = c % ipow 10 wd.toNat := rfl
  rw [hmw]
  clear hmw t1
  generalize ipow 10 wd.toNat = M at *
  obtain ⟨tb1, tb2⟩ := tmod_bd c M (by omega)
  have hgo := mod_go c M (by omega)
  obtain ⟨R, hR⟩ : ∃ R, R = c.tmod M := ⟨_, rfl⟩
  obtain ⟨D, hD⟩ : ∃ D, D = c % M := ⟨_, rfl⟩
  have d0 : 0 ≤ D := by rw [hD]; exact Int.emod_nonneg _ (by omega)
  have d1 : D < M := by rw [hD]; exact Int.emod_lt_of_pos _ (by omega)
  have eT := hR.symm
  rw [← hR, ← hD] at hgo
  rw [← hR] at tb1 tb2
  rw [← hD]
  have wR : IntKind.i64.wrap R = R := IntWalk.i64_in _ (by omega)
  have wS : IntKind.i64.wrap (R + M) = R + M := IntWalk.i64_in _ (by omega)
  have eT2 : (R + M).tmod M = D := by rw [Int.tmod_eq_emod_of_nonneg (by omega)]; exact hgo
  have wD : IntKind.i64.wrap D = D := IntWalk.i64_in _ (by omega)
  have zb : ¬ M = 0 := by omega
  clear hR hD hgo
  go_enter Try.func41, Try.ntmps41
  go_wp2_with fail
  refine (K.out _).mono ?_; rintro e w' ⟨rfl, rfl⟩
  go_wp2_with fail
  go_ret
  exact ⟨rfl, rfl⟩
set_option maxHeartbeats 4000000 in
theorem spec_l16New {B : Nat} {v : Value} {zs : List Int} (wd : Int) (w : World) (ho : Own w B v zs) (h1 : 1 ≤ wd) (h2 : wd ≤ 12) (hb : bdd 1000000000 zs) (hl : zs.length ≤ 9) :
    Calls Try.prog 32 #[.int .i64 wd, v] w (RetAgg w wd (zs.map (modW wd))) := by
  have CP := Lib.hid hb; clear hb
  obtain ⟨a0, cap0, rfl, hm0, q0⟩ := own_form ho
  have QQ := Lib.hid q0; clear ho q0
  go_enter Try.func32, Try.ntmps32
  go_wp2_with fail
  go_loopw [6] (fun i wr => ∃ (j : Nat) (v : Value), j ≤ zs.length ∧ i = .int .i64 j ∧ Own wr w.heap.size v ((zs.take j).map (modW wd)) ∧ some w.heap.size ≠ v.ownBlock ∧ some (w.heap.size + 1) ≠ v.ownBlock ∧ wr.heap[w.heap.size]? = some (.cells #[.int .i64 0, .slice none 0 0] 27) ∧ wr.heap[w.heap.size + 1]? = some (.cells #[.int .i64 wd, v] 27) ∧ Below w.heap.size w wr ∧ w.heap.size + 1 + 1 ≤ wr.heap.size) (fun i _ => zs.length - (intOf i).toNat)
  case atStart =>
    obtain ⟨x0, x1, bw, hs, he⟩ := blk2 (Below.refl _ _)
    exact ⟨0, _, Nat.zero_le _, rfl, own_nil, by simp [Value.ownBlock], by simp [Value.ownBlock], x0, x1, bw, by omega⟩
  case round =>
    obtain ⟨j, v, hj, rfl, ho, n4, n5, h4, h5, hbw, hs⟩ := hrel
    have H4 := Lib.hid h4; have H5 := Lib.hid h5; have N4 := Lib.hid n4; have N5 := Lib.hid n5
    have HOL := Lib.hid ho; have HBW := Lib.hid hbw
    have hlb : ((zs.take j).map (modW wd)).length ≤ 9 := by rw [List.length_map, List.length_take]; omega
    generalize hL : (zs.take j).map (modW wd) = L at *
    have HL := Lib.hid hL; clear hL
    obtain ⟨a, cap, rfl, -, -⟩ := own_form ho
    have c0 := cell_blk h5 0; have c1 := cell_blk h5 1; have f1 := frozen_blk h5 1
    clear ho n4 n5
    by_cases hlt : j < zs.length
    · obtain ⟨g, rfl, q⟩ := QQ.out j hlt
      have gl := World.block_lt_of_cell? w _ q
      have q1 := (hbw.cell gl).trans q
      obtain ⟨cb1, cb2⟩ := nth_bd CP.out hlt
      have I := Lib.hid (fun wx => spec_l16Mod wd (nth zs j) wx h1 h2 cb1 cb2)
      have HN := Lib.hid (show L ++ [modW wd (nth zs j)] = (zs.take (j + 1)).map (modW wd) from by rw [take_map_step hlt, HL.out])
      generalize modW wd (nth zs j) = D at *
      clear hbw h4 h5 q
      have lt5 : w.heap.size + 1 < wr.heap.size := by omega
      have i0 : (0 : Int) ≤ (j : Int) := by omega
      have i1 : (j : Int) < (zs.length : Int) := by omega
      go_wp2_with fail
      go_region_law (first | (refine step_call (by rfl) 41 Try.func41 (by decide +kernel) (by rfl) _ _ (by rfl) (by rfl) (I.out _) ?_) | (refine step_app_at (by rfl) _ _ (by rfl) _ _ (own_alloc (own_drew HOL.out) _) (by rfl) (by rfl) (by simp; rfl) (by omega) (by simp; omega) ?_; intro v' w9 ho' hg' hloc; obtain ⟨hb', hs'⟩ := app_below HBW.out.drew (own_drew HOL.out) hg' (Nat.le_refl _) (show w.heap.size ≤ wr.heap.size by omega); have X4 := Lib.hid ((hg'.block w.heap.size (by simp; omega) N4.out).trans ((Below.heap_alloc wr.drew _ _ (show w.heap.size < wr.heap.size by omega)).trans H4.out)); have x5 := (hg'.block (w.heap.size + 1) (by simp; omega) N5.out).trans ((Below.heap_alloc wr.drew _ _ (show w.heap.size + 1 < wr.heap.size by omega)).trans H5.out); have hs9 := hg'.size; have M4 := Lib.hid (loc_ne hloc N4.out (by simp; omega)); have M5 := Lib.hid (loc_ne hloc N5.out (by simp; omega)); obtain ⟨av, cv, rfl, -, -⟩ := own_form ho'; have c0 := cell_blk x5 0; have c1 := cell_blk x5 1; have f1 := frozen_blk x5 1; have X5 := Lib.hid x5; have O9 := Lib.hid ho'; have B9 := Lib.hid hb'; clear ho' hb' hg' hloc x5))
      all_goals (
      clear i0 i1
      go_wp2_with fail
      go_roundw
      case rel => exact ⟨j + 1, _, by omega, by go_num, by rw [← HN.out]; exact own_setCell_ne O9.out M5.out, fun e => M4.out e.symm, fun e => M5.out e.symm, by rw [Below.heap_setCell _ _ _ _ (by first | (simp; done) | (simp; omega))]; exact X4.out, by simpa using setCell_blk X5.out _, B9.out.setCell (by first | (simp; done) | (simp; omega)) _, by simp at *; omega⟩
      case measure => first | (simp [intOf]; done) | (simp [intOf]; omega))
    · have HF := Lib.hid (show L = zs.map (modW wd) from by rw [← HL.out, List.take_of_length_le (by omega)])
      have d0 := cell_blk h4 0; have d1 := cell_blk h4 1; have g0 := frozen_blk h4 0; have g1 := frozen_blk h4 1
      clear h4 h5 hbw
      go_wp2_with fail
      refine bodyPost_ret (v := .agg #[.int .i64 wd, .slice a L.length cap]) (by simp [results, Try.results32, go_sem, *]) rfl ?_
      exact ⟨_, by rfl, by rw [← HF.out]; exact own_setCell_ne (own_setCell_ne HOL.out (fun e => N4.out e.symm)) (fun e => N4.out e.symm), (HBW.out.setCell (by simp) _).setCell (by simp) _⟩
set_option maxHeartbeats 4000000 in
theorem spec_NewEngine {B : Nat} {v : Value} {zs : List Int} (wd : Int) (w : World) (ho : Own w B v zs) :
    Calls Try.prog 14 #[.int .i64 wd, v] w (RetAggI w (nwW wd zs) (nwL wd zs) (nwC wd zs)) := by
  have HO := Lib.hid ho
  obtain ⟨a0, cap0, rfl, hm0, q0⟩ := own_form ho
  have QQ := Lib.hid q0; clear ho q0
  cases hc : coefB zs
  · rw [show nwW wd zs = 0 from by simp [nwW, hc], show nwL wd zs = [] from by simp [nwL, hc], show nwC wd zs = 1 from by simp [nwC, hc]]
    have HC := Lib.hid hc; clear hc
    go_enter Try.func14, Try.ntmps14
    go_wp2_with fail
    refine (spec_l15Coefs _ (own_alloc HO.out _)).mono ?_; rintro e w' ⟨rfl, rfl⟩; rw [HC.out]
    go_wp2_with fail
    refine bodyPost_ret (v := .tuple #[.agg #[.int .i64 0, .slice none 0 0], .int .i64 1]) (by simp [results, Try.results14, go_sem, *]) rfl ?_
    exact ⟨_, rfl, own_nil, by first | exact ((below_al _ _).setCell (by simp) _).setCell (by simp) _ | exact below_al _ _⟩
  cases hb : inB wd 1 12
  · rw [show nwW wd zs = 0 from by simp [nwW, hc, hb], show nwL wd zs = [] from by simp [nwL, hc, hb], show nwC wd zs = 2 from by simp [nwC, hc, hb]]
    have HC := Lib.hid hc; have HB := Lib.hid hb; clear hc hb
    go_enter Try.func14, Try.ntmps14
    go_wp2_with fail
    refine (spec_l15Coefs _ (own_alloc HO.out _)).mono ?_; rintro e w' ⟨rfl, rfl⟩; rw [HC.out]
    go_wp2_with fail
    refine (spec_l16Width _ _).mono ?_; rintro e w' ⟨rfl, rfl⟩; rw [HB.out]
    go_wp2_with fail
    refine bodyPost_ret (v := .tuple #[.agg #[.int .i64 0, .slice none 0 0], .int .i64 2]) (by simp [results, Try.results14, go_sem, *]) rfl ?_
    exact ⟨_, rfl, own_nil, by first | exact ((below_al _ _).setCell (by simp) _).setCell (by simp) _ | exact below_al _ _⟩
  rw [show nwW wd zs = wd from by simp [nwW, hc, hb], show nwL wd zs = zs.map (modW wd) from by simp [nwL, hc, hb], show nwC wd zs = 0 from by simp [nwC, hc, hb]]
  have HC := Lib.hid hc; have HB := Lib.hid hb
  obtain ⟨b0, b1⟩ := inB_iff.1 hb
  obtain ⟨cp, cl1, cl2⟩ := coefB_parts hc
  have CP := Lib.hid cp; clear cp hc hb
  have LN := Lib.hid (show (zs.map (modW wd)).length = zs.length from List.length_map _)
  go_enter Try.func14, Try.ntmps14
  go_wp2_with fail
  refine (spec_l15Coefs _ (own_alloc HO.out _)).mono ?_; rintro e w' ⟨rfl, rfl⟩; rw [HC.out]
  go_wp2_with fail
  refine (spec_l16Width _ _).mono ?_; rintro e w' ⟨rfl, rfl⟩; rw [HB.out]
  go_wp2_with fail
  refine (spec_l16New wd _ (own_alloc HO.out _) (by omega) (by omega) CP.out (by omega)).mono ?_; rintro e w1 ⟨v1, rfl, o1, b1'⟩
  generalize zs.map (modW wd) = L at *
  obtain ⟨x0, bw, hs, he⟩ := blk1 b1'
  rw [he] at o1
  have O1 := Lib.hid o1; have BW := Lib.hid bw
  obtain ⟨av, cv, rfl, -, -⟩ := own_form o1
  have c0 := cell_blk x0 0; have c1 := cell_blk x0 1; have f0 := frozen_blk x0 0; have f1 := frozen_blk x0 1
  clear o1 b1' bw x0 he
  go_wp2_with fail
  refine bodyPost_ret (v := .tuple #[.agg #[.int .i64 wd, .slice av L.length cv], .int .i64 0]) (by simp [results, Try.results14, go_sem, *]) rfl ?_
  exact ⟨_, rfl, own_base (ownsRow_setCell_below (ownsRow_setCell_below O1.out (by simp) _) (by simp) _) (by omega), (BW.out.setCell (by simp) _).setCell (by simp) _⟩
end Go.Proofs.Ytknpjibdnjpamaa
