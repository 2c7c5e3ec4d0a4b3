/- MatchOf and DepthOfProgram of both packages. -/
import Derived.IntWalk
import Derived.Test.YtaipfcbphfjgoaaMat
namespace Go.Proofs.Ytaipfcbphfjgoaa
open Go.ChangeShapes Go.WideShapes Go.ChangeAt Go.RowKit
theorem ret_tt {a b c d : Int} (h1 : c = a) (h2 : d = b) : Ending.returned (.tuple #[.int .i64 a, .int .i64 b]) = .returned (.tuple #[.int .i64 c, .int .i64 d]) := by rw [h1, h2]
set_option maxHeartbeats 2000000 in
theorem impl_MatchOf {B : Nat} {u : Value} {n : Nat} {zs : List Int} (at0 : Int) (w : World) (h1 : OwnR w B u n zs) (hlen : n ≤ 1048576) :
    Calls Try.prog 29 #[u, .int .i64 at0] w (RetV w (.tuple #[.int .i64 (mofV zs at0), .int .i64 (mofC zs at0)])) := by
  have hz := recr_len h1
  have HO := Lib.hid h1
  obtain ⟨a1, c1, rfl, m1, q1⟩ := recr_form h1
  clear h1
  have Q1 := Lib.hid q1; clear q1
  cases hv : validP zs
  · have HV := Lib.hid hv
    have HC := Lib.hid (show mofC zs at0 = 1 from by simp [mofC, hv])
    have HW := Lib.hid (show mofV zs at0 = 0 from by unfold mofV; rw [HC.out]; rfl)
    clear hv
    go_enter Try.func29, Try.ntmps29
    go_wp2_with fail
    refine (impl_ValidProgram _ HO.out hlen).mono ?_; rintro e w1 ⟨rfl, b1⟩; rw [HV.out]; have B1 := Lib.hid b1; have s1 := b1.size; have O1 := Lib.hid (recr_keep b1 HO.out); clear b1
    go_wp2_with fail
    refine bodyPost_ret (v := .tuple #[.int .i64 0, .int .i64 1]) (by simp [results, Try.results29, go_sem, *]) rfl ?_
    exact ⟨ret_tt HW.out HC.out, B1.out⟩
  cases hi : inB at0 0 ((n : Int) - 1)
  · have HV := Lib.hid hv; have HI := Lib.hid hi
    have HC := Lib.hid (show mofC zs at0 = 2 from by unfold mofC; rw [hv, show zs.length / 2 = n by omega, hi]; rfl)
    have HW := Lib.hid (show mofV zs at0 = 0 from by unfold mofV; rw [HC.out]; rfl)
    clear hv hi
    go_enter Try.func29, Try.ntmps29
    go_wp2_with fail
    refine (impl_ValidProgram _ HO.out hlen).mono ?_; rintro e w1 ⟨rfl, b1⟩; rw [HV.out]; have B1 := Lib.hid b1; have s1 := b1.size; have O1 := Lib.hid (recr_keep b1 HO.out); clear b1
    go_wp2_with fail
    refine (impl_between _ _ _ _).mono ?_; rintro e w2 ⟨rfl, rfl⟩; rw [HI.out]
    go_wp2_with fail
    refine bodyPost_ret (v := .tuple #[.int .i64 0, .int .i64 2]) (by simp [results, Try.results29, go_sem, *]) rfl ?_
    exact ⟨ret_tt HW.out HC.out, B1.out⟩
  obtain ⟨i0, i1⟩ := inB_iff.1 hi
  obtain ⟨a, rfl⟩ := Int.eq_ofNat_of_zero_le i0
  obtain ⟨g, rfl, x0, x1⟩ := Q1.out a (by omega)
  cases hp : opensB (nth zs (a * 2))
  · have HV := Lib.hid hv; have HI := Lib.hid hi; have HP := Lib.hid hp
    have HC := Lib.hid (show mofC zs a = 6 from by unfold mofC; rw [hv, show zs.length / 2 = n by omega, hi, Int.toNat_natCast, hp]; rfl)
    have HW := Lib.hid (show mofV zs a = 0 from by unfold mofV; rw [HC.out]; rfl)
    clear hv hi hp
    go_enter Try.func29, Try.ntmps29
    go_wp2_with fail
    refine (impl_ValidProgram _ HO.out hlen).mono ?_; rintro e w1 ⟨rfl, b1⟩; rw [HV.out]; have B1 := Lib.hid b1; have s1 := b1.size; have O1 := Lib.hid (recr_keep b1 HO.out); clear b1
    have r0 := (B1.out.cell (World.block_lt_of_cell? w _ x0)).trans x0; have r1 := (B1.out.cell (World.block_lt_of_cell? w _ x1)).trans x1; have gl : g < w.heap.size := World.block_lt_of_cell? w _ x0; have gl2 : g < w1.heap.size := by omega
    go_wp2_with fail
    refine (impl_between _ _ _ _).mono ?_; rintro e w2 ⟨rfl, rfl⟩; rw [HI.out]
    go_wp2_with fail
    refine (impl_begins _ _ _).mono ?_; rintro e w3 ⟨rfl, b3⟩; rw [HP.out]; have B3 := Lib.hid (Below.trans_size B1.out b3); have O3 := Lib.hid (recr_keep b3 O1.out); clear b3
    go_wp2_with fail
    refine bodyPost_ret (v := .tuple #[.int .i64 0, .int .i64 6]) (by simp [results, Try.results29, go_sem, *]) rfl ?_
    exact ⟨ret_tt HW.out HC.out, B3.out⟩
  · have HV := Lib.hid hv; have HI := Lib.hid hi; have HP := Lib.hid hp
    have HC := Lib.hid (show mofC zs a = 0 from by unfold mofC; rw [hv, show zs.length / 2 = n by omega, hi, Int.toNat_natCast, hp]; rfl)
    have HW := Lib.hid (show mofV zs a = mtch zs a from by unfold mofV; rw [HC.out, Int.toNat_natCast]; rfl)
    clear hv hi hp
    go_enter Try.func29, Try.ntmps29
    go_wp2_with fail
    refine (impl_ValidProgram _ HO.out hlen).mono ?_; rintro e w1 ⟨rfl, b1⟩; rw [HV.out]; have B1 := Lib.hid b1; have s1 := b1.size; have O1 := Lib.hid (recr_keep b1 HO.out); clear b1
    have r0 := (B1.out.cell (World.block_lt_of_cell? w _ x0)).trans x0; have r1 := (B1.out.cell (World.block_lt_of_cell? w _ x1)).trans x1; have gl : g < w.heap.size := World.block_lt_of_cell? w _ x0; have gl2 : g < w1.heap.size := by omega
    go_wp2_with fail
    refine (impl_between _ _ _ _).mono ?_; rintro e w2 ⟨rfl, rfl⟩; rw [HI.out]
    go_wp2_with fail
    refine (impl_begins _ _ _).mono ?_; rintro e w3 ⟨rfl, b3⟩; rw [HP.out]; have B3 := Lib.hid (Below.trans_size B1.out b3); have O3 := Lib.hid (recr_keep b3 O1.out); clear b3
    go_wp2_with fail
    refine (impl_matchOf a _ O3.out HV.out (by omega) HP.out).mono ?_; rintro e w4 ⟨rfl, b4⟩; have B4 := Lib.hid (Below.trans_size B3.out b4); clear b4
    go_wp2_with fail
    refine bodyPost_ret (v := .tuple #[.int .i64 (mtch zs a), .int .i64 0]) (by simp [results, Try.results29, go_sem, *]) rfl ?_
    exact ⟨ret_tt HW.out HC.out, B4.out⟩
set_option maxHeartbeats 2000000 in
theorem spec_MatchOf {B : Nat} {u : Value} {n : Nat} {zs : List Int} (at0 : Int) (w : World) (h1 : OwnR w B u n zs) (hlen : n ≤ 1048576) :
    Calls Try.prog 28 #[u, .int .i64 at0] w (RetV w (.tuple #[.int .i64 (mofV zs at0), .int .i64 (mofC zs at0)])) := by
  have hz := recr_len h1
  have HO := Lib.hid h1
  obtain ⟨a1, c1, rfl, m1, q1⟩ := recr_form h1
  clear h1
  have Q1 := Lib.hid q1; clear q1
  cases hv : validP zs
  · have HV := Lib.hid hv
    have HC := Lib.hid (show mofC zs at0 = 1 from by simp [mofC, hv])
    have HW := Lib.hid (show mofV zs at0 = 0 from by unfold mofV; rw [HC.out]; rfl)
    clear hv
    go_enter Try.func28, Try.ntmps28
    go_wp2_with fail
    refine (spec_l11Ok _ HO.out hlen).mono ?_; rintro e w1 ⟨rfl, k, rfl⟩; rw [HV.out]; have B1 := Lib.hid (below_drewN w k); have O1 := Lib.hid (show OwnR (w.drewN k) B _ n zs from HO.out)
    go_wp2_with fail
    refine bodyPost_ret (v := .tuple #[.int .i64 0, .int .i64 1]) (by simp [results, Try.results28, go_sem, *]) rfl ?_
    exact ⟨ret_tt HW.out HC.out, B1.out⟩
  cases hi : inB at0 0 ((n : Int) - 1)
  · have HV := Lib.hid hv; have HI := Lib.hid hi
    have HC := Lib.hid (show mofC zs at0 = 2 from by unfold mofC; rw [hv, show zs.length / 2 = n by omega, hi]; rfl)
    have HW := Lib.hid (show mofV zs at0 = 0 from by unfold mofV; rw [HC.out]; rfl)
    clear hv hi
    go_enter Try.func28, Try.ntmps28
    go_wp2_with fail
    refine (spec_l11Ok _ HO.out hlen).mono ?_; rintro e w1 ⟨rfl, k, rfl⟩; rw [HV.out]; have B1 := Lib.hid (below_drewN w k); have O1 := Lib.hid (show OwnR (w.drewN k) B _ n zs from HO.out)
    go_wp2_with fail
    refine (spec_l00In _ _ _ _).mono ?_; rintro e w2 ⟨rfl, rfl⟩; rw [HI.out]
    go_wp2_with fail
    refine bodyPost_ret (v := .tuple #[.int .i64 0, .int .i64 2]) (by simp [results, Try.results28, go_sem, *]) rfl ?_
    exact ⟨ret_tt HW.out HC.out, B1.out⟩
  obtain ⟨i0, i1⟩ := inB_iff.1 hi
  obtain ⟨a, rfl⟩ := Int.eq_ofNat_of_zero_le i0
  obtain ⟨g, rfl, x0, x1⟩ := Q1.out a (by omega)
  cases hp : opensB (nth zs (a * 2))
  · have HV := Lib.hid hv; have HI := Lib.hid hi; have HP := Lib.hid hp
    have HC := Lib.hid (show mofC zs a = 6 from by unfold mofC; rw [hv, show zs.length / 2 = n by omega, hi, Int.toNat_natCast, hp]; rfl)
    have HW := Lib.hid (show mofV zs a = 0 from by unfold mofV; rw [HC.out]; rfl)
    clear hv hi hp
    go_enter Try.func28, Try.ntmps28
    go_wp2_with fail
    refine (spec_l11Ok _ HO.out hlen).mono ?_; rintro e w1 ⟨rfl, k, rfl⟩; rw [HV.out]; have B1 := Lib.hid (below_drewN w k); have O1 := Lib.hid (show OwnR (w.drewN k) B _ n zs from HO.out)
    go_wp2_with fail
    refine (spec_l00In _ _ _ _).mono ?_; rintro e w2 ⟨rfl, rfl⟩; rw [HI.out]
    go_wp2_with fail
    refine (spec_l11Opens _ _).mono ?_; rintro e w3 ⟨rfl, rfl⟩; rw [HP.out]
    go_wp2_with fail
    refine bodyPost_ret (v := .tuple #[.int .i64 0, .int .i64 6]) (by simp [results, Try.results28, go_sem, *]) rfl ?_
    exact ⟨ret_tt HW.out HC.out, B1.out⟩
  · have HV := Lib.hid hv; have HI := Lib.hid hi; have HP := Lib.hid hp
    have HC := Lib.hid (show mofC zs a = 0 from by unfold mofC; rw [hv, show zs.length / 2 = n by omega, hi, Int.toNat_natCast, hp]; rfl)
    have HW := Lib.hid (show mofV zs a = mtch zs a from by unfold mofV; rw [HC.out, Int.toNat_natCast]; rfl)
    clear hv hi hp
    go_enter Try.func28, Try.ntmps28
    go_wp2_with fail
    refine (spec_l11Ok _ HO.out hlen).mono ?_; rintro e w1 ⟨rfl, k, rfl⟩; rw [HV.out]; have B1 := Lib.hid (below_drewN w k); have O1 := Lib.hid (show OwnR (w.drewN k) B _ n zs from HO.out)
    go_wp2_with fail
    refine (spec_l00In _ _ _ _).mono ?_; rintro e w2 ⟨rfl, rfl⟩; rw [HI.out]
    go_wp2_with fail
    refine (spec_l11Opens _ _).mono ?_; rintro e w3 ⟨rfl, rfl⟩; rw [HP.out]
    go_wp2_with fail
    refine (spec_l11Match a _ O1.out HV.out (by omega) HP.out).mono ?_; rintro e w4 ⟨rfl, rfl⟩
    go_wp2_with fail
    refine bodyPost_ret (v := .tuple #[.int .i64 (mtch zs a), .int .i64 0]) (by simp [results, Try.results28, go_sem, *]) rfl ?_
    exact ⟨ret_tt HW.out HC.out, B1.out⟩
def mostAt (zs : List Int) : Nat → Int
  | 0 => 0
  | j + 1 => imax (mostAt zs j) (dAt zs (j + 1))
def dopV (zs : List Int) : Int := if validP zs then mostAt zs (zs.length / 2) else 0
def dopC (zs : List Int) : Int := if validP zs then 0 else 1
theorem db_valid {op d : Int} (h0 : 0 ≤ d) (h4 : d ≤ 4) (n0 : 0 ≤ nextD op d) (n4 : nextD op d ≤ 4) : dbD op d = nextD op d ∧ dbF op d = 0 := by
  have h := db_next (op := op) h0 h4
  by_cases hf : dbF op d = 0
  · exact ⟨(h.1 hf).1, hf⟩
  · have := h.2 hf; omega
set_option maxHeartbeats 4000000 in
theorem impl_DepthOfProgram {B : Nat} {u : Value} {n : Nat} {zs : List Int} (w : World) (h1 : OwnR w B u n zs) (hlen : n ≤ 1048576) :
    Calls Try.prog 27 #[u] w (RetV w (.tuple #[.int .i64 (dopV zs), .int .i64 (dopC zs)])) := by
  have hz := recr_len h1
  have HO := Lib.hid h1
  obtain ⟨a1, c1, rfl, m1, q1⟩ := recr_form h1
  clear h1
  have Q1 := Lib.hid q1; clear q1
  cases hv : validP zs
  · have HV := Lib.hid hv
    have HC := Lib.hid (show dopC zs = 1 from by simp [dopC, hv])
    have HW := Lib.hid (show dopV zs = 0 from by simp [dopV, hv])
    clear hv
    go_enter Try.func27, Try.ntmps27
    go_wp2_with fail
    refine (impl_ValidProgram _ HO.out hlen).mono ?_; rintro e w1 ⟨rfl, b1⟩; rw [HV.out]; have B1 := Lib.hid b1; have s1 := b1.size; clear b1
    go_wp2_with fail
    refine bodyPost_ret (v := .tuple #[.int .i64 0, .int .i64 1]) (by simp [results, Try.results27, go_sem, *]) rfl ?_
    exact ⟨ret_tt HW.out HC.out, B1.out⟩
  have HV := Lib.hid hv
  have HC := Lib.hid (show dopC zs = 0 from by simp [dopC, hv])
  have HW := Lib.hid (show dopV zs = mostAt zs n from by simp [dopV, hv, show zs.length / 2 = n by omega])
  obtain ⟨v1, v2, v3, v4⟩ := valid_parts hz hv
  have V1 := Lib.hid v1; have V4 := Lib.hid v4
  clear hv v1 v2 v4
  go_enter Try.func27, Try.ntmps27
  go_wp2_with fail
  refine (impl_ValidProgram _ HO.out hlen).mono ?_; rintro e w1 ⟨rfl, b1⟩; rw [HV.out]; have B1 := Lib.hid b1; have s1 := b1.size; clear b1
  go_wp2_with fail
  go_loopw [4, 5, 7, 13] (fun dd mm _ ii wr => ∃ j : Nat, j ≤ n ∧ ii = .int .i64 j ∧ dd = .int .i64 (dAt zs j) ∧ mm = .int .i64 (mostAt zs j) ∧ Below w.heap.size w wr) (fun _ _ _ ii _ => n - (intOf ii).toNat)
  case atStart => exact ⟨0, Nat.zero_le _, rfl, rfl, rfl, B1.out⟩
  case round =>
    obtain ⟨i, hin, rfl, rfl, rfl, hb⟩ := hrel
    by_cases hlt : i < n
    · have hmx : mostAt zs (i + 1) = imax (mostAt zs i) (dAt zs (i + 1)) := rfl
      have hge := imax_ge (mostAt zs i) (dAt zs (i + 1))
      obtain ⟨di0, di4⟩ := (V1.out i (by omega)).2
      have hst := (V4.out i hlt).2
      obtain ⟨dn0, dn4⟩ := (V1.out (i + 1) (by omega)).2
      obtain ⟨e, he⟩ : ∃ e, e = dAt zs (i + 1) := ⟨_, rfl⟩
      obtain ⟨mx, hmx2⟩ : ∃ e, e = mostAt zs (i + 1) := ⟨_, rfl⟩
      rw [← he] at hst dn0 dn4 hmx hge
      rw [← hmx2] at hmx
      generalize dAt zs i = di at *
      generalize mostAt zs i = mi at *
      obtain ⟨g, rfl, x0, x1⟩ := Q1.out i hlt
      have gl : g < w.heap.size := World.block_lt_of_cell? w _ x0
      have r0 := (hb.cell gl).trans x0; have r1 := (hb.cell (World.block_lt_of_cell? w _ x1)).trans x1
      have hsz := hb.size
      have gl2 : g < wr.heap.size := by omega
      have HB := Lib.hid hb
      clear x0 x1 hb
      generalize nth zs (i * 2) = op at *
      generalize nth zs (i * 2 + 1) = ar at *
      have HMX := Lib.hid hmx; have HE := Lib.hid he; have HM2 := Lib.hid hmx2; have HST := Lib.hid hst; have HGE := Lib.hid hge
      clear hmx he hmx2 hst hge
      obtain ⟨db1, db2⟩ := db_valid (op := op) di0 di4 (by rw [← HST.out]; exact dn0) (by rw [← HST.out]; exact dn4)
      rw [← HST.out] at db1
      have DB1 := Lib.hid db1; have DB2 := Lib.hid db2; clear db1 db2
      by_cases hm : mi < e
      · have HX := Lib.hid (show e = mostAt zs (i + 1) from by rw [← HM2.out, HMX.out, imax_pos (by omega)])
        go_wp2_with fail
        refine (impl_depthBehind _ _ _ _ di0 di4).mono ?_; rintro e9 w2 ⟨rfl, b2⟩; rw [DB1.out, DB2.out]
        have B2 := Lib.hid (Below.trans_size (HB.out.alloc HB.out.size _) b2); clear b2
        go_wp2_with fail
        go_roundw
        case rel => exact ⟨i + 1, by omega, by go_num, by rw [HE.out], by first | rw [← HX.out] | (rw [← HX.out]; simp; omega), B2.out⟩
        case measure => first | (simp [intOf]; done) | (simp [intOf]; omega)
      · have HX := Lib.hid (show mi = mostAt zs (i + 1) from by rw [← HM2.out, HMX.out, imax_neg (by omega)])
        go_wp2_with fail
        refine (impl_depthBehind _ _ _ _ di0 di4).mono ?_; rintro e9 w2 ⟨rfl, b2⟩; rw [DB1.out, DB2.out]
        have B2 := Lib.hid (Below.trans_size (HB.out.alloc HB.out.size _) b2); clear b2
        go_wp2_with fail
        go_roundw
        case rel => exact ⟨i + 1, by omega, by go_num, by rw [HE.out], by first | rw [← HX.out] | (rw [← HX.out]; simp; omega), B2.out⟩
        case measure => first | (simp [intOf]; done) | (simp [intOf]; omega)
    · obtain rfl : i = n := by omega
      have HB := Lib.hid hb; clear hb
      generalize mostAt zs i = mi at *
      go_wp2_with fail
      refine bodyPost_ret (v := .tuple #[.int .i64 mi, .int .i64 0]) (by simp [results, Try.results27, go_sem, *]) rfl ?_
      exact ⟨ret_tt HW.out HC.out, HB.out⟩
set_option maxHeartbeats 4000000 in
theorem spec_DepthOfProgram {B : Nat} {u : Value} {n : Nat} {zs : List Int} (w : World) (h1 : OwnR w B u n zs) (hlen : n ≤ 1048576) :
    Calls Try.prog 26 #[u] w (RetV w (.tuple #[.int .i64 (dopV zs), .int .i64 (dopC zs)])) := by
  have hz := recr_len h1
  have HO := Lib.hid h1
  obtain ⟨a1, c1, rfl, m1, q1⟩ := recr_form h1
  clear h1
  have Q1 := Lib.hid q1; clear q1
  cases hv : validP zs
  · have HV := Lib.hid hv
    have HC := Lib.hid (show dopC zs = 1 from by simp [dopC, hv])
    have HW := Lib.hid (show dopV zs = 0 from by simp [dopV, hv])
    clear hv
    go_enter Try.func26, Try.ntmps26
    go_wp2_with fail
    refine (spec_l11Ok _ HO.out hlen).mono ?_; rintro e w1 ⟨rfl, k, rfl⟩; rw [HV.out]; have B1 := Lib.hid (below_drewN w k)
    go_wp2_with fail
    refine bodyPost_ret (v := .tuple #[.int .i64 0, .int .i64 1]) (by simp [results, Try.results26, go_sem, *]) rfl ?_
    exact ⟨ret_tt HW.out HC.out, B1.out⟩
  have HV := Lib.hid hv
  have HC := Lib.hid (show dopC zs = 0 from by simp [dopC, hv])
  have HW := Lib.hid (show dopV zs = mostAt zs n from by simp [dopV, hv, show zs.length / 2 = n by omega])
  obtain ⟨v1, v2, v3, v4⟩ := valid_parts hz hv
  have V1 := Lib.hid v1; have V4 := Lib.hid v4
  clear hv v1 v2 v4
  go_enter Try.func26, Try.ntmps26
  go_wp2_with fail
  refine (spec_l11Ok _ HO.out hlen).mono ?_; rintro e w1 ⟨rfl, k, rfl⟩; rw [HV.out]; have B1 := Lib.hid (below_drewN w k)
  go_wp2_with fail
  go_loop [4, 5, 6] (fun dd mm ii => ∃ j : Nat, j ≤ n ∧ ii = .int .i64 j ∧ dd = .int .i64 (dAt zs j) ∧ mm = .int .i64 (mostAt zs j)) (fun _ _ ii => n - (intOf ii).toNat)
  case atStart => exact ⟨0, Nat.zero_le _, rfl, rfl, rfl⟩
  case round =>
    obtain ⟨i, hin, rfl, rfl, rfl⟩ := hrel
    by_cases hlt : i < n
    · have hmx : mostAt zs (i + 1) = imax (mostAt zs i) (dAt zs (i + 1)) := rfl
      have hge := imax_ge (mostAt zs i) (dAt zs (i + 1))
      obtain ⟨di0, di4⟩ := (V1.out i (by omega)).2
      have hst := (V4.out i hlt).2
      obtain ⟨dn0, dn4⟩ := (V1.out (i + 1) (by omega)).2
      obtain ⟨e, he⟩ : ∃ e, e = dAt zs (i + 1) := ⟨_, rfl⟩
      obtain ⟨mx, hmx2⟩ : ∃ e, e = mostAt zs (i + 1) := ⟨_, rfl⟩
      rw [← he] at hst dn0 dn4 hmx hge
      rw [← hmx2] at hmx
      generalize dAt zs i = di at *
      generalize mostAt zs i = mi at *
      obtain ⟨g, rfl, x0, x1⟩ := Q1.out i hlt
      clear x1
      generalize nth zs (i * 2) = op at *
      generalize nth zs (i * 2 + 1) = ar at *
      have HMX := Lib.hid hmx; have HE := Lib.hid he; have HM2 := Lib.hid hmx2; have HST := Lib.hid hst; have HGE := Lib.hid hge
      clear hmx he hmx2 hst hge
      cases hp : opensB op
      · have HP := Lib.hid hp
        by_cases h10 : op = 10
        · have HDL := Lib.hid (show e = di - 1 from by rw [HST.out, nextD_of.2.1 h10])
          subst h10
          clear hp
          go_wp2_with fail
          refine (spec_l11Opens _ _).mono ?_; rintro e9 w2 ⟨rfl, rfl⟩; rw [HP.out]
          go_wp2_with fail
          refine (spec_l00Max _ _ _).mono ?_; rintro e9 w2 ⟨rfl, rfl⟩
          go_wp2_with fail
          go_round
          case rel => exact ⟨i + 1, by omega, by go_num, by rw [← HE.out]; first | rfl | (congr 1; exact HDL.out.symm) | (congr 1; have := HDL.out; omega), by rw [← HM2.out, HMX.out]; first | rfl | (congr 2; exact HDL.out.symm) | (congr 2; have := HDL.out; omega)⟩
          case measure => first | (simp [intOf]; done) | (simp [intOf]; omega)
        · have HDL := Lib.hid (show e = di from by rw [HST.out, nextD_of.2.2 hp h10])
          clear hp
          go_wp2_with fail
          refine (spec_l11Opens _ _).mono ?_; rintro e9 w2 ⟨rfl, rfl⟩; rw [HP.out]
          go_wp2_with fail
          refine (spec_l00Max _ _ _).mono ?_; rintro e9 w2 ⟨rfl, rfl⟩
          go_wp2_with fail
          go_round
          case rel => exact ⟨i + 1, by omega, by go_num, by rw [← HE.out]; first | rfl | (congr 1; exact HDL.out.symm) | (congr 1; have := HDL.out; omega), by rw [← HM2.out, HMX.out]; first | rfl | (congr 2; exact HDL.out.symm) | (congr 2; have := HDL.out; omega)⟩
          case measure => first | (simp [intOf]; done) | (simp [intOf]; omega)
      · have HP := Lib.hid hp
        have h10 : ¬ op = 10 := by rintro rfl; cases hp
        have HDL := Lib.hid (show e = di + 1 from by rw [HST.out, nextD_of.1 hp])
        clear hp
        go_wp2_with fail
        refine (spec_l11Opens _ _).mono ?_; rintro e9 w2 ⟨rfl, rfl⟩; rw [HP.out]
        go_wp2_with fail
        refine (spec_l00Max _ _ _).mono ?_; rintro e9 w2 ⟨rfl, rfl⟩
        go_wp2_with fail
        go_round
        case rel => exact ⟨i + 1, by omega, by go_num, by rw [← HE.out]; first | rfl | (congr 1; exact HDL.out.symm) | (congr 1; have := HDL.out; omega), by rw [← HM2.out, HMX.out]; first | rfl | (congr 2; exact HDL.out.symm) | (congr 2; have := HDL.out; omega)⟩
        case measure => first | (simp [intOf]; done) | (simp [intOf]; omega)
    · obtain rfl : i = n := by omega
      generalize mostAt zs i = mi at *
      go_wp2_with fail
      refine bodyPost_ret (v := .tuple #[.int .i64 mi, .int .i64 0]) (by simp [results, Try.results26, go_sem, *]) rfl ?_
      exact ⟨ret_tt HW.out HC.out, B1.out⟩
end Go.Proofs.Ytaipfcbphfjgoaa
