/- TableWitness of the reference. -/
import Derived.IntWalk
import Derived.Deep.RegionLaw
import Derived.Deep.Cut
import Derived.Deep.CutRange
import Derived.Deep.CutBlock
import Derived.Test.YtkhjmokjbiepgaaTwt
namespace Go.Proofs.Ytkhjmokjbiepgaa
open Go.ChangeShapes Go.WideShapes Go.ChangeAt Go.RowKit
theorem al_last {w : World} {A : Obj} {k : Nat} (h : k = w.heap.size) : (w.alloc A).heap[k]? = some A := by rw [h]; exact heap_last w A
theorem al_k {w : World} {A O : Obj} {k : Nat} (h : w.heap[k]? = some O) : (w.alloc A).heap[k]? = some O := (Below.heap_alloc w A k (Array.getElem?_eq_some_iff.1 h).1).trans h
set_option maxHeartbeats 4000000 in
theorem spec_TableWitness {B n : Nat} {u : Value} {xs : List Int} (b : Int) (w : World) (h1 : OwnR w B u n xs) (hlen : n ≤ 1048576) :
    Calls Try.prog 19 #[.int .i64 b, u] w (RetRegs w (twB b xs) (twX b xs) (twY b xs) (twC b xs)) := by
  have hz := recr_len h1
  have HO := Lib.hid h1; clear h1
  by_cases hc : tfC b xs = 0
  rotate_left
  · have hC : twC b xs = tfC b xs := by unfold twC; rw [if_neg hc]
    have hC0 : ¬ twC b xs = 0 := by rw [hC]; exact hc
    rw [show twB b xs = 0 from if_neg hC0, show twX b xs = [] from if_neg hC0, show twY b xs = [] from if_neg hC0, hC]
    have HC := Lib.hid (fun wx h => spec_l08Code (n := n) (u := u) (B := B) (xs := xs) b wx h hlen)
    clear hC hC0
    generalize hcc : tfC b xs = cc at *
    have HCC := Lib.hid hcc; clear hcc
    have hne : (cc != 0) = true := by simp [hc]
    clear hc
    go_enter Try.func19, Try.ntmps19
    go_wp2_with fail
    refine (HC.out _ (recr_alloc (recr_alloc HO.out _) _)).mono ?_; rintro e w1 ⟨rfl, b1⟩
    obtain ⟨y0, y1, bw, s1, -⟩ := blk2 b1
    have c0 := cell_blk y0 0; have c1 := cell_blk y0 1; have c2 := cell_blk y1 0; have c3 := cell_blk y1 1
    have f0 := frozen_blk y0 0; have f1 := frozen_blk y0 1; have f2 := frozen_blk y1 0; have f3 := frozen_blk y1 1
    have BW := Lib.hid bw; clear b1 bw y0 y1
    go_wp2_with fail
    refine bodyPost_ret (v := .tuple #[.agg #[.int .i64 0, .slice none 0 0], .agg #[.int .i64 0, .slice none 0 0], .int .i64 cc]) (by simp [results, Try.results19, go_sem, *]) rfl ?_
    exact ⟨_, _, rfl, own_nil, own_nil, apart_nn _ _ rfl, by first | exact (((BW.out.setCell (by simp) _).setCell (by simp) _).setCell (by simp) _).setCell (by simp) _ | exact BW.out⟩
  obtain ⟨m, rfl, m2, m16, hn, hV⟩ := tf_parts hz hc
  have HC := Lib.hid hc
  have HNN := Lib.hid hn
  by_cases hw0 : wrF xs (rtL m n) n 0 < 0
  · have hC : twC (m : Int) xs = 3 := by unfold twC; rw [if_pos hc, hV, if_pos hw0]
    have hC0 : ¬ twC (m : Int) xs = 0 := by rw [hC]; omega
    rw [show twB (m : Int) xs = 0 from if_neg hC0, show twX (m : Int) xs = [] from if_neg hC0, show twY (m : Int) xs = [] from if_neg hC0, hC]
    clear hC hC0 hn hc hV
    go_enter Try.func19, Try.ntmps19
    go_wp2_with fail
    refine (spec_l08Code _ _ (recr_alloc (recr_alloc HO.out _) _) hlen).mono ?_; rintro e w1 ⟨rfl, b1⟩; rw [HC.out]
    obtain ⟨y0, y1, bw, s1, -⟩ := blk2 b1
    have Y0 := Lib.hid y0; have Y1 := Lib.hid y1; have BW := Lib.hid bw
    have O1 := Lib.hid (recr_keep b1 (recr_alloc (recr_alloc HO.out _) _))
    clear b1 bw y0 y1
    go_wp2_with fail
    refine (spec_l08Wrong m _ O1.out HNN.out m2 m16).mono ?_; rintro e w2 ⟨rfl, b2⟩
    have y0 := (b2.block _ (Array.getElem?_eq_some_iff.1 Y0.out).1).trans Y0.out
    have y1 := (b2.block _ (Array.getElem?_eq_some_iff.1 Y1.out).1).trans Y1.out
    have c0 := cell_blk y0 0; have c1 := cell_blk y0 1; have c2 := cell_blk y1 0; have c3 := cell_blk y1 1
    have f0 := frozen_blk y0 0; have f1 := frozen_blk y0 1; have f2 := frozen_blk y1 0; have f3 := frozen_blk y1 1
    have BW2 := Lib.hid (Below.trans_size BW.out b2); clear b2 y0 y1
    generalize wrF xs (rtL m n) n 0 = W at *
    go_wp2_with fail
    refine bodyPost_ret (v := .tuple #[.agg #[.int .i64 0, .slice none 0 0], .agg #[.int .i64 0, .slice none 0 0], .int .i64 3]) (by simp [results, Try.results19, go_sem, *]) rfl ?_
    exact ⟨_, _, rfl, own_nil, own_nil, apart_nn _ _ rfl, by first | exact (((BW2.out.setCell (by simp) _).setCell (by simp) _).setCell (by simp) _).setCell (by simp) _ | exact BW2.out⟩
  have hr : 0 ≤ wrF xs (rtL m n) n 0 ∧ wrF xs (rtL m n) n 0 < n := by
    rcases wrF_range xs (rtL m n) n 0 with h | h <;> omega
  have hC : twC (m : Int) xs = 0 := by unfold twC; rw [if_pos hc, hV, if_neg hw0]
  obtain ⟨k, hk⟩ := Int.eq_ofNat_of_zero_le hr.1
  have HB := Lib.hid (show twB (m : Int) xs = m from if_pos hC)
  have HX := Lib.hid (show twX (m : Int) xs = if nth xs (k * 5) = 1 then [(m : Int) - 1, nth xs (k * 5 + 1)] else [nth xs (k * 5 + 1)] from by unfold twX; rw [if_pos hC, hV, hk, Int.toNat_natCast])
  have HY := Lib.hid (show twY (m : Int) xs = if nth xs (k * 5) = 1 then [1, nth xs (k * 5 + 2)] else [nth xs (k * 5 + 2)] from by unfold twY; rw [if_pos hC, hV, hk, Int.toNat_natCast])
  have HCC := Lib.hid hC
  have HK := Lib.hid hk
  have kn : k < n := by omega
  clear hC hn hc hV hw0 hr hk
  by_cases h1 : nth xs (k * 5) = 1
  · have HX1 := Lib.hid (show twX (m : Int) xs = [(m : Int) - 1, nth xs (k * 5 + 1)] from by rw [HX.out, if_pos h1])
    have HY1 := Lib.hid (show twY (m : Int) xs = [1, nth xs (k * 5 + 2)] from by rw [HY.out, if_pos h1])
    have e1 : (nth xs (k * 5) == 1) = true := by simp [h1]
    clear h1
    go_enter Try.func19, Try.ntmps19
    go_wp2_with fail
    refine (spec_l08Code _ _ (recr_alloc (recr_alloc HO.out _) _) hlen).mono ?_; rintro e w1 ⟨rfl, b1⟩; rw [HC.out]
    obtain ⟨y0, y1, bw, s1, -⟩ := blk2 b1
    have Y0 := Lib.hid y0; have Y1 := Lib.hid y1; have BW := Lib.hid bw
    have O1 := Lib.hid (recr_keep b1 (recr_alloc (recr_alloc HO.out _) _))
    clear b1 bw y0 y1
    go_wp2_with fail
    refine (spec_l08Wrong m _ O1.out HNN.out m2 m16).mono ?_; rintro e w2 ⟨rfl, b2⟩; rw [HK.out]
    have y0 := (b2.block _ (Array.getElem?_eq_some_iff.1 Y0.out).1).trans Y0.out
    have y1 := (b2.block _ (Array.getElem?_eq_some_iff.1 Y1.out).1).trans Y1.out
    have c0 := cell_blk y0 0; have c1 := cell_blk y0 1; have c2 := cell_blk y1 0; have c3 := cell_blk y1 1
    have f0 := frozen_blk y0 0; have f1 := frozen_blk y0 1; have f2 := frozen_blk y1 0; have f3 := frozen_blk y1 1
    obtain ⟨a1, cp1, rfl, -, qq⟩ := rows5_of (recr_keep b2 O1.out)
    obtain ⟨gx, rfl, lx, p0, p1, p2, p3, p4⟩ := qq k kn
    have BW2 := Lib.hid (Below.trans_size BW.out b2); have s2 := b2.size
    have l0 : w.heap.size < w2.heap.size := by omega
    have l1 : w.heap.size + 1 < w2.heap.size := by omega
    clear b2 y0 y1 qq
    generalize nth xs (k * 5) = x0 at *
    generalize nth xs (k * 5 + 1) = x1 at *
    generalize nth xs (k * 5 + 2) = x2 at *
    generalize nth xs (k * 5 + 3) = x3 at *
    generalize nth xs (k * 5 + 4) = x4 at *
    have i0 : (0 : Int) ≤ (k : Int) := by omega
    have i1 : (k : Int) < (n : Int) := by omega
    have yr : True := trivial
    have wm : IntKind.i64.wrap ((m : Int) - 1) = (m : Int) - 1 := IntWalk.i64_in _ (by omega)
    go_upto_region 13 with fail
    generalize hW : ((((((w2.alloc (.cells #[.int .i64 x0, .int .i64 x1, .int .i64 x2, .int .i64 x3, .int .i64 x4] 69)).alloc (.cells #[.int .i64 x1] 2)).alloc (.cells #[.int .i64 (m : Int), .slice (some ⟨w2.heap.size + 1 + 1 + 1 + 1 + 1, 0, none⟩) 2 2] 41)).alloc (.cells #[.int .i64 x2] 2)).alloc (.cells #[.int .i64 (m : Int), .slice (some ⟨w2.heap.size + 1 + 1 + 1 + 1 + 1 + 1, 0, none⟩) 2 2] 41)).alloc (.cells #[.int .i64 ((m : Int) - 1), .int .i64 (x1)] 2)).alloc (.cells #[.int .i64 (1), .int .i64 (x2)] 2) = wx
    have hb : Below w2.heap.size w2 wx := by
      rw [← hW]; exact (((((((Below.refl _ _).alloc (Nat.le_refl _) _).alloc (by simp <;> omega) _).alloc (by simp <;> omega) _).alloc (by simp <;> omega) _).alloc (by simp <;> omega) _).alloc (by simp <;> omega) _).alloc (by simp <;> omega) _
    have ya : wx.heap[w2.heap.size + 1 + 1 + 1 + 1 + 1]? = some (.cells #[.int .i64 ((m : Int) - 1), .int .i64 (x1)] 2) := by rw [← hW]; exact al_k (al_last (by simp))
    have yb : wx.heap[w2.heap.size + 1 + 1 + 1 + 1 + 1 + 1]? = some (.cells #[.int .i64 (1), .int .i64 (x2)] 2) := by rw [← hW]; exact al_last (by simp)
    have yx : wx.heap[w2.heap.size + 1 + 1]? = some (.cells #[.int .i64 (m : Int), .slice (some ⟨w2.heap.size + 1 + 1 + 1 + 1 + 1, 0, none⟩) 2 2] 41) := by rw [← hW]; exact al_k (al_k (al_k (al_k (al_last (by simp)))))
    have yy : wx.heap[w2.heap.size + 1 + 1 + 1 + 1]? = some (.cells #[.int .i64 (m : Int), .slice (some ⟨w2.heap.size + 1 + 1 + 1 + 1 + 1 + 1, 0, none⟩) 2 2] 41) := by rw [← hW]; exact al_k (al_k (al_last (by simp)))
    clear hW
    have neab : ¬ w2.heap.size + 1 + 1 + 1 + 1 + 1 = w2.heap.size + 1 + 1 + 1 + 1 + 1 + 1 := by omega
    have lga : w2.heap.size ≤ w2.heap.size + 1 + 1 + 1 + 1 + 1 := by omega
    have lgb : w2.heap.size ≤ w2.heap.size + 1 + 1 + 1 + 1 + 1 + 1 := by omega
    have lgx2 : w2.heap.size ≤ w2.heap.size + 1 + 1 := by omega
    have lgy : w2.heap.size ≤ w2.heap.size + 1 + 1 + 1 + 1 := by omega
    generalize w2.heap.size + 1 + 1 + 1 + 1 + 1 + 1 = gb at *
    generalize w2.heap.size + 1 + 1 + 1 + 1 + 1 = ga at *
    generalize w2.heap.size + 1 + 1 + 1 + 1 = gy at *
    generalize w2.heap.size + 1 + 1 = gx2 at *
    have k0 := (hb.cell (p := ⟨w.heap.size, 0, none⟩) (by show w.heap.size < _; omega)).trans c0; have k1 := (hb.cell (p := ⟨w.heap.size, 1, none⟩) (by show w.heap.size < _; omega)).trans c1; have k2 := (hb.cell (p := ⟨w.heap.size + 1, 0, none⟩) (by show w.heap.size + 1 < _; omega)).trans c2; have k3 := (hb.cell (p := ⟨w.heap.size + 1, 1, none⟩) (by show w.heap.size + 1 < _; omega)).trans c3
    have m0 := (hb.frozen (p := ⟨w.heap.size, 0, none⟩) (by show w.heap.size < _; omega)).trans f0; have m1 := (hb.frozen (p := ⟨w.heap.size, 1, none⟩) (by show w.heap.size < _; omega)).trans f1; have m2' := (hb.frozen (p := ⟨w.heap.size + 1, 0, none⟩) (by show w.heap.size + 1 < _; omega)).trans f2; have m3 := (hb.frozen (p := ⟨w.heap.size + 1, 1, none⟩) (by show w.heap.size + 1 < _; omega)).trans f3
    have BWX := Lib.hid (Below.trans_size BW2.out hb); have sx := hb.size
    clear c0 c1 c2 c3 f0 f1 f2 f3 BW2 hb
    have c0 := k0; have c1 := k1; have c2 := k2; have c3 := k3; have f0 := m0; have f1 := m1; have f2 := m2'; have f3 := m3; have BW2 := BWX; clear k0 k1 k2 k3 m0 m1 m2' m3 BWX
    have v0 := cell_blk yx 0; have v1 := cell_blk yx 1; have v2 := cell_blk yy 0; have v3 := cell_blk yy 1
    have YA := Lib.hid ya; have YB := Lib.hid yb; clear ya yb yx yy
    have na : ¬ ga = w.heap.size := by omega
    have na1 : ¬ ga = w.heap.size + 1 := by omega
    have nb : ¬ gb = w.heap.size := by omega
    have nb1 : ¬ gb = w.heap.size + 1 := by omega
    have nx : ¬ gx2 = w.heap.size := by omega
    have nx1 : ¬ gx2 = w.heap.size + 1 := by omega
    have ny : ¬ gy = w.heap.size := by omega
    have ny1 : ¬ gy = w.heap.size + 1 := by omega
    clear p0 p1 p2 p3 p4
    go_region_law ((fail))
    all_goals (
    go_wp2_with fail
    refine bodyPost_ret (v := .tuple #[.agg #[.int .i64 (m : Int), .slice (some ⟨ga, 0, none⟩) 2 2], .agg #[.int .i64 (m : Int), .slice (some ⟨gb, 0, none⟩) 2 2], .int .i64 0]) (by simp [results, Try.results19, go_sem, *]) rfl ?_
    rw [HB.out, HX1.out, HY1.out, HCC.out]
    first | exact ⟨_, _, rfl, own_lit (tw_keep (tw_keep (tw_keep (tw_keep YA.out na) na) na1) na1) rfl (by omega) (by simp), own_lit (tw_keep (tw_keep (tw_keep (tw_keep YB.out nb) nb) nb1) nb1) rfl (by omega) (by simp), fun _ hk hk2 => neab (Option.some.inj (hk.trans hk2.symm)), ((((BW2.out.setCell (by simp) _).setCell (by simp) _).setCell (by simp) _).setCell (by simp) _).drew⟩ | exact ⟨_, _, rfl, own_lit (tw_keep (tw_keep (tw_keep (tw_keep YA.out na1) na1) na) na) rfl (by omega) (by simp), own_lit (tw_keep (tw_keep (tw_keep (tw_keep YB.out nb1) nb1) nb) nb) rfl (by omega) (by simp), fun _ hk hk2 => neab (Option.some.inj (hk.trans hk2.symm)), ((((BW2.out.setCell (by simp) _).setCell (by simp) _).setCell (by simp) _).setCell (by simp) _).drew⟩)
  · have HX1 := Lib.hid (show twX (m : Int) xs = [nth xs (k * 5 + 1)] from by rw [HX.out, if_neg h1])
    have HY1 := Lib.hid (show twY (m : Int) xs = [nth xs (k * 5 + 2)] from by rw [HY.out, if_neg h1])
    have e1 : (nth xs (k * 5) == 1) = false := by simp [h1]
    clear h1
    go_enter Try.func19, Try.ntmps19
    go_wp2_with fail
    refine (spec_l08Code _ _ (recr_alloc (recr_alloc HO.out _) _) hlen).mono ?_; rintro e w1 ⟨rfl, b1⟩; rw [HC.out]
    obtain ⟨y0, y1, bw, s1, -⟩ := blk2 b1
    have Y0 := Lib.hid y0; have Y1 := Lib.hid y1; have BW := Lib.hid bw
    have O1 := Lib.hid (recr_keep b1 (recr_alloc (recr_alloc HO.out _) _))
    clear b1 bw y0 y1
    go_wp2_with fail
    refine (spec_l08Wrong m _ O1.out HNN.out m2 m16).mono ?_; rintro e w2 ⟨rfl, b2⟩; rw [HK.out]
    have y0 := (b2.block _ (Array.getElem?_eq_some_iff.1 Y0.out).1).trans Y0.out
    have y1 := (b2.block _ (Array.getElem?_eq_some_iff.1 Y1.out).1).trans Y1.out
    have c0 := cell_blk y0 0; have c1 := cell_blk y0 1; have c2 := cell_blk y1 0; have c3 := cell_blk y1 1
    have f0 := frozen_blk y0 0; have f1 := frozen_blk y0 1; have f2 := frozen_blk y1 0; have f3 := frozen_blk y1 1
    obtain ⟨a1, cp1, rfl, -, qq⟩ := rows5_of (recr_keep b2 O1.out)
    obtain ⟨gx, rfl, lx, p0, p1, p2, p3, p4⟩ := qq k kn
    have BW2 := Lib.hid (Below.trans_size BW.out b2); have s2 := b2.size
    have l0 : w.heap.size < w2.heap.size := by omega
    have l1 : w.heap.size + 1 < w2.heap.size := by omega
    clear b2 y0 y1 qq
    generalize nth xs (k * 5) = x0 at *
    generalize nth xs (k * 5 + 1) = x1 at *
    generalize nth xs (k * 5 + 2) = x2 at *
    generalize nth xs (k * 5 + 3) = x3 at *
    generalize nth xs (k * 5 + 4) = x4 at *
    have i0 : (0 : Int) ≤ (k : Int) := by omega
    have i1 : (k : Int) < (n : Int) := by omega
    have yr : True := trivial
    have wm : IntKind.i64.wrap ((m : Int) - 1) = (m : Int) - 1 := IntWalk.i64_in _ (by omega)
    go_upto_region 13 with fail
    generalize hW : ((((w2.alloc (.cells #[.int .i64 x0, .int .i64 x1, .int .i64 x2, .int .i64 x3, .int .i64 x4] 69)).alloc (.cells #[.int .i64 (x1)] 2)).alloc (.cells #[.int .i64 (m : Int), .slice (some ⟨w2.heap.size + 1, 0, none⟩) 1 1] 41)).alloc (.cells #[.int .i64 (x2)] 2)).alloc (.cells #[.int .i64 (m : Int), .slice (some ⟨w2.heap.size + 1 + 1 + 1, 0, none⟩) 1 1] 41) = wx
    have hb : Below w2.heap.size w2 wx := by
      rw [← hW]; exact (((((Below.refl _ _).alloc (Nat.le_refl _) _).alloc (by simp <;> omega) _).alloc (by simp <;> omega) _).alloc (by simp <;> omega) _).alloc (by simp <;> omega) _
    have ya : wx.heap[w2.heap.size + 1]? = some (.cells #[.int .i64 (x1)] 2) := by rw [← hW]; exact al_k (al_k (al_k (al_last (by simp))))
    have yb : wx.heap[w2.heap.size + 1 + 1 + 1]? = some (.cells #[.int .i64 (x2)] 2) := by rw [← hW]; exact al_k (al_last (by simp))
    have yx : wx.heap[w2.heap.size + 1 + 1]? = some (.cells #[.int .i64 (m : Int), .slice (some ⟨w2.heap.size + 1, 0, none⟩) 1 1] 41) := by rw [← hW]; exact al_k (al_k (al_last (by simp)))
    have yy : wx.heap[w2.heap.size + 1 + 1 + 1 + 1]? = some (.cells #[.int .i64 (m : Int), .slice (some ⟨w2.heap.size + 1 + 1 + 1, 0, none⟩) 1 1] 41) := by rw [← hW]; exact al_last (by simp)
    clear hW
    have neab : ¬ w2.heap.size + 1 = w2.heap.size + 1 + 1 + 1 := by omega
    have lga : w2.heap.size ≤ w2.heap.size + 1 := by omega
    have lgb : w2.heap.size ≤ w2.heap.size + 1 + 1 + 1 := by omega
    have lgx2 : w2.heap.size ≤ w2.heap.size + 1 + 1 := by omega
    have lgy : w2.heap.size ≤ w2.heap.size + 1 + 1 + 1 + 1 := by omega
    generalize w2.heap.size + 1 + 1 + 1 + 1 = gy at *
    generalize w2.heap.size + 1 + 1 + 1 = gb at *
    generalize w2.heap.size + 1 + 1 = gx2 at *
    generalize w2.heap.size + 1 = ga at *
    have k0 := (hb.cell (p := ⟨w.heap.size, 0, none⟩) (by show w.heap.size < _; omega)).trans c0; have k1 := (hb.cell (p := ⟨w.heap.size, 1, none⟩) (by show w.heap.size < _; omega)).trans c1; have k2 := (hb.cell (p := ⟨w.heap.size + 1, 0, none⟩) (by show w.heap.size + 1 < _; omega)).trans c2; have k3 := (hb.cell (p := ⟨w.heap.size + 1, 1, none⟩) (by show w.heap.size + 1 < _; omega)).trans c3
    have m0 := (hb.frozen (p := ⟨w.heap.size, 0, none⟩) (by show w.heap.size < _; omega)).trans f0; have m1 := (hb.frozen (p := ⟨w.heap.size, 1, none⟩) (by show w.heap.size < _; omega)).trans f1; have m2' := (hb.frozen (p := ⟨w.heap.size + 1, 0, none⟩) (by show w.heap.size + 1 < _; omega)).trans f2; have m3 := (hb.frozen (p := ⟨w.heap.size + 1, 1, none⟩) (by show w.heap.size + 1 < _; omega)).trans f3
    have BWX := Lib.hid (Below.trans_size BW2.out hb); have sx := hb.size
    clear c0 c1 c2 c3 f0 f1 f2 f3 BW2 hb
    have c0 := k0; have c1 := k1; have c2 := k2; have c3 := k3; have f0 := m0; have f1 := m1; have f2 := m2'; have f3 := m3; have BW2 := BWX; clear k0 k1 k2 k3 m0 m1 m2' m3 BWX
    have v0 := cell_blk yx 0; have v1 := cell_blk yx 1; have v2 := cell_blk yy 0; have v3 := cell_blk yy 1
    have YA := Lib.hid ya; have YB := Lib.hid yb; clear ya yb yx yy
    have na : ¬ ga = w.heap.size := by omega
    have na1 : ¬ ga = w.heap.size + 1 := by omega
    have nb : ¬ gb = w.heap.size := by omega
    have nb1 : ¬ gb = w.heap.size + 1 := by omega
    have nx : ¬ gx2 = w.heap.size := by omega
    have nx1 : ¬ gx2 = w.heap.size + 1 := by omega
    have ny : ¬ gy = w.heap.size := by omega
    have ny1 : ¬ gy = w.heap.size + 1 := by omega
    clear p0 p1 p2 p3 p4
    go_region_law ((fail))
    all_goals (
    go_wp2_with fail
    refine bodyPost_ret (v := .tuple #[.agg #[.int .i64 (m : Int), .slice (some ⟨ga, 0, none⟩) 1 1], .agg #[.int .i64 (m : Int), .slice (some ⟨gb, 0, none⟩) 1 1], .int .i64 0]) (by simp [results, Try.results19, go_sem, *]) rfl ?_
    rw [HB.out, HX1.out, HY1.out, HCC.out]
    first | exact ⟨_, _, rfl, own_lit (tw_keep (tw_keep (tw_keep (tw_keep YA.out na) na) na1) na1) rfl (by omega) (by simp), own_lit (tw_keep (tw_keep (tw_keep (tw_keep YB.out nb) nb) nb1) nb1) rfl (by omega) (by simp), fun _ hk hk2 => neab (Option.some.inj (hk.trans hk2.symm)), ((((BW2.out.setCell (by simp) _).setCell (by simp) _).setCell (by simp) _).setCell (by simp) _).drew⟩ | exact ⟨_, _, rfl, own_lit (tw_keep (tw_keep (tw_keep (tw_keep YA.out na1) na1) na) na) rfl (by omega) (by simp), own_lit (tw_keep (tw_keep (tw_keep (tw_keep YB.out nb1) nb1) nb) nb) rfl (by omega) (by simp), fun _ hk hk2 => neab (Option.some.inj (hk.trans hk2.symm)), ((((BW2.out.setCell (by simp) _).setCell (by simp) _).setCell (by simp) _).setCell (by simp) _).drew⟩)
end Go.Proofs.Ytkhjmokjbiepgaa
