/- WitnessOf of the program. -/
import Derived.IntWalk
import Derived.Deep.RegionLaw
import Derived.Deep.QuietTactic
import Derived.BigQuiet
import Derived.Test.YtkhjmokjbiepgaaWf
import Derived.Test.YtkhjmokjbiepgaaWib
namespace Go.Proofs.Ytkhjmokjbiepgaa
open Go.ChangeShapes Go.WideShapes Go.ChangeAt Go.RowKit
theorem impl_isFault (wd k l : Int) (w : World) (h0 : -1000000 ≤ wd) (h1 : wd ≤ 1000000) :
    Calls Try.prog 57 #[.int .i64 wd, .agg #[.int .i64 k, .int .i64 l]] w (RetV w (.bool (inB k 1 3 && inB l 0 (wd - 1)))) := by
  cases h : inB k 1 3
  · have HF := Lib.hid h; clear h
    go_enter Try.func57, Try.ntmps57
    go_wp2_with fail
    refine (impl_between _ _ _ _).mono ?_; rintro e w' ⟨rfl, rfl⟩; rw [HF.out]
    go_wp2_with fail
    go_ret
    exact ⟨rfl, (Below.refl _ _).alloc (Nat.le_refl _) _⟩
  · have HF := Lib.hid h; clear h
    go_enter Try.func57, Try.ntmps57
    go_wp2_with fail
    refine (impl_between _ _ _ _).mono ?_; rintro e w' ⟨rfl, rfl⟩; rw [HF.out]
    go_wp2_with fail
    refine (impl_between _ _ _ _).mono ?_; rintro e w' ⟨rfl, rfl⟩
    go_wp2_with fail
    go_ret
    exact ⟨by first | rfl | (simp; done) | simp, (Below.refl _ _).alloc (Nat.le_refl _) _⟩
set_option maxHeartbeats 2000000 in
set_option maxRecDepth 100000 in
theorem impl_WitnessOf_bad (b wd kd lv : Int) (w : World) (hg : wiG b wd kd lv = false) :
    Calls Try.prog 29 #[.int .i64 b, .int .i64 wd, .agg #[.int .i64 kd, .int .i64 lv]] w (RetRegs w (wiB b wd kd lv) (wiX b wd kd lv) (wiY b wd kd lv) (wiC b wd kd lv)) := by
  have hC : wiC b wd kd lv = 2 := by unfold wiC; rw [hg]; rfl
  have hC0 : ¬ wiC b wd kd lv = 0 := by rw [hC]; omega
  rw [show wiB b wd kd lv = 0 from if_neg hC0, show wiX b wd kd lv = [] from if_neg hC0, show wiY b wd kd lv = [] from if_neg hC0, hC]
  clear hC hC0
  have ENDQ : True := trivial
  cases hb : inB b 2 16
  · have HB := Lib.hid hb; clear hb hg
    go_enter Try.func29, Try.ntmps29
    go_wp2_with fail
    refine (impl_isBase _ _).mono ?_; rintro e w1 ⟨rfl, rfl⟩; rw [HB.out]
    go_wp2_with fail
    refine bodyPost_ret (v := .tuple #[.agg #[.int .i64 0, .slice none 0 0], .agg #[.int .i64 0, .slice none 0 0], .int .i64 2]) (by simp [results, Try.results29, go_sem, *]) rfl ?_
    exact ⟨_, _, rfl, own_nil, own_nil, apart_nn _ _ rfl, (((Below.refl _ _).alloc (Nat.le_refl _) _).alloc (by simp) _).alloc (by simp; omega) _⟩
  cases hw : inB wd 1 16
  · have HB := Lib.hid hb; have HW := Lib.hid hw; clear hb hw hg
    go_enter Try.func29, Try.ntmps29
    go_wp2_with fail
    refine (impl_isBase _ _).mono ?_; rintro e w1 ⟨rfl, rfl⟩; rw [HB.out]
    go_wp2_with fail
    refine (impl_isRegisterWidth _ _).mono ?_; rintro e w1 ⟨rfl, rfl⟩; rw [HW.out]
    go_wp2_with fail
    refine bodyPost_ret (v := .tuple #[.agg #[.int .i64 0, .slice none 0 0], .agg #[.int .i64 0, .slice none 0 0], .int .i64 2]) (by simp [results, Try.results29, go_sem, *]) rfl ?_
    exact ⟨_, _, rfl, own_nil, own_nil, apart_nn _ _ rfl, (((Below.refl _ _).alloc (Nat.le_refl _) _).alloc (by simp) _).alloc (by simp; omega) _⟩
  have hf : (inB kd 1 3 && inB lv 0 (wd - 1)) = false := by unfold wiG at hg; rw [hb, hw] at hg; simpa using hg
  have hwb := inB_iff.1 hw
  have HB := Lib.hid hb; have HW := Lib.hid hw; have HF := Lib.hid hf; clear hb hw hg hf
  go_enter Try.func29, Try.ntmps29
  go_wp2_with fail
  refine (impl_isBase _ _).mono ?_; rintro e w1 ⟨rfl, rfl⟩; rw [HB.out]
  go_wp2_with fail
  refine (impl_isRegisterWidth _ _).mono ?_; rintro e w1 ⟨rfl, rfl⟩; rw [HW.out]
  go_wp2_with fail
  refine (impl_isFault _ _ _ _ (by omega) (by omega)).mono ?_; rintro e w1 ⟨rfl, b1⟩; rw [HF.out]
  obtain ⟨y0, y1, y2, bw, -, -⟩ := blk3 b1
  have c0 := cell_blk y0 0; have c1 := cell_blk y0 1; have c2 := cell_blk y1 0; have c3 := cell_blk y1 1; have c4 := cell_blk y2 0; have c5 := cell_blk y2 1
  have f0 := frozen_blk y0 0; have f1 := frozen_blk y0 1; have f2 := frozen_blk y1 0; have f3 := frozen_blk y1 1; have f4 := frozen_blk y2 0; have f5 := frozen_blk y2 1
  have l1 : w.heap.size < w1.heap.size := (Array.getElem?_eq_some_iff.1 y0).1
  have l2 : w.heap.size + 1 < w1.heap.size := (Array.getElem?_eq_some_iff.1 y1).1
  have l3 : w.heap.size + 1 + 1 < w1.heap.size := (Array.getElem?_eq_some_iff.1 y2).1
  have BW := Lib.hid bw; clear b1 bw y0 y1 y2
  go_wp2_with fail
  refine bodyPost_ret (v := .tuple #[.agg #[.int .i64 0, .slice none 0 0], .agg #[.int .i64 0, .slice none 0 0], .int .i64 2]) (by simp [results, Try.results29, go_sem, *]) rfl ?_
  exact ⟨_, _, rfl, own_nil, own_nil, apart_nn _ _ rfl, (((BW.out.setCell (by simp) _).setCell (by simp) _).setCell (by simp; omega) _).setCell (by simp; omega) _⟩
end Go.Proofs.Ytkhjmokjbiepgaa
