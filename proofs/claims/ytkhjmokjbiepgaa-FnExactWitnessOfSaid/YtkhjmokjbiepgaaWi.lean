/- WitnessOf of the reference: bad arguments. -/
import Derived.IntWalk
import Derived.Deep.RegionLaw
import Derived.Deep.QuietTactic
import Derived.BigQuiet
import Derived.Test.YtkhjmokjbiepgaaWf
import Derived.Test.YtkhjmokjbiepgaaWe
namespace Go.Proofs.Ytkhjmokjbiepgaa
open Go.ChangeShapes Go.WideShapes Go.ChangeAt Go.RowKit
set_option maxHeartbeats 2000000 in
set_option maxRecDepth 100000 in
theorem spec_WitnessOf_bad (b wd kd lv : Int) (w : World) (hg : wiG b wd kd lv = false) :
    Calls Try.prog 27 #[.int .i64 b, .int .i64 wd, .agg #[.int .i64 kd, .int .i64 lv]] w (RetRegs w (wiB b wd kd lv) (wiX b wd kd lv) (wiY b wd kd lv) (wiC b wd kd lv)) := by
  have hC : wiC b wd kd lv = 2 := by unfold wiC; rw [hg]; rfl
  have hC0 : ¬ wiC b wd kd lv = 0 := by rw [hC]; omega
  rw [show wiB b wd kd lv = 0 from if_neg hC0, show wiX b wd kd lv = [] from if_neg hC0, show wiY b wd kd lv = [] from if_neg hC0, hC]
  clear hC hC0
  cases hb : inB b 2 16
  · have HB := Lib.hid hb; clear hb hg
    go_enter Try.func27, Try.ntmps27
    go_wp2_with fail
    refine (spec_l02Base _ _).mono ?_; rintro e w1 ⟨rfl, rfl⟩; rw [HB.out]
    go_wp2_with fail
    refine bodyPost_ret (v := .tuple #[.agg #[.int .i64 0, .slice none 0 0], .agg #[.int .i64 0, .slice none 0 0], .int .i64 2]) (by simp [results, Try.results27, go_sem, *]) rfl ?_
    exact ⟨_, _, rfl, own_nil, own_nil, apart_nn _ _ rfl, (((Below.refl _ _).alloc (Nat.le_refl _) _).alloc (by simp) _).alloc (by simp; omega) _⟩
  have hf : (inB wd 1 16 && (inB kd 1 3 && inB lv 0 (wd - 1))) = false := by unfold wiG at hg; rw [hb] at hg; simpa using hg
  have HB := Lib.hid hb; have HF := Lib.hid hf; clear hb hf hg
  go_enter Try.func27, Try.ntmps27
  go_wp2_with fail
  refine (spec_l02Base _ _).mono ?_; rintro e w1 ⟨rfl, rfl⟩; rw [HB.out]
  go_wp2_with fail
  obtain ⟨y0, y1, y2, bw, -, e3⟩ := blk3 (Below.refl (((w.alloc (.cells #[.int .i64 kd, .int .i64 lv] 54)).alloc (.cells #[.int .i64 0, .slice none 0 0] 41)).alloc (.cells #[.int .i64 0, .slice none 0 0] 41)).heap.size (((w.alloc (.cells #[.int .i64 kd, .int .i64 lv] 54)).alloc (.cells #[.int .i64 0, .slice none 0 0] 41)).alloc (.cells #[.int .i64 0, .slice none 0 0] 41)))
  rw [← e3]
  generalize (((w.alloc (.cells #[.int .i64 kd, .int .i64 lv] 54)).alloc (.cells #[.int .i64 0, .slice none 0 0] 41)).alloc (.cells #[.int .i64 0, .slice none 0 0] 41)) = w3 at *
  have yl := heap_last w3 (.cells #[.int .i64 kd, .int .i64 lv] 54)
  refine (spec_l08Ok wd kd lv w3.heap.size _ (cell_blk yl 0) (cell_blk yl 1)).mono ?_; rintro e w4 ⟨rfl, m, hw4⟩; rw [HF.out]
  have Y04 := Lib.hid (show w4.heap[w.heap.size]? = some (.cells #[.int .i64 kd, .int .i64 lv] 54) from by rw [hw4]; exact wk_al (A := (.cells #[.int .i64 kd, .int .i64 lv] 54)) y0)
  have Y14 := Lib.hid (show w4.heap[w.heap.size + 1]? = some (.cells #[.int .i64 0, .slice none 0 0] 41) from by rw [hw4]; exact wk_al (A := (.cells #[.int .i64 kd, .int .i64 lv] 54)) y1)
  have Y24 := Lib.hid (show w4.heap[w.heap.size + 1 + 1]? = some (.cells #[.int .i64 0, .slice none 0 0] 41) from by rw [hw4]; exact wk_al (A := (.cells #[.int .i64 kd, .int .i64 lv] 54)) y2)
  have BW4 := Lib.hid (show Below w.heap.size w w4 from by rw [hw4]; exact (bw.alloc bw.size (.cells #[.int .i64 kd, .int .i64 lv] 54)).trans (drewN_below _ _ _))
  clear y0 y1 y2 bw yl hw4
  have c0 := cell_blk Y04.out 0; have c1 := cell_blk Y04.out 1; have c2 := cell_blk Y14.out 0; have c3 := cell_blk Y14.out 1; have c4 := cell_blk Y24.out 0; have c5 := cell_blk Y24.out 1
  have f2 := frozen_blk Y14.out 0; have f3 := frozen_blk Y14.out 1; have f4 := frozen_blk Y24.out 0; have f5 := frozen_blk Y24.out 1
  have l1 : w.heap.size < w4.heap.size := (Array.getElem?_eq_some_iff.1 Y04.out).1
  have l2 : w.heap.size + 1 < w4.heap.size := (Array.getElem?_eq_some_iff.1 Y14.out).1
  have l3 : w.heap.size + 1 + 1 < w4.heap.size := (Array.getElem?_eq_some_iff.1 Y24.out).1
  go_wp2_with fail
  refine bodyPost_ret (v := .tuple #[.agg #[.int .i64 0, .slice none 0 0], .agg #[.int .i64 0, .slice none 0 0], .int .i64 2]) (by simp [results, Try.results27, go_sem, *]) rfl ?_
  exact ⟨_, _, rfl, own_nil, own_nil, apart_nn _ _ rfl, (((BW4.out.setCell (by simp) _).setCell (by simp) _).setCell (by simp; omega) _).setCell (by simp; omega) _⟩
end Go.Proofs.Ytkhjmokjbiepgaa
