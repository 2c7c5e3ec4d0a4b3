/- Machines: SameMachine of both packages, and the laws' helpers szMachine, toMachine, eqMachine. -/
import Derived.IntWalk
import Derived.Test.YtcooabjcikcpiaaMch
namespace Go.Proofs.Ytcooabjcikcpiaa
open Go.ChangeShapes Go.WideShapes Go.ChangeAt Go.RowKit
theorem setCell_blkN {w : World} {g i : Nat} {c : Array Value} {t : TypeId} (h : w.heap[g]? = some (.cells c t)) (u : Value) : (w.setCell ⟨g, i, none⟩ u).heap[g]? = some (.cells (c.setIfInBounds i u) t) := by
  simp [World.setCell, Array.getElem?_modify, h]
theorem own_setCell_nm {w : World} {B : Nat} {v : Value} {zs : List Int} (h : Own w B v zs) {g j : Nat} {u : Value} (hne : v.ownBlock ≠ some g) : Own (w.setCell ⟨g, j, none⟩ u) B v zs := by
  refine ⟨h.1, ?_⟩
  rcases h.2 with hn | ⟨g', cap, cur, hv, hg, hh, r⟩
  · exact .inl hn
  · refine .inr ⟨g', cap, cur, hv, hg, ?_, r⟩
    rw [Below.heap_setCell _ _ _ _ ?_]
    · exact hh
    · intro e
      apply hne
      rw [hv]
      show some g' = some g
      rw [show g' = g from e]
set_option maxHeartbeats 2000000 in
theorem spec_SameMachine {B1 B2 B3 C1 C2 C3 : Nat} {u1 u2 u3 v1 v2 v3 : Value} {x1 x2 x3 y1 y2 y3 : List Int} (a1 a2 a3 p b1 b2 b3 q : Int) (w : World) (h1 : Own w B1 u1 x1) (h2 : Own w B2 u2 x2) (h3 : Own w B3 u3 x3) (k1 : Own w C1 v1 y1) (k2 : Own w C2 v2 y2) (k3 : Own w C3 v3 y3) :
    Calls Try.prog 10 #[.agg #[.int .i64 a1, u1, .int .i64 a2, u2, .int .i64 a3, u3, .int .i64 p], .agg #[.int .i64 b1, v1, .int .i64 b2, v2, .int .i64 b3, v3, .int .i64 q]] w (RetV w (.bool (sameM a1 a2 a3 p b1 b2 b3 q x1 x2 x3 y1 y2 y3))) := by
  have H1 := Lib.hid h1; have H2 := Lib.hid h2; have H3 := Lib.hid h3; have K1 := Lib.hid k1; have K2 := Lib.hid k2; have K3 := Lib.hid k3
  obtain ⟨d1, e1, rfl, -, -⟩ := own_form h1
  obtain ⟨d2, e2, rfl, -, -⟩ := own_form h2
  obtain ⟨d3, e3, rfl, -, -⟩ := own_form h3
  obtain ⟨f1, g1, rfl, -, -⟩ := own_form k1
  obtain ⟨f2, g2, rfl, -, -⟩ := own_form k2
  obtain ⟨f3, g3, rfl, -, -⟩ := own_form k3
  clear h1 h2 h3 k1 k2 k3
  go_enter Try.func10, Try.ntmps10
  go_wp2_with fail
  refine (spec_l10Same a1 a2 a3 p b1 b2 b3 q w.heap.size (w.heap.size + 1) _ (own_alloc (own_alloc H1.out _) _) (own_alloc (own_alloc H2.out _) _) (own_alloc (own_alloc H3.out _) _) (own_alloc (own_alloc K1.out _) _) (own_alloc (own_alloc K2.out _) _) (own_alloc (own_alloc K3.out _) _) (by simp) (by simp) (by simp) (by simp) (by simp) (by simp) (by simp) (by simp) (by simp) (by simp) (by simp) (by simp) (by simp) (by simp)).mono ?_
  rintro e w1 ⟨rfl, m, rfl⟩
  go_wp2_with fail
  go_ret
  exact ⟨rfl, (((Below.refl _ _).alloc (Nat.le_refl _) _).alloc (by simp) _).trans (drewN_bm _ _ _)⟩
set_option maxHeartbeats 4000000 in
theorem impl_SameMachine {B1 B2 B3 C1 C2 C3 : Nat} {u1 u2 u3 v1 v2 v3 : Value} {x1 x2 x3 y1 y2 y3 : List Int} (a1 a2 a3 p b1 b2 b3 q : Int) (w : World) (h1 : Own w B1 u1 x1) (h2 : Own w B2 u2 x2) (h3 : Own w B3 u3 x3) (k1 : Own w C1 v1 y1) (k2 : Own w C2 v2 y2) (k3 : Own w C3 v3 y3) :
    Calls Try.prog 12 #[.agg #[.int .i64 a1, u1, .int .i64 a2, u2, .int .i64 a3, u3, .int .i64 p], .agg #[.int .i64 b1, v1, .int .i64 b2, v2, .int .i64 b3, v3, .int .i64 q]] w (RetV w (.bool (sameM a1 a2 a3 p b1 b2 b3 q x1 x2 x3 y1 y2 y3))) := by
  have H1 := Lib.hid h1; have H2 := Lib.hid h2; have H3 := Lib.hid h3; have K1 := Lib.hid k1; have K2 := Lib.hid k2; have K3 := Lib.hid k3
  obtain ⟨d1, e1, rfl, -, -⟩ := own_form h1
  obtain ⟨d2, e2, rfl, -, -⟩ := own_form h2
  obtain ⟨d3, e3, rfl, -, -⟩ := own_form h3
  obtain ⟨f1, g1, rfl, -, -⟩ := own_form k1
  obtain ⟨f2, g2, rfl, -, -⟩ := own_form k2
  obtain ⟨f3, g3, rfl, -, -⟩ := own_form k3
  clear h1 h2 h3 k1 k2 k3
  have HS := Lib.hid (show sameM a1 a2 a3 p b1 b2 b3 q x1 x2 x3 y1 y2 y3 = (sameR a1 b1 x1 y1 && (sameR a2 b2 x2 y2 && (sameR a3 b3 x3 y3 && decide (p = q)))) from rfl)
  cases r1 : sameR a1 b1 x1 y1
  · have R1 := Lib.hid r1
    have HR := Lib.hid (show sameM a1 a2 a3 p b1 b2 b3 q x1 x2 x3 y1 y2 y3 = false from by rw [HS.out, r1]; simp)
    clear r1
    go_enter Try.func12, Try.ntmps12
    go_wp2_with fail
    refine (impl_SameRegister a1 b1 _ (own_alloc (own_alloc H1.out _) _) (own_alloc (own_alloc K1.out _) _)).mono ?_; rintro e w1 ⟨rfl, bw1⟩; rw [R1.out]
    have BB1 := Lib.hid bw1
    have H2_1 := Lib.hid (own_keep bw1 (own_alloc (own_alloc H2.out _) _))
    have K2_1 := Lib.hid (own_keep bw1 (own_alloc (own_alloc K2.out _) _))
    have H3_1 := Lib.hid (own_keep bw1 (own_alloc (own_alloc H3.out _) _))
    have K3_1 := Lib.hid (own_keep bw1 (own_alloc (own_alloc K3.out _) _))
    clear bw1
    obtain ⟨z0, z1, -, hs1, -⟩ := blk2 BB1.out
    have A0 := cell_blk z0 0; have A1 := cell_blk z0 1; have A2 := cell_blk z0 2; have A3 := cell_blk z0 3; have A4 := cell_blk z0 4; have A5 := cell_blk z0 5; have A6 := cell_blk z0 6
    have D0 := cell_blk z1 0; have D1 := cell_blk z1 1; have D2 := cell_blk z1 2; have D3 := cell_blk z1 3; have D4 := cell_blk z1 4; have D5 := cell_blk z1 5; have D6 := cell_blk z1 6
    clear z0 z1
    have lt0 : w.heap.size < w1.heap.size := (by omega); have lt1 : w.heap.size + 1 < w1.heap.size := (by omega)
    go_wp2_with fail
    go_ret
    exact ⟨ret_bm HR.out, (blk2 BB1.out).2.2.1⟩
  have R1 := Lib.hid r1
  cases r2 : sameR a2 b2 x2 y2
  · have R2 := Lib.hid r2
    have HR := Lib.hid (show sameM a1 a2 a3 p b1 b2 b3 q x1 x2 x3 y1 y2 y3 = false from by rw [HS.out, r1, r2]; simp)
    clear r1 r2
    go_enter Try.func12, Try.ntmps12
    go_wp2_with fail
    refine (impl_SameRegister a1 b1 _ (own_alloc (own_alloc H1.out _) _) (own_alloc (own_alloc K1.out _) _)).mono ?_; rintro e w1 ⟨rfl, bw1⟩; rw [R1.out]
    have BB1 := Lib.hid bw1
    have H2_1 := Lib.hid (own_keep bw1 (own_alloc (own_alloc H2.out _) _))
    have K2_1 := Lib.hid (own_keep bw1 (own_alloc (own_alloc K2.out _) _))
    have H3_1 := Lib.hid (own_keep bw1 (own_alloc (own_alloc H3.out _) _))
    have K3_1 := Lib.hid (own_keep bw1 (own_alloc (own_alloc K3.out _) _))
    clear bw1
    obtain ⟨z0, z1, -, hs1, -⟩ := blk2 BB1.out
    have A0 := cell_blk z0 0; have A1 := cell_blk z0 1; have A2 := cell_blk z0 2; have A3 := cell_blk z0 3; have A4 := cell_blk z0 4; have A5 := cell_blk z0 5; have A6 := cell_blk z0 6
    have D0 := cell_blk z1 0; have D1 := cell_blk z1 1; have D2 := cell_blk z1 2; have D3 := cell_blk z1 3; have D4 := cell_blk z1 4; have D5 := cell_blk z1 5; have D6 := cell_blk z1 6
    clear z0 z1
    have lt0 : w.heap.size < w1.heap.size := (by omega); have lt1 : w.heap.size + 1 < w1.heap.size := (by omega)
    go_wp2_with fail
    refine (impl_SameRegister a2 b2 _ H2_1.out K2_1.out).mono ?_; rintro e w2 ⟨rfl, bw2⟩; rw [R2.out]
    have BB2 := Lib.hid (Below.trans_size BB1.out bw2)
    have H3_2 := Lib.hid (own_keep bw2 H3_1.out)
    have K3_2 := Lib.hid (own_keep bw2 K3_1.out)
    clear bw2
    clear A0 A1 A2 A3 A4 A5 A6 D0 D1 D2 D3 D4 D5 D6 lt0 lt1
    obtain ⟨z0, z1, -, hs2, -⟩ := blk2 BB2.out
    have A0 := cell_blk z0 0; have A1 := cell_blk z0 1; have A2 := cell_blk z0 2; have A3 := cell_blk z0 3; have A4 := cell_blk z0 4; have A5 := cell_blk z0 5; have A6 := cell_blk z0 6
    have D0 := cell_blk z1 0; have D1 := cell_blk z1 1; have D2 := cell_blk z1 2; have D3 := cell_blk z1 3; have D4 := cell_blk z1 4; have D5 := cell_blk z1 5; have D6 := cell_blk z1 6
    clear z0 z1
    have lt0 : w.heap.size < w2.heap.size := (by omega); have lt1 : w.heap.size + 1 < w2.heap.size := (by omega)
    go_wp2_with fail
    go_ret
    exact ⟨ret_bm HR.out, (blk2 BB2.out).2.2.1⟩
  have R2 := Lib.hid r2
  cases r3 : sameR a3 b3 x3 y3
  · have R3 := Lib.hid r3
    have HR := Lib.hid (show sameM a1 a2 a3 p b1 b2 b3 q x1 x2 x3 y1 y2 y3 = false from by rw [HS.out, r1, r2, r3]; simp)
    clear r1 r2 r3
    go_enter Try.func12, Try.ntmps12
    go_wp2_with fail
    refine (impl_SameRegister a1 b1 _ (own_alloc (own_alloc H1.out _) _) (own_alloc (own_alloc K1.out _) _)).mono ?_; rintro e w1 ⟨rfl, bw1⟩; rw [R1.out]
    have BB1 := Lib.hid bw1
    have H2_1 := Lib.hid (own_keep bw1 (own_alloc (own_alloc H2.out _) _))
    have K2_1 := Lib.hid (own_keep bw1 (own_alloc (own_alloc K2.out _) _))
    have H3_1 := Lib.hid (own_keep bw1 (own_alloc (own_alloc H3.out _) _))
    have K3_1 := Lib.hid (own_keep bw1 (own_alloc (own_alloc K3.out _) _))
    clear bw1
    obtain ⟨z0, z1, -, hs1, -⟩ := blk2 BB1.out
    have A0 := cell_blk z0 0; have A1 := cell_blk z0 1; have A2 := cell_blk z0 2; have A3 := cell_blk z0 3; have A4 := cell_blk z0 4; have A5 := cell_blk z0 5; have A6 := cell_blk z0 6
    have D0 := cell_blk z1 0; have D1 := cell_blk z1 1; have D2 := cell_blk z1 2; have D3 := cell_blk z1 3; have D4 := cell_blk z1 4; have D5 := cell_blk z1 5; have D6 := cell_blk z1 6
    clear z0 z1
    have lt0 : w.heap.size < w1.heap.size := (by omega); have lt1 : w.heap.size + 1 < w1.heap.size := (by omega)
    go_wp2_with fail
    refine (impl_SameRegister a2 b2 _ H2_1.out K2_1.out).mono ?_; rintro e w2 ⟨rfl, bw2⟩; rw [R2.out]
    have BB2 := Lib.hid (Below.trans_size BB1.out bw2)
    have H3_2 := Lib.hid (own_keep bw2 H3_1.out)
    have K3_2 := Lib.hid (own_keep bw2 K3_1.out)
    clear bw2
    clear A0 A1 A2 A3 A4 A5 A6 D0 D1 D2 D3 D4 D5 D6 lt0 lt1
    obtain ⟨z0, z1, -, hs2, -⟩ := blk2 BB2.out
    have A0 := cell_blk z0 0; have A1 := cell_blk z0 1; have A2 := cell_blk z0 2; have A3 := cell_blk z0 3; have A4 := cell_blk z0 4; have A5 := cell_blk z0 5; have A6 := cell_blk z0 6
    have D0 := cell_blk z1 0; have D1 := cell_blk z1 1; have D2 := cell_blk z1 2; have D3 := cell_blk z1 3; have D4 := cell_blk z1 4; have D5 := cell_blk z1 5; have D6 := cell_blk z1 6
    clear z0 z1
    have lt0 : w.heap.size < w2.heap.size := (by omega); have lt1 : w.heap.size + 1 < w2.heap.size := (by omega)
    go_wp2_with fail
    refine (impl_SameRegister a3 b3 _ H3_2.out K3_2.out).mono ?_; rintro e w3 ⟨rfl, bw3⟩; rw [R3.out]
    have BB3 := Lib.hid (Below.trans_size BB2.out bw3)
    clear bw3
    clear A0 A1 A2 A3 A4 A5 A6 D0 D1 D2 D3 D4 D5 D6 lt0 lt1
    obtain ⟨z0, z1, -, hs3, -⟩ := blk2 BB3.out
    have A0 := cell_blk z0 0; have A1 := cell_blk z0 1; have A2 := cell_blk z0 2; have A3 := cell_blk z0 3; have A4 := cell_blk z0 4; have A5 := cell_blk z0 5; have A6 := cell_blk z0 6
    have D0 := cell_blk z1 0; have D1 := cell_blk z1 1; have D2 := cell_blk z1 2; have D3 := cell_blk z1 3; have D4 := cell_blk z1 4; have D5 := cell_blk z1 5; have D6 := cell_blk z1 6
    clear z0 z1
    have lt0 : w.heap.size < w3.heap.size := (by omega); have lt1 : w.heap.size + 1 < w3.heap.size := (by omega)
    go_wp2_with fail
    go_ret
    exact ⟨ret_bm HR.out, (blk2 BB3.out).2.2.1⟩
  have R3 := Lib.hid r3
  by_cases hpq : p = q
  · have HR := Lib.hid (show sameM a1 a2 a3 p b1 b2 b3 q x1 x2 x3 y1 y2 y3 = true from by rw [HS.out, r1, r2, r3]; simp [hpq])
    subst hpq
    clear r1 r2 r3
    go_enter Try.func12, Try.ntmps12
    go_wp2_with fail
    refine (impl_SameRegister a1 b1 _ (own_alloc (own_alloc H1.out _) _) (own_alloc (own_alloc K1.out _) _)).mono ?_; rintro e w1 ⟨rfl, bw1⟩; rw [R1.out]
    have BB1 := Lib.hid bw1
    have H2_1 := Lib.hid (own_keep bw1 (own_alloc (own_alloc H2.out _) _))
    have K2_1 := Lib.hid (own_keep bw1 (own_alloc (own_alloc K2.out _) _))
    have H3_1 := Lib.hid (own_keep bw1 (own_alloc (own_alloc H3.out _) _))
    have K3_1 := Lib.hid (own_keep bw1 (own_alloc (own_alloc K3.out _) _))
    clear bw1
    obtain ⟨z0, z1, -, hs1, -⟩ := blk2 BB1.out
    have A0 := cell_blk z0 0; have A1 := cell_blk z0 1; have A2 := cell_blk z0 2; have A3 := cell_blk z0 3; have A4 := cell_blk z0 4; have A5 := cell_blk z0 5; have A6 := cell_blk z0 6
    have D0 := cell_blk z1 0; have D1 := cell_blk z1 1; have D2 := cell_blk z1 2; have D3 := cell_blk z1 3; have D4 := cell_blk z1 4; have D5 := cell_blk z1 5; have D6 := cell_blk z1 6
    clear z0 z1
    have lt0 : w.heap.size < w1.heap.size := (by omega); have lt1 : w.heap.size + 1 < w1.heap.size := (by omega)
    go_wp2_with fail
    refine (impl_SameRegister a2 b2 _ H2_1.out K2_1.out).mono ?_; rintro e w2 ⟨rfl, bw2⟩; rw [R2.out]
    have BB2 := Lib.hid (Below.trans_size BB1.out bw2)
    have H3_2 := Lib.hid (own_keep bw2 H3_1.out)
    have K3_2 := Lib.hid (own_keep bw2 K3_1.out)
    clear bw2
    clear A0 A1 A2 A3 A4 A5 A6 D0 D1 D2 D3 D4 D5 D6 lt0 lt1
    obtain ⟨z0, z1, -, hs2, -⟩ := blk2 BB2.out
    have A0 := cell_blk z0 0; have A1 := cell_blk z0 1; have A2 := cell_blk z0 2; have A3 := cell_blk z0 3; have A4 := cell_blk z0 4; have A5 := cell_blk z0 5; have A6 := cell_blk z0 6
    have D0 := cell_blk z1 0; have D1 := cell_blk z1 1; have D2 := cell_blk z1 2; have D3 := cell_blk z1 3; have D4 := cell_blk z1 4; have D5 := cell_blk z1 5; have D6 := cell_blk z1 6
    clear z0 z1
    have lt0 : w.heap.size < w2.heap.size := (by omega); have lt1 : w.heap.size + 1 < w2.heap.size := (by omega)
    go_wp2_with fail
    refine (impl_SameRegister a3 b3 _ H3_2.out K3_2.out).mono ?_; rintro e w3 ⟨rfl, bw3⟩; rw [R3.out]
    have BB3 := Lib.hid (Below.trans_size BB2.out bw3)
    clear bw3
    clear A0 A1 A2 A3 A4 A5 A6 D0 D1 D2 D3 D4 D5 D6 lt0 lt1
    obtain ⟨z0, z1, -, hs3, -⟩ := blk2 BB3.out
    have A0 := cell_blk z0 0; have A1 := cell_blk z0 1; have A2 := cell_blk z0 2; have A3 := cell_blk z0 3; have A4 := cell_blk z0 4; have A5 := cell_blk z0 5; have A6 := cell_blk z0 6
    have D0 := cell_blk z1 0; have D1 := cell_blk z1 1; have D2 := cell_blk z1 2; have D3 := cell_blk z1 3; have D4 := cell_blk z1 4; have D5 := cell_blk z1 5; have D6 := cell_blk z1 6
    clear z0 z1
    have lt0 : w.heap.size < w3.heap.size := (by omega); have lt1 : w.heap.size + 1 < w3.heap.size := (by omega)
    go_wp2_with fail
    go_ret
    exact ⟨ret_bm HR.out, (blk2 BB3.out).2.2.1⟩
  · have HR := Lib.hid (show sameM a1 a2 a3 p b1 b2 b3 q x1 x2 x3 y1 y2 y3 = false from by rw [HS.out, r1, r2, r3]; simp [hpq])
    have E : (p == q) = false := by simpa using hpq
    clear r1 r2 r3
    go_enter Try.func12, Try.ntmps12
    go_wp2_with fail
    refine (impl_SameRegister a1 b1 _ (own_alloc (own_alloc H1.out _) _) (own_alloc (own_alloc K1.out _) _)).mono ?_; rintro e w1 ⟨rfl, bw1⟩; rw [R1.out]
    have BB1 := Lib.hid bw1
    have H2_1 := Lib.hid (own_keep bw1 (own_alloc (own_alloc H2.out _) _))
    have K2_1 := Lib.hid (own_keep bw1 (own_alloc (own_alloc K2.out _) _))
    have H3_1 := Lib.hid (own_keep bw1 (own_alloc (own_alloc H3.out _) _))
    have K3_1 := Lib.hid (own_keep bw1 (own_alloc (own_alloc K3.out _) _))
    clear bw1
    obtain ⟨z0, z1, -, hs1, -⟩ := blk2 BB1.out
    have A0 := cell_blk z0 0; have A1 := cell_blk z0 1; have A2 := cell_blk z0 2; have A3 := cell_blk z0 3; have A4 := cell_blk z0 4; have A5 := cell_blk z0 5; have A6 := cell_blk z0 6
    have D0 := cell_blk z1 0; have D1 := cell_blk z1 1; have D2 := cell_blk z1 2; have D3 := cell_blk z1 3; have D4 := cell_blk z1 4; have D5 := cell_blk z1 5; have D6 := cell_blk z1 6
    clear z0 z1
    have lt0 : w.heap.size < w1.heap.size := (by omega); have lt1 : w.heap.size + 1 < w1.heap.size := (by omega)
    go_wp2_with fail
    refine (impl_SameRegister a2 b2 _ H2_1.out K2_1.out).mono ?_; rintro e w2 ⟨rfl, bw2⟩; rw [R2.out]
    have BB2 := Lib.hid (Below.trans_size BB1.out bw2)
    have H3_2 := Lib.hid (own_keep bw2 H3_1.out)
    have K3_2 := Lib.hid (own_keep bw2 K3_1.out)
    clear bw2
    clear A0 A1 A2 A3 A4 A5 A6 D0 D1 D2 D3 D4 D5 D6 lt0 lt1
    obtain ⟨z0, z1, -, hs2, -⟩ := blk2 BB2.out
    have A0 := cell_blk z0 0; have A1 := cell_blk z0 1; have A2 := cell_blk z0 2; have A3 := cell_blk z0 3; have A4 := cell_blk z0 4; have A5 := cell_blk z0 5; have A6 := cell_blk z0 6
    have D0 := cell_blk z1 0; have D1 := cell_blk z1 1; have D2 := cell_blk z1 2; have D3 := cell_blk z1 3; have D4 := cell_blk z1 4; have D5 := cell_blk z1 5; have D6 := cell_blk z1 6
    clear z0 z1
    have lt0 : w.heap.size < w2.heap.size := (by omega); have lt1 : w.heap.size + 1 < w2.heap.size := (by omega)
    go_wp2_with fail
    refine (impl_SameRegister a3 b3 _ H3_2.out K3_2.out).mono ?_; rintro e w3 ⟨rfl, bw3⟩; rw [R3.out]
    have BB3 := Lib.hid (Below.trans_size BB2.out bw3)
    clear bw3
    clear A0 A1 A2 A3 A4 A5 A6 D0 D1 D2 D3 D4 D5 D6 lt0 lt1
    obtain ⟨z0, z1, -, hs3, -⟩ := blk2 BB3.out
    have A0 := cell_blk z0 0; have A1 := cell_blk z0 1; have A2 := cell_blk z0 2; have A3 := cell_blk z0 3; have A4 := cell_blk z0 4; have A5 := cell_blk z0 5; have A6 := cell_blk z0 6
    have D0 := cell_blk z1 0; have D1 := cell_blk z1 1; have D2 := cell_blk z1 2; have D3 := cell_blk z1 3; have D4 := cell_blk z1 4; have D5 := cell_blk z1 5; have D6 := cell_blk z1 6
    clear z0 z1
    have lt0 : w.heap.size < w3.heap.size := (by omega); have lt1 : w.heap.size + 1 < w3.heap.size := (by omega)
    go_wp2_with fail
    go_ret
    exact ⟨ret_bm HR.out, (blk2 BB3.out).2.2.1⟩
set_option maxHeartbeats 4000000 in
theorem laws_eqMachine {B1 B2 B3 C1 C2 C3 : Nat} {u1 u2 u3 v1 v2 v3 : Value} {x1 x2 x3 : List Int} (a1 a2 a3 p : Int) (w : World) (h1 : Own w B1 u1 x1) (h2 : Own w B2 u2 x2) (h3 : Own w B3 u3 x3) (k1 : Own w C1 v1 x1) (k2 : Own w C2 v2 x2) (k3 : Own w C3 v3 x3) :
    Calls Try.prog 13 #[.agg #[.int .i64 a1, u1, .int .i64 a2, u2, .int .i64 a3, u3, .int .i64 p], .agg #[.int .i64 a1, v1, .int .i64 a2, v2, .int .i64 a3, v3, .int .i64 p]] w (RetV w (.bool true)) := by
  have H1 := Lib.hid h1; have H2 := Lib.hid h2; have H3 := Lib.hid h3; have K1 := Lib.hid k1; have K2 := Lib.hid k2; have K3 := Lib.hid k3
  obtain ⟨d1, e1, rfl, -, -⟩ := own_form h1
  obtain ⟨d2, e2, rfl, -, -⟩ := own_form h2
  obtain ⟨d3, e3, rfl, -, -⟩ := own_form h3
  obtain ⟨f1, g1, rfl, -, -⟩ := own_form k1
  obtain ⟨f2, g2, rfl, -, -⟩ := own_form k2
  obtain ⟨f3, g3, rfl, -, -⟩ := own_form k3
  clear h1 h2 h3 k1 k2 k3
  go_enter Try.func13, Try.ntmps13
  go_wp2_with fail
  refine (laws_eqRegister a1 _ (own_alloc (own_alloc H1.out _) _) (own_alloc (own_alloc K1.out _) _)).mono ?_; rintro e w1 ⟨rfl, bw1⟩
  have BB1 := Lib.hid bw1
  have H2_1 := Lib.hid (own_keep bw1 (own_alloc (own_alloc H2.out _) _))
  have K2_1 := Lib.hid (own_keep bw1 (own_alloc (own_alloc K2.out _) _))
  have H3_1 := Lib.hid (own_keep bw1 (own_alloc (own_alloc H3.out _) _))
  have K3_1 := Lib.hid (own_keep bw1 (own_alloc (own_alloc K3.out _) _))
  clear bw1
  obtain ⟨z0, z1, -, hs1, -⟩ := blk2 BB1.out
  have A0 := cell_blk z0 0; have A1 := cell_blk z0 1; have A2 := cell_blk z0 2; have A3 := cell_blk z0 3; have A4 := cell_blk z0 4; have A5 := cell_blk z0 5; have A6 := cell_blk z0 6
  have D0 := cell_blk z1 0; have D1 := cell_blk z1 1; have D2 := cell_blk z1 2; have D3 := cell_blk z1 3; have D4 := cell_blk z1 4; have D5 := cell_blk z1 5; have D6 := cell_blk z1 6
  clear z0 z1
  have lt0 : w.heap.size < w1.heap.size := (by omega); have lt1 : w.heap.size + 1 < w1.heap.size := (by omega)
  go_wp2_with fail
  refine (laws_eqRegister a2 _ H2_1.out K2_1.out).mono ?_; rintro e w2 ⟨rfl, bw2⟩
  have BB2 := Lib.hid (Below.trans_size BB1.out bw2)
  have H3_2 := Lib.hid (own_keep bw2 H3_1.out)
  have K3_2 := Lib.hid (own_keep bw2 K3_1.out)
  clear bw2
  clear A0 A1 A2 A3 A4 A5 A6 D0 D1 D2 D3 D4 D5 D6 lt0 lt1
  obtain ⟨z0, z1, -, hs2, -⟩ := blk2 BB2.out
  have A0 := cell_blk z0 0; have A1 := cell_blk z0 1; have A2 := cell_blk z0 2; have A3 := cell_blk z0 3; have A4 := cell_blk z0 4; have A5 := cell_blk z0 5; have A6 := cell_blk z0 6
  have D0 := cell_blk z1 0; have D1 := cell_blk z1 1; have D2 := cell_blk z1 2; have D3 := cell_blk z1 3; have D4 := cell_blk z1 4; have D5 := cell_blk z1 5; have D6 := cell_blk z1 6
  clear z0 z1
  have lt0 : w.heap.size < w2.heap.size := (by omega); have lt1 : w.heap.size + 1 < w2.heap.size := (by omega)
  go_wp2_with fail
  refine (laws_eqRegister a3 _ H3_2.out K3_2.out).mono ?_; rintro e w3 ⟨rfl, bw3⟩
  have BB3 := Lib.hid (Below.trans_size BB2.out bw3)
  clear bw3
  clear A0 A1 A2 A3 A4 A5 A6 D0 D1 D2 D3 D4 D5 D6 lt0 lt1
  obtain ⟨z0, z1, -, hs3, -⟩ := blk2 BB3.out
  have A0 := cell_blk z0 0; have A1 := cell_blk z0 1; have A2 := cell_blk z0 2; have A3 := cell_blk z0 3; have A4 := cell_blk z0 4; have A5 := cell_blk z0 5; have A6 := cell_blk z0 6
  have D0 := cell_blk z1 0; have D1 := cell_blk z1 1; have D2 := cell_blk z1 2; have D3 := cell_blk z1 3; have D4 := cell_blk z1 4; have D5 := cell_blk z1 5; have D6 := cell_blk z1 6
  clear z0 z1
  have lt0 : w.heap.size < w3.heap.size := (by omega); have lt1 : w.heap.size + 1 < w3.heap.size := (by omega)
  go_wp2_with fail
  go_ret
  exact ⟨rfl, (blk2 BB3.out).2.2.1⟩
set_option maxHeartbeats 2000000 in
theorem laws_szMachine (a1 a2 a3 p : Int) (s1 s2 s3 : Option Addr) (l1 l2 l3 c1 c2 c3 : Nat) (n : Int) (w : World) (h1 : l1 ≤ 9223372036854775807) (h2 : l2 ≤ 9223372036854775807) (h3 : l3 ≤ 9223372036854775807) (h0 : 0 ≤ n) (hn : n ≤ 2000000) :
    Calls Try.prog 9 #[.agg #[.int .i64 a1, .slice s1 l1 c1, .int .i64 a2, .slice s2 l2 c2, .int .i64 a3, .slice s3 l3 c3, .int .i64 p], .int .i64 n] w (RetV w (.int .i64 (if (l1 : Int) + l2 + l3 ≤ n then n - l1 - l2 - l3 else -1))) := by
  by_cases g1 : (l1 : Int) ≤ n
  rotate_left
  · rw [if_neg (by omega)]
    go_enter Try.func9, Try.ntmps9
    go_wp2_with fail
    refine (laws_szRegister a1 s1 l1 c1 (n) _ h1 (by omega) (by omega)).mono ?_; rintro e w1 ⟨rfl, bw1⟩
    rw [if_neg (show ¬ (l1 : Int) ≤ n by omega)]
    have BB1 := Lib.hid (bw1)
    clear bw1
    obtain ⟨z0, -, hs1, -⟩ := blk1 BB1.out
    have A0 := cell_blk z0 0; have A1 := cell_blk z0 1; have A2 := cell_blk z0 2; have A3 := cell_blk z0 3; have A4 := cell_blk z0 4; have A5 := cell_blk z0 5; have A6 := cell_blk z0 6
    clear z0
    have lt0 : w.heap.size < w1.heap.size := (by omega)
    go_wp2_with fail
    go_ret
    exact ⟨rfl, (blk1 BB1.out).2.1⟩
  by_cases g2 : (l1 : Int) + l2 ≤ n
  rotate_left
  · rw [if_neg (by omega)]
    go_enter Try.func9, Try.ntmps9
    go_wp2_with fail
    refine (laws_szRegister a1 s1 l1 c1 (n) _ h1 (by omega) (by omega)).mono ?_; rintro e w1 ⟨rfl, bw1⟩
    rw [if_pos (show (l1 : Int) ≤ n by omega)]
    have BB1 := Lib.hid (bw1)
    clear bw1
    obtain ⟨z0, -, hs1, -⟩ := blk1 BB1.out
    have A0 := cell_blk z0 0; have A1 := cell_blk z0 1; have A2 := cell_blk z0 2; have A3 := cell_blk z0 3; have A4 := cell_blk z0 4; have A5 := cell_blk z0 5; have A6 := cell_blk z0 6
    clear z0
    have lt0 : w.heap.size < w1.heap.size := (by omega)
    go_wp2_with fail
    refine (laws_szRegister a2 s2 l2 c2 (n - (l1 : Int)) _ h2 (by omega) (by omega)).mono ?_; rintro e w2 ⟨rfl, bw2⟩
    rw [if_neg (show ¬ (l2 : Int) ≤ n - (l1 : Int) by omega)]
    have BB2 := Lib.hid (Below.trans_size BB1.out bw2)
    clear bw2 A0 A1 A2 A3 A4 A5 A6 lt0
    obtain ⟨z0, -, hs2, -⟩ := blk1 BB2.out
    have A0 := cell_blk z0 0; have A1 := cell_blk z0 1; have A2 := cell_blk z0 2; have A3 := cell_blk z0 3; have A4 := cell_blk z0 4; have A5 := cell_blk z0 5; have A6 := cell_blk z0 6
    clear z0
    have lt0 : w.heap.size < w2.heap.size := (by omega)
    go_wp2_with fail
    go_ret
    exact ⟨rfl, (blk1 BB2.out).2.1⟩
  by_cases g3 : (l1 : Int) + l2 + l3 ≤ n
  rotate_left
  · rw [if_neg (by omega)]
    go_enter Try.func9, Try.ntmps9
    go_wp2_with fail
    refine (laws_szRegister a1 s1 l1 c1 (n) _ h1 (by omega) (by omega)).mono ?_; rintro e w1 ⟨rfl, bw1⟩
    rw [if_pos (show (l1 : Int) ≤ n by omega)]
    have BB1 := Lib.hid (bw1)
    clear bw1
    obtain ⟨z0, -, hs1, -⟩ := blk1 BB1.out
    have A0 := cell_blk z0 0; have A1 := cell_blk z0 1; have A2 := cell_blk z0 2; have A3 := cell_blk z0 3; have A4 := cell_blk z0 4; have A5 := cell_blk z0 5; have A6 := cell_blk z0 6
    clear z0
    have lt0 : w.heap.size < w1.heap.size := (by omega)
    go_wp2_with fail
    refine (laws_szRegister a2 s2 l2 c2 (n - (l1 : Int)) _ h2 (by omega) (by omega)).mono ?_; rintro e w2 ⟨rfl, bw2⟩
    rw [if_pos (show (l2 : Int) ≤ n - (l1 : Int) by omega)]
    have BB2 := Lib.hid (Below.trans_size BB1.out bw2)
    clear bw2 A0 A1 A2 A3 A4 A5 A6 lt0
    obtain ⟨z0, -, hs2, -⟩ := blk1 BB2.out
    have A0 := cell_blk z0 0; have A1 := cell_blk z0 1; have A2 := cell_blk z0 2; have A3 := cell_blk z0 3; have A4 := cell_blk z0 4; have A5 := cell_blk z0 5; have A6 := cell_blk z0 6
    clear z0
    have lt0 : w.heap.size < w2.heap.size := (by omega)
    go_wp2_with fail
    refine (laws_szRegister a3 s3 l3 c3 (n - (l1 : Int) - (l2 : Int)) _ h3 (by omega) (by omega)).mono ?_; rintro e w3 ⟨rfl, bw3⟩
    rw [if_neg (show ¬ (l3 : Int) ≤ n - (l1 : Int) - (l2 : Int) by omega)]
    have BB3 := Lib.hid (Below.trans_size BB2.out bw3)
    clear bw3 A0 A1 A2 A3 A4 A5 A6 lt0
    obtain ⟨z0, -, hs3, -⟩ := blk1 BB3.out
    have A0 := cell_blk z0 0; have A1 := cell_blk z0 1; have A2 := cell_blk z0 2; have A3 := cell_blk z0 3; have A4 := cell_blk z0 4; have A5 := cell_blk z0 5; have A6 := cell_blk z0 6
    clear z0
    have lt0 : w.heap.size < w3.heap.size := (by omega)
    go_wp2_with fail
    go_ret
    exact ⟨rfl, (blk1 BB3.out).2.1⟩
  rw [if_pos g3]
  go_enter Try.func9, Try.ntmps9
  go_wp2_with fail
  refine (laws_szRegister a1 s1 l1 c1 (n) _ h1 (by omega) (by omega)).mono ?_; rintro e w1 ⟨rfl, bw1⟩
  rw [if_pos (show (l1 : Int) ≤ n by omega)]
  have BB1 := Lib.hid (bw1)
  clear bw1
  obtain ⟨z0, -, hs1, -⟩ := blk1 BB1.out
  have A0 := cell_blk z0 0; have A1 := cell_blk z0 1; have A2 := cell_blk z0 2; have A3 := cell_blk z0 3; have A4 := cell_blk z0 4; have A5 := cell_blk z0 5; have A6 := cell_blk z0 6
  clear z0
  have lt0 : w.heap.size < w1.heap.size := (by omega)
  go_wp2_with fail
  refine (laws_szRegister a2 s2 l2 c2 (n - (l1 : Int)) _ h2 (by omega) (by omega)).mono ?_; rintro e w2 ⟨rfl, bw2⟩
  rw [if_pos (show (l2 : Int) ≤ n - (l1 : Int) by omega)]
  have BB2 := Lib.hid (Below.trans_size BB1.out bw2)
  clear bw2 A0 A1 A2 A3 A4 A5 A6 lt0
  obtain ⟨z0, -, hs2, -⟩ := blk1 BB2.out
  have A0 := cell_blk z0 0; have A1 := cell_blk z0 1; have A2 := cell_blk z0 2; have A3 := cell_blk z0 3; have A4 := cell_blk z0 4; have A5 := cell_blk z0 5; have A6 := cell_blk z0 6
  clear z0
  have lt0 : w.heap.size < w2.heap.size := (by omega)
  go_wp2_with fail
  refine (laws_szRegister a3 s3 l3 c3 (n - (l1 : Int) - (l2 : Int)) _ h3 (by omega) (by omega)).mono ?_; rintro e w3 ⟨rfl, bw3⟩
  rw [if_pos (show (l3 : Int) ≤ n - (l1 : Int) - (l2 : Int) by omega)]
  have BB3 := Lib.hid (Below.trans_size BB2.out bw3)
  clear bw3 A0 A1 A2 A3 A4 A5 A6 lt0
  obtain ⟨z0, -, hs3, -⟩ := blk1 BB3.out
  have A0 := cell_blk z0 0; have A1 := cell_blk z0 1; have A2 := cell_blk z0 2; have A3 := cell_blk z0 3; have A4 := cell_blk z0 4; have A5 := cell_blk z0 5; have A6 := cell_blk z0 6
  clear z0
  have lt0 : w.heap.size < w3.heap.size := (by omega)
  go_wp2_with fail
  go_ret
  exact ⟨rfl, (blk1 BB3.out).2.1⟩
end Go.Proofs.Ytcooabjcikcpiaa
