/- l08Shows of the reference. -/
import Derived.IntWalk
import Derived.Deep.QuietTactic
import Derived.BigQuiet
import Derived.Test.YtkhjmokjbiepgaaWd
namespace Go.Proofs.Ytkhjmokjbiepgaa
open Go.ChangeShapes Go.WideShapes Go.ChangeAt Go.RowKit
set_option maxHeartbeats 2000000 in
theorem spec_l02Same_q {B1 B2 : Nat} {u v : Value} {xs ys : List Int} (a b : Int) (g1 g2 o : Nat) (w : World) (h1 : Own w B1 u xs) (h2 : Own w B2 v ys)
    (p1 : w.cell? ⟨g1, o, none⟩ = some (.int .i64 a)) (p2 : w.cell? ⟨g1, o + 1, none⟩ = some u) (p3 : w.cell? ⟨g2, o, none⟩ = some (.int .i64 b)) (p4 : w.cell? ⟨g2, o + 1, none⟩ = some v) :
    Calls Try.prog 82 #[.pointer (some ⟨g1, o, none⟩), .pointer (some ⟨g2, o, none⟩)] w fun e w' => e = .returned (.bool (sameR a b xs ys)) ∧ ∃ m, w' = w.drewN m := by
  have H1 := Lib.hid h1; have H2 := Lib.hid h2
  obtain ⟨a1, c1, rfl, -, -⟩ := own_form h1
  obtain ⟨a2, c2, rfl, -, -⟩ := own_form h2
  clear h1 h2
  by_cases e : a = b
  · have HF := Lib.hid (show sameR a b xs ys = decide (xs = ys) from by simp [sameR, e])
    subst e
    go_enter Try.func82, Try.ntmps82
    go_wp2_with fail
    go_quiet ((go_at_call 93; exact quiet_D (spec_l00Same_q _ H1.out H2.out)))
    go_wp2_with fail
    go_ret
    exact ⟨by rw [HF.out]; rfl, by first | exact ⟨_, rfl⟩ | exact drewN_ex _ _ _⟩
  · have HF := Lib.hid (show sameR a b xs ys = false from by simp [sameR, e])
    have e1 : (a == b) = false := by simp [e]
    clear e
    go_enter Try.func82, Try.ntmps82
    go_wp2_with fail
    go_quiet (fail)
    go_wp2_with fail
    go_ret
    exact ⟨by rw [HF.out]; rfl, by first | exact ⟨_, rfl⟩ | exact drewN_ex _ _ _⟩
set_option maxHeartbeats 1000000 in
set_option maxRecDepth 100000 in
theorem spec_l08Shows {B1 B2 gl ga gb : Nat} {u v : Value} {xs ys : List Int} (b kd : Int) (lv n : Nat) (w : World) (h1 : Own w B1 u xs) (h2 : Own w B2 v ys) (l1 : xs.length = n) (l2 : ys.length = n) (hn : n ≤ 16) (hb : 2 ≤ b) (hb2 : b ≤ 16)
    (hx : ∀ k, k < n → 0 ≤ nth xs k ∧ nth xs k < b) (hy : ∀ k, k < n → 0 ≤ nth ys k ∧ nth ys k < b) (hk1 : 1 ≤ kd) (hk2 : kd ≤ 3) (hl : lv < n)
    (ca0 : w.cell? ⟨ga, 0, none⟩ = some (.int .i64 b)) (ca1 : w.cell? ⟨ga, 1, none⟩ = some u) (cb1 : w.cell? ⟨gb, 1, none⟩ = some v)
    (c0 : w.cell? ⟨gl, 0, none⟩ = some (.int .i64 kd)) (c1 : w.cell? ⟨gl, 1, none⟩ = some (.int .i64 (lv : Int))) :
    Calls Try.prog 53 #[.pointer (some ⟨ga, 0, none⟩), .pointer (some ⟨gb, 0, none⟩), .slice (some ⟨gl, 0, none⟩) 1 1] w fun e w' => ∃ s, e = .returned (.tuple #[.bool s, .bool (validR b (faL b xs ys kd lv n) && validR b (faL b xs ys 0 0 n))]) ∧ Below w.heap.size w w' := by
  have gla : ga < w.heap.size := World.block_lt_of_cell? w _ ca0
  have glb : gb < w.heap.size := World.block_lt_of_cell? w _ cb1
  have C1 := Lib.hid (spec_l08Add b kd lv n w h1 h2 l1 l2 hn hb hb2 hx hy hk1 hk2 hl ca0 ca1 cb1 c0 c1)
  have C2 := Lib.hid (fun wx (k1 : Own wx B1 u xs) (k2 : Own wx B2 v ys) d0 d1 d2 => spec_l02Add (ga := ga) (gb := gb) b n wx k1 k2 l1 l2 hn hb hb2 hx hy d0 d1 d2)
  have H1 := Lib.hid h1; have H2 := Lib.hid h2
  have CA0 := Lib.hid ca0; have CA1 := Lib.hid ca1; have CB1 := Lib.hid cb1
  have LX : (faL b xs ys kd lv n).length = n := by simp [faL]
  have LY : (faL b xs ys 0 0 n).length = n := by simp [faL]
  clear h1 h2 l1 l2 hx hy ca0 ca1 cb1 c0 c1
  generalize faL b xs ys kd lv n = X at *
  generalize faL b xs ys 0 0 n = Y at *
  generalize cf b xs ys kd lv n = C at *
  generalize cf b xs ys 0 0 n = D at *
  have VX := Lib.hid (fun g0 (wx : World) (B : Nat) (z : Value) (k : Own wx B z X) d0 d1 => spec_l02Ok (B := B) (v := z) (xs := X) b g0 wx k d0 d1 (by rw [LX]; omega))
  have VY := Lib.hid (fun g0 (wx : World) (B : Nat) (z : Value) (k : Own wx B z Y) d0 d1 => spec_l02Ok (B := B) (v := z) (xs := Y) b g0 wx k d0 d1 (by rw [LY]; omega))
  generalize validR b X = vx at *
  generalize validR b Y = vy at *
  go_enter Try.func53, Try.ntmps53
  go_wp2_with fail
  refine C1.out.mono ?_; rintro e w1 ⟨vx, rfl, ox, b1⟩
  have OX := Lib.hid ox; have B1' := Lib.hid b1
  have U1 := Lib.hid (own_keep b1 H1.out); have U2 := Lib.hid (own_keep b1 H2.out)
  have a0 := (b1.cell (p := ⟨ga, 0, none⟩) gla).trans CA0.out
  have a1 := (b1.cell (p := ⟨ga, 1, none⟩) gla).trans CA1.out
  have a2 := (b1.cell (p := ⟨gb, 1, none⟩) glb).trans CB1.out
  have A0 := Lib.hid a0; have A1 := Lib.hid a1; have A2 := Lib.hid a2
  obtain ⟨ax, cx, hvx, -, -⟩ := own_form ox
  rw [LX] at hvx; subst hvx
  clear ox b1 a0 a1 a2
  go_wp2_with fail
  refine (C2.out _ (own_alloc U1.out _) (own_alloc U2.out _) (al_cell A0.out _) (al_cell A1.out _) (al_cell A2.out _)).mono ?_; rintro e w2 ⟨vy, rfl, oy, b2⟩
  obtain ⟨yx, bw2, s2, e2⟩ := blk1 b2
  have OX2 := Lib.hid (own_keep b2 (own_alloc OX.out _)); have OY := Lib.hid oy
  have BW := Lib.hid (Below.trans_size B1'.out bw2)
  obtain ⟨ay, cy, hvy, -, -⟩ := own_form oy
  rw [LY] at hvy; subst hvy
  clear b2 bw2 oy
  go_wp2_with fail
  have yx3 := wk_al (A := .cells #[.int .i64 b, .slice ay n cy] 41) yx
  have yy3 := heap_last w2 (.cells #[.int .i64 b, .slice ay n cy] 41)
  have OX3 := Lib.hid (own_alloc OX2.out (.cells #[.int .i64 b, .slice ay n cy] 41))
  have OY3 := Lib.hid (own_alloc OY.out (.cells #[.int .i64 b, .slice ay n cy] 41))
  have BW3 := Lib.hid (BW.out.alloc BW.out.size (.cells #[.int .i64 b, .slice ay n cy] 41))
  generalize (w2.alloc (.cells #[.int .i64 b, .slice ay n cy] 41)) = w3 at *
  have p1 := cell_blk yx3 0; have p2 := cell_blk yx3 1; have p3 := cell_blk yy3 0; have p4 := cell_blk yy3 1
  have S1 := Lib.hid (spec_l02Same_q b b w1.heap.size w2.heap.size 0 w3 OX3.out OY3.out p1 p2 p3 p4)
  have V1 := Lib.hid (fun k => VX.out w1.heap.size (w3.drewN k) _ _ (own_drewN OX3.out k) p1 p2)
  have V2 := Lib.hid (fun k => VY.out w2.heap.size (w3.drewN k) _ _ (own_drewN OY3.out k) p3 p4)
  clear yx yx3 yy3 p1 p2 p3 p4
  generalize sameR b b X Y = sm at *
  cases sm
  all_goals (
  cases vx
  all_goals (
  refine S1.out.mono ?_; rintro e w4 ⟨rfl, k1, rfl⟩
  go_wp2_with fail
  refine (V1.out k1).mono ?_; rintro e w5 ⟨rfl, k2, hk2⟩
  obtain ⟨k3, hk3⟩ := drewN_ex w3 k1 k2
  rw [hk3] at hk2; subst hk2
  go_wp2_with fail
  first
  | (go_ret2; exact ⟨_, rfl, BW3.out.trans (drewN_below _ _ _)⟩)
  | (refine (V2.out k3).mono ?_; rintro e w6 ⟨rfl, k4, hk4⟩; subst hk4; go_wp2_with fail; go_ret2; exact ⟨_, rfl, BW3.out.trans (drewN_below _ w3 _)⟩)))
end Go.Proofs.Ytkhjmokjbiepgaa
