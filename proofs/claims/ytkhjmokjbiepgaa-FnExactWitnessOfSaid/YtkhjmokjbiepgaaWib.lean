/- added of the package: the sum without a fault. -/
import Derived.IntWalk
import Derived.Maps.AppendAt
import Derived.Deep.RegionLaw
import Derived.Deep.QuietTactic
import Derived.BigQuiet
import Derived.Test.YtkhjmokjbiepgaaWit
namespace Go.Proofs.Ytkhjmokjbiepgaa
open Go.ChangeShapes Go.WideShapes Go.ChangeAt Go.RowKit
def cfN (b : Int) (xs ys : List Int) (n : Nat) : List Int := (List.range n).map (cf b xs ys 0 0)
theorem kdA_zero (lv k : Nat) : kdA 0 lv k = 0 := by unfold kdA; split <;> rfl
theorem cf_zero (b : Int) (xs ys : List Int) (t : Nat) : cf b xs ys 0 0 (t + 1) = (nth xs t + nth ys t + cf b xs ys 0 0 t) / b := by
  show outF b _ _ (kdA 0 0 t) = _
  rw [kdA_zero]; unfold outF; simp
theorem ob_lit1 (w : World) (x : Int) : Own (w.alloc (.cells #[.int .i64 x] 2)) w.heap.size (.slice (some ⟨w.heap.size, 0, none⟩) 1 1) [x] := by
  exact ⟨rfl, .inr ⟨w.heap.size, 1, _, rfl, Nat.le_refl _, heap_last _ _, Nat.le_refl _, by unfold maxLen; omega, rfl, rfl⟩⟩
theorem apart_loc {q v v' : Value} {N : Nat} (hloc : v'.ownBlock = v.ownBlock ∨ v'.ownBlock = some N) (h : Apart q v) (hq : ∀ k, q.ownBlock = some k → k < N) : Apart q v' := fun k hk e => by
  rcases hloc with e2 | e2
  · exact h k hk (e2 ▸ e)
  · rw [e2] at e; injection e with e; have := hq k hk; omega
theorem cell_set (w : World) (g i : Nat) (u : Value) (x : Int) : ((w.setCell ⟨g, i, none⟩ u).alloc (.cells #[.int .i64 x] 2)).cell? ⟨w.heap.size, 0, none⟩ = some (.int .i64 x) := by
  have h := cell_blk (heap_last (w.setCell ⟨g, i, none⟩ u) (.cells #[.int .i64 x] 2)) 0
  have e : (w.setCell ⟨g, i, none⟩ u).heap.size = w.heap.size := by simp
  rw [e] at h
  exact h
/-- The call returns a register with a slice of its own, and some value; nothing that was there has turned. -/
def RetAggX (w : World) (b : Int) (zs : List Int) (e : Ending) (w' : World) : Prop := ∃ z q, e = .returned (.tuple #[.agg #[.int .i64 b, z], q]) ∧ Own w' w.heap.size z zs ∧ Below w.heap.size w w'
set_option maxHeartbeats 8000000 in
theorem impl_added {B1 B2 : Nat} {u v : Value} {xs ys : List Int} (b b2 : Int) (n : Nat) (w : World) (h1 : Own w B1 u xs) (h2 : Own w B2 v ys) (l1 : xs.length = n) (l2 : ys.length = n) (hn : n ≤ 16) (hb : 2 ≤ b) (hb2 : b ≤ 16)
    (hx : ∀ k, k < n → 0 ≤ nth xs k ∧ nth xs k < b) (hy : ∀ k, k < n → 0 ≤ nth ys k ∧ nth ys k < b) :
    Calls Try.prog 60 #[.agg #[.int .i64 b, u], .agg #[.int .i64 b2, v]] w (RetAggX w b (faL b xs ys 0 0 n)) := by
  have HCF := Lib.hid (cf_bd (kd := 0) (lv := 0) hb hx hy)
  have HX := Lib.hid hx; have HY := Lib.hid hy; clear hx hy
  obtain ⟨a1, p1, rfl, m1, q1⟩ := own_form h1
  obtain ⟨a2, p2, rfl, m2, q2⟩ := own_form h2
  rw [l1] at *; rw [l2] at *
  have Q1 := Lib.hid q1; have Q2 := Lib.hid q2; clear q1 q2 h1 h2 l1 l2
  go_enter Try.func60, Try.ntmps60
  go_wp2_with fail
  go_loopw [7, 8, 9, 17] (fun qq _ _ kk wr => ∃ (t : Nat) (q z : Value), kk = .int .i64 (t : Int) ∧ t ≤ n ∧ qq = q ∧ Own wr (w.heap.size + 1 + 1 + 1 + 1) q (cfN b xs ys (t + 1)) ∧ Own wr (w.heap.size + 1 + 1 + 1 + 1) z (faL b xs ys 0 0 t) ∧ Apart q z ∧ wr.heap[w.heap.size]? = some (.cells #[.int .i64 b, .slice a1 n p1] 41) ∧ wr.heap[w.heap.size + 1]? = some (.cells #[.int .i64 b2, .slice a2 n p2] 41) ∧ wr.heap[w.heap.size + 1 + 1]? = some (.cells #[.int .i64 0, .slice none 0 0] 41) ∧ wr.heap[w.heap.size + 1 + 1 + 1]? = some (.cells #[.int .i64 b, z] 41) ∧ Below w.heap.size w wr ∧ w.heap.size + 1 + 1 + 1 + 1 ≤ wr.heap.size) (fun _ _ _ kk _ => n - (intOf kk).toNat)
  case atStart =>
    obtain ⟨x0, x1, x2, bw, hs, he⟩ := blk3 (Below.refl (((w.alloc (.cells #[.int .i64 b, .slice a1 n p1] 41)).alloc (.cells #[.int .i64 b2, .slice a2 n p2] 41)).alloc (.cells #[.int .i64 0, .slice none 0 0] 41)).heap.size _)
    refine ⟨0, _, _, rfl, Nat.zero_le _, rfl, ?_, own_nil, fun k _ e => by simp [Value.ownBlock] at e, wk_al (wk_al x0), wk_al (wk_al x1), wk_al (wk_al x2), ?_, (bw.alloc (by rw [he]; omega) _).alloc (by simp; omega) _, by simp⟩
    · have h := ob_lit1 ((((w.alloc (.cells #[.int .i64 b, .slice a1 n p1] 41)).alloc (.cells #[.int .i64 b2, .slice a2 n p2] 41)).alloc (.cells #[.int .i64 0, .slice none 0 0] 41)).alloc (.cells #[.int .i64 b, .slice none 0 0] 41)) 0
      rw [show (((((w.alloc (.cells #[.int .i64 b, .slice a1 n p1] 41)).alloc (.cells #[.int .i64 b2, .slice a2 n p2] 41)).alloc (.cells #[.int .i64 0, .slice none 0 0] 41)).alloc (.cells #[.int .i64 b, .slice none 0 0] 41)).heap.size) = w.heap.size + 1 + 1 + 1 + 1 by simp] at h
      exact h
    · have h := heap_last (((w.alloc (.cells #[.int .i64 b, .slice a1 n p1] 41)).alloc (.cells #[.int .i64 b2, .slice a2 n p2] 41)).alloc (.cells #[.int .i64 0, .slice none 0 0] 41)) (.cells #[.int .i64 b, .slice none 0 0] 41)
      rw [he] at h
      exact wk_al h
  case round =>
    obtain ⟨t, q, z, rfl, ht, rfl, hoq, hoz, hap, hA, hB, hR, hS, hbw, hsz⟩ := hrel
    have HBW := Lib.hid hbw; have OQ := Lib.hid hoq; have OZ := Lib.hid hoz; have AP := Lib.hid hap
    have YA := Lib.hid hA; have YB := Lib.hid hB; have YR := Lib.hid hR; have YS := Lib.hid hS
    obtain ⟨aq, cq, rfl, -, qq⟩ := own_form hoq
    obtain ⟨az, cz, rfl, -, -⟩ := own_form hoz
    have lq : (cfN b xs ys (t + 1)).length = t + 1 := by simp [cfN]
    have lz : (faL b xs ys 0 0 t).length = t := by simp [faL]
    have lq16 : (cfN b xs ys (t + 1)).length ≤ 20 := by omega
    have lz16 : (faL b xs ys 0 0 t).length ≤ 16 := by omega
    have NZ : ∀ g, g < w.heap.size + 1 + 1 + 1 + 1 → (Value.slice az (faL b xs ys 0 0 t).length cz).ownBlock ≠ some g := fun g hg h => by have := (own_block_lt hoz _ h).1; omega
    have NQ : ∀ g, g < w.heap.size + 1 + 1 + 1 + 1 → (Value.slice aq (cfN b xs ys (t + 1)).length cq).ownBlock ≠ some g := fun g hg h => by have := (own_block_lt hoq _ h).1; omega
    have HNZ := Lib.hid NZ; have HNQ := Lib.hid NQ; clear NZ NQ
    by_cases hlt : t < n
    · obtain ⟨g1, e1, r1⟩ := Q1.out t hlt
      obtain ⟨g2, e2, r2⟩ := Q2.out t hlt
      obtain ⟨g3, e3, s3⟩ := qq t (by omega)
      rw [show nth (cfN b xs ys (t + 1)) t = cf b xs ys 0 0 t from nth_range_map _ (by omega)] at s3
      have gw1 : g1 < w.heap.size := World.block_lt_of_cell? w _ r1
      have gw2 : g2 < w.heap.size := World.block_lt_of_cell? w _ r2
      have s1 := (hbw.cell (p := ⟨g1, t, none⟩) gw1).trans r1
      have s2 := (hbw.cell (p := ⟨g2, t, none⟩) gw2).trans r2
      subst e1; subst e2; subst e3
      obtain ⟨X0, X1⟩ := HX.out t hlt; obtain ⟨Y0, Y1⟩ := HY.out t hlt; obtain ⟨C0, C1⟩ := HCF.out t (by omega)
      have HN := Lib.hid (show faL b xs ys 0 0 t ++ [(nth xs t + nth ys t + cf b xs ys 0 0 t) % b] = faL b xs ys 0 0 (t + 1) from (range_snoc _ _).symm)
      have HNC := Lib.hid (show cfN b xs ys (t + 1) ++ [(nth xs t + nth ys t + cf b xs ys 0 0 t) / b] = cfN b xs ys (t + 1 + 1) from by rw [← cf_zero]; exact (range_snoc _ _).symm)
      have i2 : (t : Int) < ((cfN b xs ys (t + 1)).length : Int) := by omega
      have zA0 := cell_blk hA 0; have zA1 := cell_blk hA 1; have zB1 := cell_blk hB 1
      have c0 := cell_blk hS 0; have c1 := cell_blk hS 1; have f1 := frozen_blk hS 1
      clear r1 r2 hbw hoq hoz hap hA hB hR hS lz lq qq
      generalize faL b xs ys 0 0 t = L at *
      generalize cfN b xs ys (t + 1) = LC at *
      generalize cf b xs ys 0 0 t = C at *
      generalize nth xs t = X at *
      generalize nth ys t = Y at *
      have zb : ¬ b = 0 := by omega
      have tq : (X + Y + C).tdiv b = (X + Y + C) / b := Int.tdiv_eq_ediv_of_nonneg (by omega)
      have tm : (X + Y + C).tmod b = (X + Y + C) % b := Int.tmod_eq_emod_of_nonneg (by omega)
      have D0 : 0 ≤ (X + Y + C) % b := Int.emod_nonneg _ zb
      have D1 : (X + Y + C) % b < b := Int.emod_lt_of_pos _ (by omega)
      have QB0 : 0 ≤ (X + Y + C) / b := Int.ediv_nonneg (by omega) (by omega)
      have QB1 : (X + Y + C) / b ≤ X + Y + C := Int.ediv_le_self _ (by omega)
      generalize (X + Y + C) % b = D at *
      generalize (X + Y + C) / b = Q at *
      have w1 : IntKind.i64.wrap (X + Y) = X + Y := IntWalk.i64_in _ (by omega)
      have w2 : IntKind.i64.wrap (X + Y + C) = X + Y + C := IntWalk.i64_in _ (by omega)
      have w3 : IntKind.i64.wrap D = D := IntWalk.i64_in _ (by omega)
      have w4 : IntKind.i64.wrap Q = Q := IntWalk.i64_in _ (by omega)
      have i0 : (0 : Int) ≤ (t : Int) := by omega
      have i1 : (t : Int) < (n : Int) := by omega
      go_wp2_with fail
      go_quiet (fail)
      clear i0 i1 i2 s1 s2 s3 zB1 zA1 zA0 c0 c1 f1
      go_wp2_with fail
      generalize hwn : wr.drewN nq = wn
      have BN : Below wr.heap.size wr wn := by rw [← hwn]; exact below_drewN wr nq
      have sn : wr.heap.size ≤ wn.heap.size := BN.size
      have HBn := Lib.hid (Below.trans_size HBW.out BN)
      have OZn := Lib.hid (own_keep BN OZ.out); have OQn := Lib.hid (own_keep BN OQ.out)
      have YAn := Lib.hid ((BN.block w.heap.size (by omega)).trans YA.out); have YBn := Lib.hid ((BN.block (w.heap.size + 1) (by omega)).trans YB.out); have YRn := Lib.hid ((BN.block (w.heap.size + 1 + 1) (by omega)).trans YR.out); have YSn := Lib.hid ((BN.block (w.heap.size + 1 + 1 + 1) (by omega)).trans YS.out)
      have zA0 := cell_blk YAn.out 0; have c0 := cell_blk YSn.out 0; have c1 := cell_blk YSn.out 1; have f1 := frozen_blk YSn.out 1
      have l1 : w.heap.size < wn.heap.size := by omega
      have l3 : w.heap.size + 1 + 1 + 1 < wn.heap.size := by omega
      clear hwn BN
      go_region_law ((refine step_app_at (by rfl) _ _ (by rfl) _ _ (own_alloc (own_drew OZn.out) _) (by rfl) (by rfl) (by simp; rfl) (by omega) (by simp; omega) ?_; intro v' w9 ho' hg' hloc; obtain ⟨hb', hs'⟩ := app_below HBn.out.drew (own_drew OZn.out) hg' (show w.heap.size ≤ w.heap.size + 1 + 1 + 1 + 1 by omega) (show w.heap.size ≤ wn.heap.size by omega); have x0 := wk_carryG (w := wn.drew) (show World.grownBy (wn.drew.alloc _) w9 _ from hg') YAn.out (fun e => HNZ.out _ (by omega) e.symm); have x1 := wk_carryG (w := wn.drew) (show World.grownBy (wn.drew.alloc _) w9 _ from hg') YBn.out (fun e => HNZ.out _ (by omega) e.symm); have x2 := wk_carryG (w := wn.drew) (show World.grownBy (wn.drew.alloc _) w9 _ from hg') YRn.out (fun e => HNZ.out _ (by omega) e.symm); have x3 := wk_carryG (w := wn.drew) (show World.grownBy (wn.drew.alloc _) w9 _ from hg') YSn.out (fun e => HNZ.out _ (by omega) e.symm); have hs9 := hg'.size; have AP9 := Lib.hid (apart_loc hloc AP.out (fun k hk => by have := (own_block_lt OQn.out k hk).2; (first | (simp; omega) | omega))); have OQ9 := Lib.hid (apart_grown (own_alloc (own_drew OQn.out) _) hg' AP.out); have NZ9 := Lib.hid (show ∀ g, g < w.heap.size + 1 + 1 + 1 + 1 → v'.ownBlock ≠ some g from fun g hg h => by have := (own_block_lt ho' _ h).1; omega); obtain ⟨av, cv, rfl, -, -⟩ := own_form ho'; have zA0 := cell_blk x0 0; have c0 := cell_blk x3 0; have c1 := cell_blk x3 1; have f1 := frozen_blk x3 1; have X0' := Lib.hid x0; have X1' := Lib.hid x1; have X2' := Lib.hid x2; have X3' := Lib.hid x3; have O9 := Lib.hid ho'; have B9 := Lib.hid hb'; have sz9 : w.heap.size + 1 + 1 + 1 + 1 ≤ w9.heap.size := (by simp at hs9; omega); have l9 : w.heap.size < w9.heap.size := (by omega); have l93 : w.heap.size + 1 + 1 + 1 < w9.heap.size := (by omega); clear ho' hb' hg' hloc x0 x1 x2 x3 hs9))
      all_goals (
      clear tm w1 w2 w3
      go_wp2_with (at_builtin; refine wp_app_at rfl _ _ rfl _ _ (own_alloc (own_setCell_ne OQ9.out (HNQ.out _ (by omega))) _) rfl rfl (by first | (simp; done) | (simp; rfl) | exact cell_set _ _ _ _ _ | exact cell_blk (heap_last _ _) 0) (by omega) (by first | (simp; done) | (simp; omega)) ?_; intro v'' w10 hoq hgq hlocq; have OQ10 := Lib.hid hoq; have GQ := Lib.hid hgq; have LQ := Lib.hid hlocq; have hs10 := hgq.size; clear hoq hgq hlocq)
      go_wp2_with fail
      go_roundw
      case rel =>
        refine ⟨t + 1, _, _, by go_num, by omega, rfl, by rw [← HNC.out]; exact OQ10.out, by rw [← HN.out]; exact apart_grown (own_alloc (own_setCell_ne O9.out (NZ9.out _ (by omega))) _) GQ.out AP9.out.symm, (apart_loc LQ.out AP9.out.symm (fun k hk => by have := (own_block_lt O9.out k hk).2; (first | (simp; omega) | omega))).symm, wk_carryG GQ.out (wk_keep X0'.out (by omega)) (fun e => HNQ.out _ (by omega) e.symm), wk_carryG GQ.out (wk_keep X1'.out (by omega)) (fun e => HNQ.out _ (by omega) e.symm), wk_carryG GQ.out (wk_keep X2'.out (by omega)) (fun e => HNQ.out _ (by omega) e.symm), wk_carryG GQ.out (by simpa using setCell_blk X3'.out _) (fun e => HNQ.out _ (by omega) e.symm), ((B9.out.setCell (by simp <;> omega) _).alloc (by simp <;> omega) _).grown GQ.out (by simp <;> omega) (fun k hk => by have := (own_block_lt OQ9.out k hk).1; omega), by simp at hs10; omega⟩
      case measure => first | (simp [intOf]; done) | (simp [intOf]; omega))
    · obtain rfl : t = n := by omega
      have d0 := cell_blk hS 0; have d1 := cell_blk hS 1
      have r0 := cell_blk hR 0; have r1 := cell_blk hR 1; have g0 := frozen_blk hR 0; have g1 := frozen_blk hR 1
      generalize faL b xs ys 0 0 t = L at *
      generalize cfN b xs ys (t + 1) = LC at *
      clear hoq hoz hap hA hB hR hS hbw lq lz qq
      go_wp2_with fail
      refine bodyPost_ret (v := .tuple #[.agg #[.int .i64 b, .slice az L.length cz], .slice aq LC.length cq]) (by simp [results, Try.results60, go_sem, *]) rfl ?_
      exact ⟨_, _, rfl, own_base (own_setCell_ne (own_setCell_ne OZ.out (HNZ.out _ (by omega))) (HNZ.out _ (by omega))) (by omega), (HBW.out.setCell (by simp <;> omega) _).setCell (by simp <;> omega) _⟩
end Go.Proofs.Ytkhjmokjbiepgaa
