/- AddTurns of the package. -/
import Derived.IntWalk
import Derived.Test.YtkhjmokjbiepgaaTad
namespace Go.Proofs.Ytkhjmokjbiepgaa
open Go.ChangeShapes Go.WideShapes Go.ChangeAt Go.RowKit
set_option maxHeartbeats 4000000 in
theorem impl_AddTurns_x {B1 B2 : Nat} {u v : Value} {xs ys : List Int} (a : Int) (w : World) (h1 : Own w B1 u xs) (h2 : Own w B2 v ys) (hx : xs.length ≤ 1048576) (hy : ys.length ≤ 1048576)
    (hva : validT a xs = true) (hvb : validT a ys = true) (M : Nat) (hM : M = max xs.length ys.length) (hMx : M ≤ xs.length) :
    Calls Try.prog 10 #[.agg #[.int .i64 a, u], .agg #[.int .i64 a, v]] w (RetAggI w (addB a a xs ys) (addL a a xs ys) (addC a a xs ys)) := by
  have H1 := Lib.hid h1; have H2 := Lib.hid h2
  obtain ⟨p1, c1, rfl, m1, q1⟩ := own_form h1
  obtain ⟨p2, c2, rfl, m2, q2⟩ := own_form h2
  have Q1 := Lib.hid q1; have Q2 := Lib.hid q2
  have HVA := Lib.hid hva; have HVB := Lib.hid hvb
  clear h1 h2 q1 q2
  obtain ⟨-, lx, ax, -⟩ := validT_parts hva
  obtain ⟨-, ly, ay, -⟩ := validT_parts hvb
  have AX := Lib.hid ax; have AY := Lib.hid ay
  have m40 : M ≤ 40 := by omega
  have mx : xs.length ≤ M := by omega
  have my : ys.length ≤ M := by omega
  have HM := Lib.hid hM
  clear hM
  have HC := Lib.hid (show addC a a xs ys = if validT a (addR xs ys) then 0 else 5 from by simp [addC, hva, hvb])
  clear hvb hva ax ay
  go_enter Try.func10, Try.ntmps10
  go_wp2_with fail
  refine (impl_ValidTurns a _ (own_alloc (own_alloc (own_alloc H1.out _) _) _) hx).mono ?_; rintro e w1 ⟨rfl, b1⟩; rw [HVA.out]
  obtain ⟨x0, x1, x2, bw, hs, -⟩ := blk3 b1
  have O1 := Lib.hid (own_keep b1 (own_alloc (own_alloc (own_alloc H1.out _) _) _)); have O2 := Lib.hid (own_keep b1 (own_alloc (own_alloc (own_alloc H2.out _) _) _))
  have X0 := Lib.hid x0; have X1 := Lib.hid x1; have e0 := cell_blk x1 0; have e1 := cell_blk x1 1
  have X2 := Lib.hid x2; have BW := Lib.hid bw; clear b1 bw x2 x0 x1
  go_wp2_with fail
  refine (impl_ValidTurns a _ O2.out hy).mono ?_; rintro e w2 ⟨rfl, b2⟩; rw [HVB.out]
  have x0 := (b2.block _ (Array.getElem?_eq_some_iff.1 X0.out).1).trans X0.out
  have x1 := (b2.block _ (Array.getElem?_eq_some_iff.1 X1.out).1).trans X1.out
  have x2 := (b2.block _ (Array.getElem?_eq_some_iff.1 X2.out).1).trans X2.out
  have Y0 := Lib.hid x0; have Y1 := Lib.hid x1; have Y2 := Lib.hid x2
  have P1 := Lib.hid (own_keep b2 O1.out); have P2 := Lib.hid (own_keep b2 O2.out)
  have BW2 := Lib.hid (Below.trans_size BW.out b2); have hs2 := b2.size
  clear b2 e0 e1 O1 O2 X0 X1 X2 BW
  have e0 := cell_blk x1 0; have e1 := cell_blk x1 1; have d0 := cell_blk x0 0; have d1 := cell_blk x0 1
  clear x2 x0 x1
  have g0 : w.heap.size < w2.heap.size := by omega
  have g1 : w.heap.size + 1 < w2.heap.size := by omega
  go_wp2_with fail
  go_loopw [7, 8, 34] (fun _ _ kk wr => ∃ (j : Nat) (v : Value), kk = .int .i64 j ∧ j ≤ M ∧ Own wr w2.heap.size v (sumL xs ys j) ∧ some w2.heap.size ≠ v.ownBlock ∧ wr.heap[w2.heap.size]? = some (.cells #[.int .i64 a, v] 26) ∧ Below w2.heap.size w2 wr ∧ w2.heap.size + 1 ≤ wr.heap.size) (fun _ _ kk _ => M - (intOf kk).toNat)
  case atStart => exact ⟨0, _, rfl, by omega, own_nil, by simp [Value.ownBlock], heap_last _ _, (Below.refl _ _).alloc (Nat.le_refl _) _, by simp⟩
  case round =>
    obtain ⟨j, v, rfl, hj, ho, nb, hh, hbw, hsz⟩ := hrel
    have HO := Lib.hid ho; have NB := Lib.hid nb; have HH := Lib.hid hh; have HB := Lib.hid hbw
    obtain ⟨a0, cap, rfl, -, -⟩ := own_form ho
    rw [sumL_len] at *
    have s0 := cell_blk hh 0; have s1 := cell_blk hh 1; have s2 := frozen_blk hh 1; have s3 := frozen_blk hh 0
    have e0' := (hbw.cell g1).trans e0; have e1' := (hbw.cell g1).trans e1
    have d0' := (hbw.cell g0).trans d0; have d1' := (hbw.cell g0).trans d1
    clear ho nb hh hbw e0 e1 d0 d1
    by_cases hlt : j < M
    · by_cases hjx : j < xs.length
      · by_cases hjy : j < ys.length
        · obtain ⟨gx, rfl, qx⟩ := Q1.out j hjx
          have lx0 : gx < w.heap.size := World.block_lt_of_cell? w _ qx
          have lx1 : gx < w2.heap.size := by omega
          have rx := (HB.out.cell (p := ⟨gx, j, none⟩) lx1).trans ((BW2.out.cell (p := ⟨gx, j, none⟩) lx0).trans qx)
          have tx := inB_iff.1 (all_get AX.out (j := j) hjx)
          obtain ⟨tx0, tx1⟩ := tx
          clear qx
          obtain ⟨gy, rfl, qy⟩ := Q2.out j hjy
          have ly0 : gy < w.heap.size := World.block_lt_of_cell? w _ qy
          have ly1 : gy < w2.heap.size := by omega
          have ry := (HB.out.cell (p := ⟨gy, j, none⟩) ly1).trans ((BW2.out.cell (p := ⟨gy, j, none⟩) ly0).trans qy)
          have ty := inB_iff.1 (all_get AY.out (j := j) hjy)
          obtain ⟨ty0, ty1⟩ := ty
          clear qy
          have HS := Lib.hid (show sumL xs ys (j + 1) = sumL xs ys j ++ [nth xs j + nth ys j] from by rw [sumL_step])
          go_wp2_with (at_builtin; refine wp_app_at rfl _ _ rfl _ _ (own_alloc HO.out _) rfl rfl (by simp; rfl) (by rw [sumL_len]; omega) (by simp; omega) ?_; intro v' w9 ho' hg' hloc; obtain ⟨hb', hs'⟩ := app_below HB.out HO.out hg' (Nat.le_refl _) (by omega); have x5 := (hg'.block w2.heap.size (by simp; omega) NB.out).trans ((Below.heap_alloc _ _ _ (by omega)).trans HH.out); have hs9 := hg'.size; have M5 := Lib.hid (loc_ne hloc NB.out (by simp; omega)); obtain ⟨av, cv, rfl, -, -⟩ := own_form ho'; have c0' := cell_blk x5 0; have c1' := cell_blk x5 1; have f1 := frozen_blk x5 1; have X5 := Lib.hid x5; have O9 := Lib.hid ho'; have B9 := Lib.hid hb'; clear ho' hb' hg' hloc x5)
          go_wp2_with fail
          go_roundw
          case rel => exact ⟨j + 1, _, by go_num, by omega, by rw [HS.out]; exact own_setCell_ne O9.out M5.out, fun e => M5.out e.symm, by first | exact setCell_blk X5.out _ | (rw [List.length_append]; exact setCell_blk X5.out _), B9.out.setCell (by simp; try omega) _, by simp at *; omega⟩
          case measure => first | (simp [intOf]; done) | (simp [intOf]; omega)
        · first
            | (exfalso; omega)
            | (obtain ⟨gx, rfl, qx⟩ := Q1.out j hjx
               have lx0 : gx < w.heap.size := World.block_lt_of_cell? w _ qx
               have lx1 : gx < w2.heap.size := by omega
               have rx := (HB.out.cell (p := ⟨gx, j, none⟩) lx1).trans ((BW2.out.cell (p := ⟨gx, j, none⟩) lx0).trans qx)
               have tx := inB_iff.1 (all_get AX.out (j := j) hjx)
               obtain ⟨tx0, tx1⟩ := tx
               clear qx
               have zy := Lib.hid (nth_out (l := ys) hjy)
               have HS := Lib.hid (show sumL xs ys (j + 1) = sumL xs ys j ++ [nth xs j] from by rw [sumL_step]; rw [zy.out]; simp)
               go_wp2_with (at_builtin; refine wp_app_at rfl _ _ rfl _ _ (own_alloc HO.out _) rfl rfl (by simp; rfl) (by rw [sumL_len]; omega) (by simp; omega) ?_; intro v' w9 ho' hg' hloc; obtain ⟨hb', hs'⟩ := app_below HB.out HO.out hg' (Nat.le_refl _) (by omega); have x5 := (hg'.block w2.heap.size (by simp; omega) NB.out).trans ((Below.heap_alloc _ _ _ (by omega)).trans HH.out); have hs9 := hg'.size; have M5 := Lib.hid (loc_ne hloc NB.out (by simp; omega)); obtain ⟨av, cv, rfl, -, -⟩ := own_form ho'; have c0' := cell_blk x5 0; have c1' := cell_blk x5 1; have f1 := frozen_blk x5 1; have X5 := Lib.hid x5; have O9 := Lib.hid ho'; have B9 := Lib.hid hb'; clear ho' hb' hg' hloc x5)
               go_wp2_with fail
               go_roundw
               case rel => exact ⟨j + 1, _, by go_num, by omega, by rw [HS.out]; exact own_setCell_ne O9.out M5.out, fun e => M5.out e.symm, by first | exact setCell_blk X5.out _ | (rw [List.length_append]; exact setCell_blk X5.out _), B9.out.setCell (by simp; try omega) _, by simp at *; omega⟩
               case measure => first | (simp [intOf]; done) | (simp [intOf]; omega))
      · have hjy : j < ys.length := by omega
        first
          | (exfalso; omega)
          | (have zx := Lib.hid (nth_out (l := xs) hjx)
             obtain ⟨gy, rfl, qy⟩ := Q2.out j hjy
             have ly0 : gy < w.heap.size := World.block_lt_of_cell? w _ qy
             have ly1 : gy < w2.heap.size := by omega
             have ry := (HB.out.cell (p := ⟨gy, j, none⟩) ly1).trans ((BW2.out.cell (p := ⟨gy, j, none⟩) ly0).trans qy)
             have ty := inB_iff.1 (all_get AY.out (j := j) hjy)
             obtain ⟨ty0, ty1⟩ := ty
             clear qy
             have HS := Lib.hid (show sumL xs ys (j + 1) = sumL xs ys j ++ [nth ys j] from by rw [sumL_step]; rw [zx.out]; simp)
             go_wp2_with (at_builtin; refine wp_app_at rfl _ _ rfl _ _ (own_alloc HO.out _) rfl rfl (by simp; rfl) (by rw [sumL_len]; omega) (by simp; omega) ?_; intro v' w9 ho' hg' hloc; obtain ⟨hb', hs'⟩ := app_below HB.out HO.out hg' (Nat.le_refl _) (by omega); have x5 := (hg'.block w2.heap.size (by simp; omega) NB.out).trans ((Below.heap_alloc _ _ _ (by omega)).trans HH.out); have hs9 := hg'.size; have M5 := Lib.hid (loc_ne hloc NB.out (by simp; omega)); obtain ⟨av, cv, rfl, -, -⟩ := own_form ho'; have c0' := cell_blk x5 0; have c1' := cell_blk x5 1; have f1 := frozen_blk x5 1; have X5 := Lib.hid x5; have O9 := Lib.hid ho'; have B9 := Lib.hid hb'; clear ho' hb' hg' hloc x5)
             go_wp2_with fail
             go_roundw
             case rel => exact ⟨j + 1, _, by go_num, by omega, by rw [HS.out]; exact own_setCell_ne O9.out M5.out, fun e => M5.out e.symm, by first | exact setCell_blk X5.out _ | (rw [List.length_append]; exact setCell_blk X5.out _), B9.out.setCell (by simp; try omega) _, by simp at *; omega⟩
             case measure => first | (simp [intOf]; done) | (simp [intOf]; omega))
    · obtain rfl : j = M := by omega
      obtain ⟨S, hS⟩ : ∃ S, S = sumL xs ys j := ⟨_, rfl⟩
      have HL := Lib.hid (show S.length = j from by rw [hS]; exact sumL_len xs ys j)
      have HSS := Lib.hid (show addR xs ys = trimL S from by rw [hS, HM.out]; rfl)
      have HOS := Lib.hid (show Own wr w2.heap.size (.slice a0 j cap) S from by rw [hS]; exact HO.out)
      clear hS HO
      go_wp2_with fail
      clear s0 s1 s2 s3
      go_loopw [72] (fun _ wz => ∃ n : Nat, n ≤ j ∧ Own wz w2.heap.size (.slice a0 n cap) (S.take n) ∧ wz.heap[w2.heap.size]? = some (.cells #[.int .i64 a, .slice a0 n cap] 26) ∧ Below w2.heap.size w2 wz ∧ w2.heap.size + 1 ≤ wz.heap.size ∧ Hid (trimN S n = trimN S j) ∧ Hid ((Value.slice a0 n cap).ownBlock ≠ some w2.heap.size)) (fun _ wz => lenAt wz w2.heap.size)
      case atStart => exact ⟨j, Nat.le_refl _, by rw [List.take_of_length_le (Nat.le_of_eq HL.out)]; exact HOS.out, HH.out, HB.out, hsz, rfl, fun e => NB.out e.symm⟩
      case round =>
        obtain ⟨n, hn, zo, zh, zb, zs, zt, zn⟩ := hrel
        have ZO := Lib.hid zo; have ZH := Lib.hid zh; have ZB := Lib.hid zb
        have s0 := cell_blk zh 0; have s1 := cell_blk zh 1; have s2 := frozen_blk zh 1; have s3 := frozen_blk zh 0
        have HLA := Lib.hid (lenAt_of s1)
        have y2 := (zb.block _ (show w.heap.size + 1 + 1 < w2.heap.size by omega)).trans Y2.out
        have U2 := Lib.hid y2
        clear e0' e1' d0' d1' zb y2
        by_cases hn0 : n = 0
        · subst hn0
          have HT := Lib.hid (show S.take 0 = addR xs ys from by rw [HSS.out, trimL, HL.out, ← zt.out]; rfl)
          clear HLA
          have HN := Lib.hid (show (S.take (0)).length ≤ 1048576 from by rw [List.length_take]; omega)
          go_wp2_with fail
          refine (impl_ValidTurns a _ ZO.out HN.out).mono ?_; rintro e w5 ⟨rfl, b5⟩; rw [HT.out]
          have z5 := (b5.block _ (Array.getElem?_eq_some_iff.1 ZH.out).1).trans ZH.out
          have y5 := (b5.block _ (Array.getElem?_eq_some_iff.1 U2.out).1).trans U2.out
          have O5 := Lib.hid (own_keep b5 ZO.out)
          have B5 := Lib.hid (Below.trans_size BW2.out (Below.trans_size ZB.out b5))
          have hs5 := b5.size
          clear s0 s1 s2 s3 b5
          have s0 := cell_blk z5 0; have s1 := cell_blk z5 1
          have r0 := cell_blk y5 0; have r1 := cell_blk y5 1; have r2 := frozen_blk y5 0; have r3 := frozen_blk y5 1
          clear z5 y5
          cases hvr : validT a (addR xs ys)
          · have HC5 := Lib.hid (show addC a a xs ys = 5 from by rw [HC.out, hvr]; rfl)
            clear hvr
            go_wp2_with fail
            refine bodyPost_ret (v := .tuple #[.agg #[.int .i64 0, .slice none 0 0], .int .i64 5]) (by simp [results, Try.results10, go_sem, *]) rfl ?_
            rw [show addB a a xs ys = 0 from by simp [addB, HC5.out], show addL a a xs ys = [] from by simp [addL, HC5.out], HC5.out]
            exact ⟨_, rfl, own_nil, by first | exact (B5.out.setCell (by simp; omega) _).setCell (by simp; omega) _ | exact B5.out⟩
          · have HC5 := Lib.hid (show addC a a xs ys = 0 from by rw [HC.out, hvr]; rfl)
            clear hvr
            go_wp2_with fail
            refine bodyPost_ret (v := .tuple #[.agg #[.int .i64 a, .slice a0 (0) cap], .int .i64 0]) (by simp [results, Try.results10, go_sem, *]) rfl ?_
            rw [show addB a a xs ys = a from by simp [addB, HC5.out], show addL a a xs ys = addR xs ys from by simp [addL, HC5.out], HC5.out, ← HT.out]
            exact ⟨_, rfl, own_base (ownsRow_setCell_below (ownsRow_setCell_below O5.out (by simp; omega) _) (by simp; omega) _) (by omega), (B5.out.setCell (by simp; omega) _).setCell (by simp; omega) _⟩
        · obtain ⟨m, rfl⟩ : ∃ m, n = m + 1 := ⟨n - 1, by omega⟩
          have hmS : m + 1 ≤ S.length := by rw [HL.out]; exact hn
          obtain ⟨g, rfl, qg⟩ : ∃ g, a0 = some ⟨g, 0, none⟩ ∧ wr.cell? ⟨g, m, none⟩ = some (.int .i64 (nth S m)) := by
            rcases own_cases zo with ⟨e, -⟩ | ⟨g, cp, e, -, -, -, -, hc, -⟩
            · simp at e
            · refine ⟨g, by simp at e; exact e.1, ?_⟩
              have := hc m (by rw [List.length_take]; omega)
              rwa [nth_take (Nat.lt_succ_self m)] at this
          have hcap : m + 1 ≤ cap := by
            rcases own_cases zo with ⟨e, -⟩ | ⟨g', cp, e, -, -, hc1, -, -, -⟩
            · simp at e
            · rw [List.length_take, Nat.min_eq_left hmS] at hc1
              simp at e
              omega
          clear zo hn0
          have i0 : (0 : Int) < ((m + 1 : Nat) : Int) := by omega
          by_cases hz : nth S m = 0
          · have HT := Lib.hid (show trimN S m = trimN S j from by rw [← zt.out, trimN_zero hz])
            have ez : (nth S m == 0) = true := by simp [hz]
            have OP := Lib.hid (own_pop hmS ZO.out)
            clear hz
            have i1 : ((m + 1 : Nat) : Int) - 1 = (m : Int) := by omega
            go_wp2_with fail
            go_roundw
            case rel => exact ⟨m, by omega, own_setCell_ne OP.out zn.out, by exact setCell_blk ZH.out _, ZB.out.setCell (Nat.le_refl _) _, by simpa using zs, HT.out, zn.out⟩
            case measure => rw [HLA.out, lenAt_of (cell_blk (setCell_blk ZH.out _) 1)]; omega
          · have HT := Lib.hid (show S.take (m + 1) = addR xs ys from by rw [HSS.out, trimL, HL.out, ← zt.out, trimN_stop hz])
            have ez : (nth S m == 0) = false := by simp [hz]
            clear hz HLA
            have HN := Lib.hid (show (S.take (m + 1)).length ≤ 1048576 from by rw [List.length_take]; omega)
            go_wp2_with fail
            refine (impl_ValidTurns a _ ZO.out HN.out).mono ?_; rintro e w5 ⟨rfl, b5⟩; rw [HT.out]
            have z5 := (b5.block _ (Array.getElem?_eq_some_iff.1 ZH.out).1).trans ZH.out
            have y5 := (b5.block _ (Array.getElem?_eq_some_iff.1 U2.out).1).trans U2.out
            have O5 := Lib.hid (own_keep b5 ZO.out)
            have B5 := Lib.hid (Below.trans_size BW2.out (Below.trans_size ZB.out b5))
            have hs5 := b5.size
            clear s0 s1 s2 s3 b5
            have s0 := cell_blk z5 0; have s1 := cell_blk z5 1
            have r0 := cell_blk y5 0; have r1 := cell_blk y5 1; have r2 := frozen_blk y5 0; have r3 := frozen_blk y5 1
            clear z5 y5
            cases hvr : validT a (addR xs ys)
            · have HC5 := Lib.hid (show addC a a xs ys = 5 from by rw [HC.out, hvr]; rfl)
              clear hvr
              go_wp2_with fail
              refine bodyPost_ret (v := .tuple #[.agg #[.int .i64 0, .slice none 0 0], .int .i64 5]) (by simp [results, Try.results10, go_sem, *]) rfl ?_
              rw [show addB a a xs ys = 0 from by simp [addB, HC5.out], show addL a a xs ys = [] from by simp [addL, HC5.out], HC5.out]
              exact ⟨_, rfl, own_nil, by first | exact (B5.out.setCell (by simp; omega) _).setCell (by simp; omega) _ | exact B5.out⟩
            · have HC5 := Lib.hid (show addC a a xs ys = 0 from by rw [HC.out, hvr]; rfl)
              clear hvr
              go_wp2_with fail
              refine bodyPost_ret (v := .tuple #[.agg #[.int .i64 a, .slice (some ⟨g, 0, none⟩) (m + 1) cap], .int .i64 0]) (by simp [results, Try.results10, go_sem, *]) rfl ?_
              rw [show addB a a xs ys = a from by simp [addB, HC5.out], show addL a a xs ys = addR xs ys from by simp [addL, HC5.out], HC5.out, ← HT.out]
              exact ⟨_, rfl, own_base (ownsRow_setCell_below (ownsRow_setCell_below O5.out (by simp; omega) _) (by simp; omega) _) (by omega), (B5.out.setCell (by simp; omega) _).setCell (by simp; omega) _⟩
set_option maxHeartbeats 4000000 in
theorem impl_AddTurns_y {B1 B2 : Nat} {u v : Value} {xs ys : List Int} (a : Int) (w : World) (h1 : Own w B1 u xs) (h2 : Own w B2 v ys) (hx : xs.length ≤ 1048576) (hy : ys.length ≤ 1048576)
    (hva : validT a xs = true) (hvb : validT a ys = true) (M : Nat) (hM : M = max xs.length ys.length) (hMx : ¬ M ≤ xs.length) (hMy : M ≤ ys.length) :
    Calls Try.prog 10 #[.agg #[.int .i64 a, u], .agg #[.int .i64 a, v]] w (RetAggI w (addB a a xs ys) (addL a a xs ys) (addC a a xs ys)) := by
  have H1 := Lib.hid h1; have H2 := Lib.hid h2
  obtain ⟨p1, c1, rfl, m1, q1⟩ := own_form h1
  obtain ⟨p2, c2, rfl, m2, q2⟩ := own_form h2
  have Q1 := Lib.hid q1; have Q2 := Lib.hid q2
  have HVA := Lib.hid hva; have HVB := Lib.hid hvb
  clear h1 h2 q1 q2
  obtain ⟨-, lx, ax, -⟩ := validT_parts hva
  obtain ⟨-, ly, ay, -⟩ := validT_parts hvb
  have AX := Lib.hid ax; have AY := Lib.hid ay
  have m40 : M ≤ 40 := by omega
  have mx : xs.length ≤ M := by omega
  have my : ys.length ≤ M := by omega
  have HM := Lib.hid hM
  clear hM
  have HC := Lib.hid (show addC a a xs ys = if validT a (addR xs ys) then 0 else 5 from by simp [addC, hva, hvb])
  clear hvb hva ax ay
  go_enter Try.func10, Try.ntmps10
  go_wp2_with fail
  refine (impl_ValidTurns a _ (own_alloc (own_alloc (own_alloc H1.out _) _) _) hx).mono ?_; rintro e w1 ⟨rfl, b1⟩; rw [HVA.out]
  obtain ⟨x0, x1, x2, bw, hs, -⟩ := blk3 b1
  have O1 := Lib.hid (own_keep b1 (own_alloc (own_alloc (own_alloc H1.out _) _) _)); have O2 := Lib.hid (own_keep b1 (own_alloc (own_alloc (own_alloc H2.out _) _) _))
  have X0 := Lib.hid x0; have X1 := Lib.hid x1; have e0 := cell_blk x1 0; have e1 := cell_blk x1 1
  have X2 := Lib.hid x2; have BW := Lib.hid bw; clear b1 bw x2 x0 x1
  go_wp2_with fail
  refine (impl_ValidTurns a _ O2.out hy).mono ?_; rintro e w2 ⟨rfl, b2⟩; rw [HVB.out]
  have x0 := (b2.block _ (Array.getElem?_eq_some_iff.1 X0.out).1).trans X0.out
  have x1 := (b2.block _ (Array.getElem?_eq_some_iff.1 X1.out).1).trans X1.out
  have x2 := (b2.block _ (Array.getElem?_eq_some_iff.1 X2.out).1).trans X2.out
  have Y0 := Lib.hid x0; have Y1 := Lib.hid x1; have Y2 := Lib.hid x2
  have P1 := Lib.hid (own_keep b2 O1.out); have P2 := Lib.hid (own_keep b2 O2.out)
  have BW2 := Lib.hid (Below.trans_size BW.out b2); have hs2 := b2.size
  clear b2 e0 e1 O1 O2 X0 X1 X2 BW
  have e0 := cell_blk x1 0; have e1 := cell_blk x1 1; have d0 := cell_blk x0 0; have d1 := cell_blk x0 1
  clear x2 x0 x1
  have g0 : w.heap.size < w2.heap.size := by omega
  have g1 : w.heap.size + 1 < w2.heap.size := by omega
  go_wp2_with fail
  go_loopw [7, 8, 34] (fun _ _ kk wr => ∃ (j : Nat) (v : Value), kk = .int .i64 j ∧ j ≤ M ∧ Own wr w2.heap.size v (sumL xs ys j) ∧ some w2.heap.size ≠ v.ownBlock ∧ wr.heap[w2.heap.size]? = some (.cells #[.int .i64 a, v] 26) ∧ Below w2.heap.size w2 wr ∧ w2.heap.size + 1 ≤ wr.heap.size) (fun _ _ kk _ => M - (intOf kk).toNat)
  case atStart => exact ⟨0, _, rfl, by omega, own_nil, by simp [Value.ownBlock], heap_last _ _, (Below.refl _ _).alloc (Nat.le_refl _) _, by simp⟩
  case round =>
    obtain ⟨j, v, rfl, hj, ho, nb, hh, hbw, hsz⟩ := hrel
    have HO := Lib.hid ho; have NB := Lib.hid nb; have HH := Lib.hid hh; have HB := Lib.hid hbw
    obtain ⟨a0, cap, rfl, -, -⟩ := own_form ho
    rw [sumL_len] at *
    have s0 := cell_blk hh 0; have s1 := cell_blk hh 1; have s2 := frozen_blk hh 1; have s3 := frozen_blk hh 0
    have e0' := (hbw.cell g1).trans e0; have e1' := (hbw.cell g1).trans e1
    have d0' := (hbw.cell g0).trans d0; have d1' := (hbw.cell g0).trans d1
    clear ho nb hh hbw e0 e1 d0 d1
    by_cases hlt : j < M
    · by_cases hjx : j < xs.length
      · by_cases hjy : j < ys.length
        · obtain ⟨gx, rfl, qx⟩ := Q1.out j hjx
          have lx0 : gx < w.heap.size := World.block_lt_of_cell? w _ qx
          have lx1 : gx < w2.heap.size := by omega
          have rx := (HB.out.cell (p := ⟨gx, j, none⟩) lx1).trans ((BW2.out.cell (p := ⟨gx, j, none⟩) lx0).trans qx)
          have tx := inB_iff.1 (all_get AX.out (j := j) hjx)
          obtain ⟨tx0, tx1⟩ := tx
          clear qx
          obtain ⟨gy, rfl, qy⟩ := Q2.out j hjy
          have ly0 : gy < w.heap.size := World.block_lt_of_cell? w _ qy
          have ly1 : gy < w2.heap.size := by omega
          have ry := (HB.out.cell (p := ⟨gy, j, none⟩) ly1).trans ((BW2.out.cell (p := ⟨gy, j, none⟩) ly0).trans qy)
          have ty := inB_iff.1 (all_get AY.out (j := j) hjy)
          obtain ⟨ty0, ty1⟩ := ty
          clear qy
          have HS := Lib.hid (show sumL xs ys (j + 1) = sumL xs ys j ++ [nth xs j + nth ys j] from by rw [sumL_step])
          go_wp2_with (at_builtin; refine wp_app_at rfl _ _ rfl _ _ (own_alloc HO.out _) rfl rfl (by simp; rfl) (by rw [sumL_len]; omega) (by simp; omega) ?_; intro v' w9 ho' hg' hloc; obtain ⟨hb', hs'⟩ := app_below HB.out HO.out hg' (Nat.le_refl _) (by omega); have x5 := (hg'.block w2.heap.size (by simp; omega) NB.out).trans ((Below.heap_alloc _ _ _ (by omega)).trans HH.out); have hs9 := hg'.size; have M5 := Lib.hid (loc_ne hloc NB.out (by simp; omega)); obtain ⟨av, cv, rfl, -, -⟩ := own_form ho'; have c0' := cell_blk x5 0; have c1' := cell_blk x5 1; have f1 := frozen_blk x5 1; have X5 := Lib.hid x5; have O9 := Lib.hid ho'; have B9 := Lib.hid hb'; clear ho' hb' hg' hloc x5)
          go_wp2_with fail
          go_roundw
          case rel => exact ⟨j + 1, _, by go_num, by omega, by rw [HS.out]; exact own_setCell_ne O9.out M5.out, fun e => M5.out e.symm, by first | exact setCell_blk X5.out _ | (rw [List.length_append]; exact setCell_blk X5.out _), B9.out.setCell (by simp; try omega) _, by simp at *; omega⟩
          case measure => first | (simp [intOf]; done) | (simp [intOf]; omega)
        · first
            | (exfalso; omega)
            | (obtain ⟨gx, rfl, qx⟩ := Q1.out j hjx
               have lx0 : gx < w.heap.size := World.block_lt_of_cell? w _ qx
               have lx1 : gx < w2.heap.size := by omega
               have rx := (HB.out.cell (p := ⟨gx, j, none⟩) lx1).trans ((BW2.out.cell (p := ⟨gx, j, none⟩) lx0).trans qx)
               have tx := inB_iff.1 (all_get AX.out (j := j) hjx)
               obtain ⟨tx0, tx1⟩ := tx
               clear qx
               have zy := Lib.hid (nth_out (l := ys) hjy)
               have HS := Lib.hid (show sumL xs ys (j + 1) = sumL xs ys j ++ [nth xs j] from by rw [sumL_step]; rw [zy.out]; simp)
               go_wp2_with (at_builtin; refine wp_app_at rfl _ _ rfl _ _ (own_alloc HO.out _) rfl rfl (by simp; rfl) (by rw [sumL_len]; omega) (by simp; omega) ?_; intro v' w9 ho' hg' hloc; obtain ⟨hb', hs'⟩ := app_below HB.out HO.out hg' (Nat.le_refl _) (by omega); have x5 := (hg'.block w2.heap.size (by simp; omega) NB.out).trans ((Below.heap_alloc _ _ _ (by omega)).trans HH.out); have hs9 := hg'.size; have M5 := Lib.hid (loc_ne hloc NB.out (by simp; omega)); obtain ⟨av, cv, rfl, -, -⟩ := own_form ho'; have c0' := cell_blk x5 0; have c1' := cell_blk x5 1; have f1 := frozen_blk x5 1; have X5 := Lib.hid x5; have O9 := Lib.hid ho'; have B9 := Lib.hid hb'; clear ho' hb' hg' hloc x5)
               go_wp2_with fail
               go_roundw
               case rel => exact ⟨j + 1, _, by go_num, by omega, by rw [HS.out]; exact own_setCell_ne O9.out M5.out, fun e => M5.out e.symm, by first | exact setCell_blk X5.out _ | (rw [List.length_append]; exact setCell_blk X5.out _), B9.out.setCell (by simp; try omega) _, by simp at *; omega⟩
               case measure => first | (simp [intOf]; done) | (simp [intOf]; omega))
      · have hjy : j < ys.length := by omega
        first
          | (exfalso; omega)
          | (have zx := Lib.hid (nth_out (l := xs) hjx)
             obtain ⟨gy, rfl, qy⟩ := Q2.out j hjy
             have ly0 : gy < w.heap.size := World.block_lt_of_cell? w _ qy
             have ly1 : gy < w2.heap.size := by omega
             have ry := (HB.out.cell (p := ⟨gy, j, none⟩) ly1).trans ((BW2.out.cell (p := ⟨gy, j, none⟩) ly0).trans qy)
             have ty := inB_iff.1 (all_get AY.out (j := j) hjy)
             obtain ⟨ty0, ty1⟩ := ty
             clear qy
             have HS := Lib.hid (show sumL xs ys (j + 1) = sumL xs ys j ++ [nth ys j] from by rw [sumL_step]; rw [zx.out]; simp)
             go_wp2_with (at_builtin; refine wp_app_at rfl _ _ rfl _ _ (own_alloc HO.out _) rfl rfl (by simp; rfl) (by rw [sumL_len]; omega) (by simp; omega) ?_; intro v' w9 ho' hg' hloc; obtain ⟨hb', hs'⟩ := app_below HB.out HO.out hg' (Nat.le_refl _) (by omega); have x5 := (hg'.block w2.heap.size (by simp; omega) NB.out).trans ((Below.heap_alloc _ _ _ (by omega)).trans HH.out); have hs9 := hg'.size; have M5 := Lib.hid (loc_ne hloc NB.out (by simp; omega)); obtain ⟨av, cv, rfl, -, -⟩ := own_form ho'; have c0' := cell_blk x5 0; have c1' := cell_blk x5 1; have f1 := frozen_blk x5 1; have X5 := Lib.hid x5; have O9 := Lib.hid ho'; have B9 := Lib.hid hb'; clear ho' hb' hg' hloc x5)
             go_wp2_with fail
             go_roundw
             case rel => exact ⟨j + 1, _, by go_num, by omega, by rw [HS.out]; exact own_setCell_ne O9.out M5.out, fun e => M5.out e.symm, by first | exact setCell_blk X5.out _ | (rw [List.length_append]; exact setCell_blk X5.out _), B9.out.setCell (by simp; try omega) _, by simp at *; omega⟩
             case measure => first | (simp [intOf]; done) | (simp [intOf]; omega))
    · obtain rfl : j = M := by omega
      obtain ⟨S, hS⟩ : ∃ S, S = sumL xs ys j := ⟨_, rfl⟩
      have HL := Lib.hid (show S.length = j from by rw [hS]; exact sumL_len xs ys j)
      have HSS := Lib.hid (show addR xs ys = trimL S from by rw [hS, HM.out]; rfl)
      have HOS := Lib.hid (show Own wr w2.heap.size (.slice a0 j cap) S from by rw [hS]; exact HO.out)
      clear hS HO
      go_wp2_with fail
      clear s0 s1 s2 s3
      go_loopw [72] (fun _ wz => ∃ n : Nat, n ≤ j ∧ Own wz w2.heap.size (.slice a0 n cap) (S.take n) ∧ wz.heap[w2.heap.size]? = some (.cells #[.int .i64 a, .slice a0 n cap] 26) ∧ Below w2.heap.size w2 wz ∧ w2.heap.size + 1 ≤ wz.heap.size ∧ Hid (trimN S n = trimN S j) ∧ Hid ((Value.slice a0 n cap).ownBlock ≠ some w2.heap.size)) (fun _ wz => lenAt wz w2.heap.size)
      case atStart => exact ⟨j, Nat.le_refl _, by rw [List.take_of_length_le (Nat.le_of_eq HL.out)]; exact HOS.out, HH.out, HB.out, hsz, rfl, fun e => NB.out e.symm⟩
      case round =>
        obtain ⟨n, hn, zo, zh, zb, zs, zt, zn⟩ := hrel
        have ZO := Lib.hid zo; have ZH := Lib.hid zh; have ZB := Lib.hid zb
        have s0 := cell_blk zh 0; have s1 := cell_blk zh 1; have s2 := frozen_blk zh 1; have s3 := frozen_blk zh 0
        have HLA := Lib.hid (lenAt_of s1)
        have y2 := (zb.block _ (show w.heap.size + 1 + 1 < w2.heap.size by omega)).trans Y2.out
        have U2 := Lib.hid y2
        clear e0' e1' d0' d1' zb y2
        by_cases hn0 : n = 0
        · subst hn0
          have HT := Lib.hid (show S.take 0 = addR xs ys from by rw [HSS.out, trimL, HL.out, ← zt.out]; rfl)
          clear HLA
          have HN := Lib.hid (show (S.take (0)).length ≤ 1048576 from by rw [List.length_take]; omega)
          go_wp2_with fail
          refine (impl_ValidTurns a _ ZO.out HN.out).mono ?_; rintro e w5 ⟨rfl, b5⟩; rw [HT.out]
          have z5 := (b5.block _ (Array.getElem?_eq_some_iff.1 ZH.out).1).trans ZH.out
          have y5 := (b5.block _ (Array.getElem?_eq_some_iff.1 U2.out).1).trans U2.out
          have O5 := Lib.hid (own_keep b5 ZO.out)
          have B5 := Lib.hid (Below.trans_size BW2.out (Below.trans_size ZB.out b5))
          have hs5 := b5.size
          clear s0 s1 s2 s3 b5
          have s0 := cell_blk z5 0; have s1 := cell_blk z5 1
          have r0 := cell_blk y5 0; have r1 := cell_blk y5 1; have r2 := frozen_blk y5 0; have r3 := frozen_blk y5 1
          clear z5 y5
          cases hvr : validT a (addR xs ys)
          · have HC5 := Lib.hid (show addC a a xs ys = 5 from by rw [HC.out, hvr]; rfl)
            clear hvr
            go_wp2_with fail
            refine bodyPost_ret (v := .tuple #[.agg #[.int .i64 0, .slice none 0 0], .int .i64 5]) (by simp [results, Try.results10, go_sem, *]) rfl ?_
            rw [show addB a a xs ys = 0 from by simp [addB, HC5.out], show addL a a xs ys = [] from by simp [addL, HC5.out], HC5.out]
            exact ⟨_, rfl, own_nil, by first | exact (B5.out.setCell (by simp; omega) _).setCell (by simp; omega) _ | exact B5.out⟩
          · have HC5 := Lib.hid (show addC a a xs ys = 0 from by rw [HC.out, hvr]; rfl)
            clear hvr
            go_wp2_with fail
            refine bodyPost_ret (v := .tuple #[.agg #[.int .i64 a, .slice a0 (0) cap], .int .i64 0]) (by simp [results, Try.results10, go_sem, *]) rfl ?_
            rw [show addB a a xs ys = a from by simp [addB, HC5.out], show addL a a xs ys = addR xs ys from by simp [addL, HC5.out], HC5.out, ← HT.out]
            exact ⟨_, rfl, own_base (ownsRow_setCell_below (ownsRow_setCell_below O5.out (by simp; omega) _) (by simp; omega) _) (by omega), (B5.out.setCell (by simp; omega) _).setCell (by simp; omega) _⟩
        · obtain ⟨m, rfl⟩ : ∃ m, n = m + 1 := ⟨n - 1, by omega⟩
          have hmS : m + 1 ≤ S.length := by rw [HL.out]; exact hn
          obtain ⟨g, rfl, qg⟩ : ∃ g, a0 = some ⟨g, 0, none⟩ ∧ wr.cell? ⟨g, m, none⟩ = some (.int .i64 (nth S m)) := by
            rcases own_cases zo with ⟨e, -⟩ | ⟨g, cp, e, -, -, -, -, hc, -⟩
            · simp at e
            · refine ⟨g, by simp at e; exact e.1, ?_⟩
              have := hc m (by rw [List.length_take]; omega)
              rwa [nth_take (Nat.lt_succ_self m)] at this
          have hcap : m + 1 ≤ cap := by
            rcases own_cases zo with ⟨e, -⟩ | ⟨g', cp, e, -, -, hc1, -, -, -⟩
            · simp at e
            · rw [List.length_take, Nat.min_eq_left hmS] at hc1
              simp at e
              omega
          clear zo hn0
          have i0 : (0 : Int) < ((m + 1 : Nat) : Int) := by omega
          by_cases hz : nth S m = 0
          · have HT := Lib.hid (show trimN S m = trimN S j from by rw [← zt.out, trimN_zero hz])
            have ez : (nth S m == 0) = true := by simp [hz]
            have OP := Lib.hid (own_pop hmS ZO.out)
            clear hz
            have i1 : ((m + 1 : Nat) : Int) - 1 = (m : Int) := by omega
            go_wp2_with fail
            go_roundw
            case rel => exact ⟨m, by omega, own_setCell_ne OP.out zn.out, by exact setCell_blk ZH.out _, ZB.out.setCell (Nat.le_refl _) _, by simpa using zs, HT.out, zn.out⟩
            case measure => rw [HLA.out, lenAt_of (cell_blk (setCell_blk ZH.out _) 1)]; omega
          · have HT := Lib.hid (show S.take (m + 1) = addR xs ys from by rw [HSS.out, trimL, HL.out, ← zt.out, trimN_stop hz])
            have ez : (nth S m == 0) = false := by simp [hz]
            clear hz HLA
            have HN := Lib.hid (show (S.take (m + 1)).length ≤ 1048576 from by rw [List.length_take]; omega)
            go_wp2_with fail
            refine (impl_ValidTurns a _ ZO.out HN.out).mono ?_; rintro e w5 ⟨rfl, b5⟩; rw [HT.out]
            have z5 := (b5.block _ (Array.getElem?_eq_some_iff.1 ZH.out).1).trans ZH.out
            have y5 := (b5.block _ (Array.getElem?_eq_some_iff.1 U2.out).1).trans U2.out
            have O5 := Lib.hid (own_keep b5 ZO.out)
            have B5 := Lib.hid (Below.trans_size BW2.out (Below.trans_size ZB.out b5))
            have hs5 := b5.size
            clear s0 s1 s2 s3 b5
            have s0 := cell_blk z5 0; have s1 := cell_blk z5 1
            have r0 := cell_blk y5 0; have r1 := cell_blk y5 1; have r2 := frozen_blk y5 0; have r3 := frozen_blk y5 1
            clear z5 y5
            cases hvr : validT a (addR xs ys)
            · have HC5 := Lib.hid (show addC a a xs ys = 5 from by rw [HC.out, hvr]; rfl)
              clear hvr
              go_wp2_with fail
              refine bodyPost_ret (v := .tuple #[.agg #[.int .i64 0, .slice none 0 0], .int .i64 5]) (by simp [results, Try.results10, go_sem, *]) rfl ?_
              rw [show addB a a xs ys = 0 from by simp [addB, HC5.out], show addL a a xs ys = [] from by simp [addL, HC5.out], HC5.out]
              exact ⟨_, rfl, own_nil, by first | exact (B5.out.setCell (by simp; omega) _).setCell (by simp; omega) _ | exact B5.out⟩
            · have HC5 := Lib.hid (show addC a a xs ys = 0 from by rw [HC.out, hvr]; rfl)
              clear hvr
              go_wp2_with fail
              refine bodyPost_ret (v := .tuple #[.agg #[.int .i64 a, .slice (some ⟨g, 0, none⟩) (m + 1) cap], .int .i64 0]) (by simp [results, Try.results10, go_sem, *]) rfl ?_
              rw [show addB a a xs ys = a from by simp [addB, HC5.out], show addL a a xs ys = addR xs ys from by simp [addL, HC5.out], HC5.out, ← HT.out]
              exact ⟨_, rfl, own_base (ownsRow_setCell_below (ownsRow_setCell_below O5.out (by simp; omega) _) (by simp; omega) _) (by omega), (B5.out.setCell (by simp; omega) _).setCell (by simp; omega) _⟩
set_option maxHeartbeats 4000000 in
theorem impl_AddTurns {B1 B2 : Nat} {u v : Value} {xs ys : List Int} (a b : Int) (w : World) (h1 : Own w B1 u xs) (h2 : Own w B2 v ys) (hx : xs.length ≤ 1048576) (hy : ys.length ≤ 1048576) :
    Calls Try.prog 10 #[.agg #[.int .i64 a, u], .agg #[.int .i64 b, v]] w (RetAggI w (addB a b xs ys) (addL a b xs ys) (addC a b xs ys)) := by
  have H1 := Lib.hid h1; have H2 := Lib.hid h2
  obtain ⟨p1, c1, rfl, m1, q1⟩ := own_form h1
  obtain ⟨p2, c2, rfl, m2, q2⟩ := own_form h2
  have Q1 := Lib.hid q1; have Q2 := Lib.hid q2
  clear h1 h2 q1 q2
  cases hva : validT a xs
  · rw [show addB a b xs ys = 0 from by simp [addB, addC, hva], show addL a b xs ys = [] from by simp [addL, addC, hva], show addC a b xs ys = 1 from by simp [addC, hva]]
    have HV := Lib.hid hva; clear hva
    go_enter Try.func10, Try.ntmps10
    go_wp2_with fail
    refine (impl_ValidTurns a _ (own_alloc (own_alloc (own_alloc H1.out _) _) _) hx).mono ?_; rintro e w1 ⟨rfl, b1⟩; rw [HV.out]
    obtain ⟨-, -, x2, bw, hs, -⟩ := blk3 b1
    have c0 := cell_blk x2 0; have c1 := cell_blk x2 1; have f0 := frozen_blk x2 0; have f1 := frozen_blk x2 1
    have BW := Lib.hid bw; clear b1 bw x2
    go_wp2_with fail
    refine bodyPost_ret (v := .tuple #[.agg #[.int .i64 0, .slice none 0 0], .int .i64 1]) (by simp [results, Try.results10, go_sem, *]) rfl ?_
    exact ⟨_, rfl, own_nil, by first | exact (BW.out.setCell (by simp; omega) _).setCell (by simp; omega) _ | exact BW.out⟩
  have HVA := Lib.hid hva
  cases hvb : validT b ys
  · rw [show addB a b xs ys = 0 from by simp [addB, addC, hvb], show addL a b xs ys = [] from by simp [addL, addC, hvb], show addC a b xs ys = 1 from by simp [addC, hvb]]
    have HV := Lib.hid hvb; clear hvb hva
    go_enter Try.func10, Try.ntmps10
    go_wp2_with fail
    refine (impl_ValidTurns a _ (own_alloc (own_alloc (own_alloc H1.out _) _) _) hx).mono ?_; rintro e w1 ⟨rfl, b1⟩; rw [HVA.out]
    obtain ⟨x0, x1, x2, bw, hs, -⟩ := blk3 b1
    have O2 := Lib.hid (own_keep b1 (own_alloc (own_alloc (own_alloc H2.out _) _) _))
    have e0 := cell_blk x1 0; have e1 := cell_blk x1 1
    have X2 := Lib.hid x2; have BW := Lib.hid bw; clear b1 bw x2 x0 x1
    go_wp2_with fail
    refine (impl_ValidTurns b _ O2.out hy).mono ?_; rintro e w2 ⟨rfl, b2⟩; rw [HV.out]
    have x2 := (b2.block _ (Array.getElem?_eq_some_iff.1 X2.out).1).trans X2.out
    have BW2 := Lib.hid (Below.trans_size BW.out b2); have hs2 := b2.size
    clear b2 e0 e1
    have c0 := cell_blk x2 0; have c1 := cell_blk x2 1; have f0 := frozen_blk x2 0; have f1 := frozen_blk x2 1
    clear x2
    go_wp2_with fail
    refine bodyPost_ret (v := .tuple #[.agg #[.int .i64 0, .slice none 0 0], .int .i64 1]) (by simp [results, Try.results10, go_sem, *]) rfl ?_
    exact ⟨_, rfl, own_nil, by first | exact (BW2.out.setCell (by simp; omega) _).setCell (by simp; omega) _ | exact BW2.out⟩
  have HVB := Lib.hid hvb
  by_cases hab : a = b
  rotate_left
  · rw [show addB a b xs ys = 0 from by simp [addB, addC, hva, hvb, hab], show addL a b xs ys = [] from by simp [addL, addC, hva, hvb, hab], show addC a b xs ys = 6 from by simp [addC, hva, hvb, hab]]
    clear hvb hva
    have hne : (a != b) = true := by simp [hab]
    clear hab
    go_enter Try.func10, Try.ntmps10
    go_wp2_with fail
    refine (impl_ValidTurns a _ (own_alloc (own_alloc (own_alloc H1.out _) _) _) hx).mono ?_; rintro e w1 ⟨rfl, b1⟩; rw [HVA.out]
    obtain ⟨x0, x1, x2, bw, hs, -⟩ := blk3 b1
    have O2 := Lib.hid (own_keep b1 (own_alloc (own_alloc (own_alloc H2.out _) _) _))
    have X0 := Lib.hid x0; have X1 := Lib.hid x1; have e0 := cell_blk x1 0; have e1 := cell_blk x1 1
    have X2 := Lib.hid x2; have BW := Lib.hid bw; clear b1 bw x2 x0 x1
    go_wp2_with fail
    refine (impl_ValidTurns b _ O2.out hy).mono ?_; rintro e w2 ⟨rfl, b2⟩; rw [HVB.out]
    have x0 := (b2.block _ (Array.getElem?_eq_some_iff.1 X0.out).1).trans X0.out
    have x1 := (b2.block _ (Array.getElem?_eq_some_iff.1 X1.out).1).trans X1.out
    have x2 := (b2.block _ (Array.getElem?_eq_some_iff.1 X2.out).1).trans X2.out
    have BW2 := Lib.hid (Below.trans_size BW.out b2); have hs2 := b2.size
    clear b2 e0 e1
    have e0 := cell_blk x1 0; have d0 := cell_blk x0 0
    have c0 := cell_blk x2 0; have c1 := cell_blk x2 1; have f0 := frozen_blk x2 0; have f1 := frozen_blk x2 1
    clear x2 x0 x1
    go_wp2_with fail
    refine bodyPost_ret (v := .tuple #[.agg #[.int .i64 0, .slice none 0 0], .int .i64 6]) (by simp [results, Try.results10, go_sem, *]) rfl ?_
    exact ⟨_, rfl, own_nil, by first | exact (BW2.out.setCell (by simp; omega) _).setCell (by simp; omega) _ | exact BW2.out⟩
  subst hab
  by_cases hMx : max xs.length ys.length ≤ xs.length
  · exact impl_AddTurns_x a w H1.out H2.out hx hy hva hvb _ rfl hMx
  · exact impl_AddTurns_y a w H1.out H2.out hx hy hva hvb _ rfl hMx (by omega)
end Go.Proofs.Ytkhjmokjbiepgaa
