/- AddTurns of the reference. -/
import Derived.IntWalk
import Derived.Deep.RegionHeld3
import Derived.Deep.Cut
import Derived.Deep.CutRange
import Derived.Deep.CutBlock
import Derived.Test.YtkhjmokjbiepgaaTad
namespace Go.Proofs.Ytkhjmokjbiepgaa
open Go.ChangeShapes Go.WideShapes Go.ChangeAt Go.RowKit
def mixP (xs ys : List Int) (j : Nat) : List Int := if xs.length ≤ j then mixL xs ys j ++ [0] else mixL xs ys j
theorem mixL_len (xs ys : List Int) (j : Nat) : (mixL xs ys j).length = max xs.length j := by simp [mixL]
theorem mixP_len (xs ys : List Int) (j : Nat) : (mixP xs ys j).length = max xs.length (j + 1) := by unfold mixP; split <;> simp [mixL_len] <;> omega
theorem nth_map_range {f : Nat → Int} {n i : Nat} (h : i < n) : nth ((List.range n).map f) i = f i := by simp [nth, List.getD, h]
theorem nth_app_at {l : List Int} {x : Int} {i : Nat} (h : i = l.length) : nth (l ++ [x]) i = x := by subst h; simp [nth, List.getD]
theorem nth_set {l : List Int} {i j : Nat} {x : Int} (h : i < l.length) : nth (l.set j x) i = if i = j then x else nth l i := by
  by_cases e : i = j
  · subst e; simp [nth, List.getD, h]
  · rw [if_neg e]; simp [nth, List.getD, Ne.symm e]
theorem mixP_nth {xs ys : List Int} {j i : Nat} (h : i < max xs.length (j + 1)) : nth (mixP xs ys j) i = nth xs i + (if i < j then nth ys i else 0) := by
  unfold mixP
  split
  · rename_i hx
    by_cases e : i < j
    · rw [nth_app_l (by rw [mixL_len]; omega)]
      unfold mixL; rw [nth_map_range (by omega)]
    · obtain rfl : i = j := by omega
      rw [nth_app_at (by rw [mixL_len]; omega), nth_out (show ¬ i < xs.length by omega), if_neg e]; rfl
  · unfold mixL; rw [nth_map_range (by omega)]
theorem mixP_set (xs ys : List Int) (j : Nat) : (mixP xs ys j).set j (nth xs j + nth ys j) = mixL xs ys (j + 1) := by
  apply nth_ext (by rw [List.length_set, mixP_len, mixL_len])
  intro i hi
  rw [List.length_set] at hi
  rw [nth_set hi]
  rw [mixP_len] at hi
  rw [mixP_nth hi]
  unfold mixL; rw [nth_map_range hi]
  by_cases e : i = j
  · subst e; rw [if_pos rfl, if_pos (by omega)]
  · rw [if_neg e]
    by_cases l : i < j
    · rw [if_pos l, if_pos (by omega)]
    · rw [if_neg l, if_neg (by omega)]
theorem mixL_zero (xs ys : List Int) : mixL xs ys 0 = xs := by
  apply nth_ext (by rw [mixL_len]; omega)
  intro i hi
  rw [mixL_len] at hi
  unfold mixL; rw [nth_map_range hi, if_neg (by omega)]; omega
theorem mixL_all (xs ys : List Int) : mixL xs ys ys.length = sumL xs ys (max xs.length ys.length) := by
  apply nth_ext (by rw [mixL_len, sumL_len])
  intro i hi
  rw [mixL_len] at hi
  unfold mixL sumL; rw [nth_map_range hi, nth_map_range hi]
  by_cases e : i < ys.length
  · rw [if_pos e]
  · rw [if_neg e, nth_out e]
theorem blkd1 {w w1 : World} {A : Obj} (b : Below (w.alloc A).drew.heap.size (w.alloc A).drew w1) : w1.heap[w.heap.size]? = some A ∧ Below w.heap.size w w1 ∧ w.heap.size + 1 ≤ w1.heap.size := by
  obtain ⟨y, bw, hs, -⟩ := blk1 (w := w.drew) (A := A) b
  exact ⟨y, (Below.refl w.heap.size w).drew.trans bw, hs⟩
theorem spec_l00OwnT {B : Nat} {v : Value} {zs : List Int} (w : World) (h : Own w B v zs) (hl : zs.length ≤ 1000000) :
    Calls Try.prog 32 #[v] w (RetOwn w zs) := by
  have HO := Lib.hid h; clear h
  go_enter Try.func32, Try.ntmps32
  go_wp2_with (at_builtin; refine wp_apps rfl _ _ rfl (own_empty w w.heap.size (Nat.le_refl _)) (own_alloc HO.out _) rfl rfl (by simp; omega) (by simp) ?_; intro v' w' ho' hg')
  have HF := Lib.hid (grown_below ((Below.refl w.heap.size w).alloc (Nat.le_refl _) _) (own_empty w w.heap.size (Nat.le_refl _)) hg' (Nat.le_refl _) (by simp))
  have HO' := Lib.hid ho'; clear ho' hg'
  go_ret
  exact ⟨_, rfl, by simpa using HO'.out, HF.out⟩
set_option maxHeartbeats 4000000 in
theorem spec_AddTurns_eq {B1 B2 : Nat} {u v : Value} {xs ys : List Int} (a : Int) (w : World) (h1 : Own w B1 u xs) (h2 : Own w B2 v ys) (hx : xs.length ≤ 1048576) (hy : ys.length ≤ 1048576) (hva : validT a xs = true) (hvb : validT a ys = true) :
    Calls Try.prog 8 #[.agg #[.int .i64 a, u], .agg #[.int .i64 a, v]] w (RetAggI w (addB a a xs ys) (addL a a xs ys) (addC a a xs ys)) := by
  have H1 := Lib.hid h1; have H2 := Lib.hid h2
  obtain ⟨p1, c1, rfl, m1, q1⟩ := own_form h1
  obtain ⟨p2, c2, rfl, m2, q2⟩ := own_form h2
  have Q1 := Lib.hid q1; have Q2 := Lib.hid q2
  clear h1 h2 q1 q2
  have HVA := Lib.hid hva; have HVB := Lib.hid hvb
  obtain ⟨-, lx, ax, -⟩ := validT_parts hva
  obtain ⟨-, ly, ay, -⟩ := validT_parts hvb
  have AX := Lib.hid ax; have AY := Lib.hid ay
  have HC := Lib.hid (show addC a a xs ys = if validT a (addR xs ys) then 0 else 5 from by simp [addC, hva, hvb])
  clear hvb hva ax ay
  go_enter Try.func8, Try.ntmps8
  go_wp2_with fail
  refine (spec_l13Ok a _ _ (own_alloc (own_alloc (own_alloc H1.out _) _) _) (cell_blk (blk3 (Below.refl _ _)).1 0) (cell_blk (blk3 (Below.refl _ _)).1 1) hx).mono ?_; rintro e w1 ⟨rfl, b1⟩; rw [HVA.out]
  obtain ⟨x0, x1, x2, bw, hs, -⟩ := blk3 b1
  have O1 := Lib.hid (own_keep b1 (own_alloc (own_alloc (own_alloc H1.out _) _) _)); have O2 := Lib.hid (own_keep b1 (own_alloc (own_alloc (own_alloc H2.out _) _) _))
  have X0 := Lib.hid x0; have X1 := Lib.hid x1
  have e0 := Lib.hid (cell_blk x1 0); have e1 := Lib.hid (cell_blk x1 1)
  have X2 := Lib.hid x2; have BW := Lib.hid bw; clear b1 bw x2 x0 x1
  go_wp2_with fail
  refine (spec_l13Ok a _ _ O2.out (by first | exact e0.out | simpa using e0.out) (by first | exact e1.out | simpa using e1.out) hy).mono ?_; rintro e w2 ⟨rfl, b2⟩; rw [HVB.out]
  have x0 := (b2.block _ (Array.getElem?_eq_some_iff.1 X0.out).1).trans X0.out
  have x1 := (b2.block _ (Array.getElem?_eq_some_iff.1 X1.out).1).trans X1.out
  have x2 := (b2.block _ (Array.getElem?_eq_some_iff.1 X2.out).1).trans X2.out
  have Y0 := Lib.hid x0; have Y1 := Lib.hid x1; have Y2 := Lib.hid x2
  have P1 := Lib.hid (own_keep b2 O1.out); have P2 := Lib.hid (own_keep b2 O2.out)
  have BW2 := Lib.hid (Below.trans_size BW.out b2); have hs2 := b2.size
  clear b2 e0 e1 O1 O2 X0 X1 X2 BW
  have e0 := cell_blk x1 0; have e1 := cell_blk x1 1; have d0 := cell_blk x0 0; have d1 := cell_blk x0 1
  have g0 : w.heap.size < w2.heap.size := by omega
  have g1 : w.heap.size + 1 < w2.heap.size := by omega
  clear x2 x0 x1
  have ne1 : ¬ w.heap.size = w2.heap.size := by omega
  have ne3 : ¬ w2.heap.size = w.heap.size := by omega
  go_upto_region 5 with fail
  go_cut [6] from 8 to 82 (fun pa wx => ∃ (g : Nat) (v : Value), pa = .pointer (some ⟨g, 0, none⟩) ∧ Own wx w2.heap.size v xs ∧ wx.heap[g]? = some (.cells #[.int .i64 a, v] 26) ∧ w2.heap.size ≤ g ∧ some g ≠ v.ownBlock ∧ Below w2.heap.size w2 wx ∧ w2.heap.size ≤ wx.heap.size)
  case first =>
    go_region_held3 (fun w' => w'.cell? ⟨w.heap.size, 0, none⟩ = some (.int .i64 a) ∧ w'.cell? ⟨w.heap.size, 1, none⟩ = some (.slice p1 xs.length c1)) (first | go_keep | (refine ⟨?_, ?_⟩ <;> assumption)) (first | (go_at_call 32; refine (spec_l00OwnT _ (own_drew P1.out) (by omega)).mono ?_; rintro e w3 ⟨v3, rfl, o3, b3⟩; have BA3 := Below.trans_size (Below.refl w2.heap.size w2).drew b3; have s3 := b3.size; have A3 := Lib.hid (show Own w3 w2.heap.size _ _ from o3); have z0 := (BA3.cell g0).trans d0; have z1 := (BA3.cell g0).trans d1; have NQ := Lib.hid (show some w3.heap.size ≠ v3.ownBlock from fun h => by have := own_block_lt o3 _ h.symm; omega); obtain ⟨av, ac, rfl, -, -⟩ := own_form o3; have HB3 := Lib.hid BA3; clear o3 b3 BA3) | (go_at_call 32; refine (spec_l00OwnT _ (own_drew (own_alloc P1.out _)) (by omega)).mono ?_; rintro e w3 ⟨v3, rfl, o3, b3⟩; obtain ⟨y3, BA3, s3⟩ := blkd1 (w := w2) (A := .cells #[.int .i64 0, .slice none 0 0] 26) b3; have A3 := Lib.hid (show Own w3 w2.heap.size _ _ from own_base o3 (by simp)); have NQ := Lib.hid (show v3.ownBlock ≠ some w2.heap.size from fun h => by have := (own_block_lt o3 _ h).1; simp at this; omega); have z0 := (BA3.cell g0).trans d0; have z1 := (BA3.cell g0).trans d1; have Y3 := Lib.hid y3; have k0 := cell_blk y3 0; have k1 := cell_blk y3 1; have k2 := frozen_blk y3 0; have k3 := frozen_blk y3 1; obtain ⟨av, ac, rfl, -, -⟩ := own_form o3; have HB3 := Lib.hid BA3; clear o3 b3 BA3 y3))
    all_goals (
    go_wp2_with fail
    go_meet
    case rel =>
      first
        | exact ⟨_, _, rfl, own_alloc A3.out _, heap_last _ _, HB3.out.size, NQ.out, HB3.out.alloc HB3.out.size _, by have := HB3.out.size; simp; omega⟩
        | exact ⟨_, _, rfl, own_setCell_ne (own_setCell_ne A3.out NQ.out) NQ.out, setCell_blk (setCell0_blk Y3.out _) _, Nat.le_refl _, fun e => NQ.out e.symm, (HB3.out.setCell (Nat.le_refl _) _).setCell (Nat.le_refl _) _, by have := HB3.out.size; simp; omega⟩)
  case rest =>
    obtain ⟨g, v3, rfl, o3, h3, hg, n3, b3, s3⟩ := hcut
    generalize wc = w3 at *
    have O3 := Lib.hid o3; have H3 := Lib.hid h3; have N3 := Lib.hid n3; have B3 := Lib.hid b3
    have e0' := Lib.hid e0; have e1' := Lib.hid e1
    clear o3 h3 n3 b3 e0 e1 d0 d1 ne1 ne3
    go_wp2_with fail
    go_loopw [7] (fun kk wr => ∃ (j : Nat) (v : Value), kk = .int .i64 j ∧ j ≤ ys.length ∧ Own wr w2.heap.size v (mixL xs ys j) ∧ some g ≠ v.ownBlock ∧ wr.heap[g]? = some (.cells #[.int .i64 a, v] 26) ∧ Below w2.heap.size w2 wr ∧ w2.heap.size ≤ wr.heap.size) (fun kk _ => 100 - (intOf kk).toNat)
    case atStart => exact ⟨0, _, rfl, by omega, by rw [mixL_zero]; exact O3.out, N3.out, H3.out, B3.out, s3⟩
    case round =>
      obtain ⟨j, v, rfl, hj, ho, nb, hh, hbw, hsz⟩ := hrel
      obtain ⟨a0, cap, rfl, -, -⟩ := own_form ho
      obtain ⟨N, hN⟩ : ∃ N, N = (mixL xs ys j).length := ⟨_, rfl⟩
      rw [← hN] at ho nb hh
      rw [mixL_len] at hN
      have n0 : xs.length ≤ N := by omega
      have n1 : j ≤ N := by omega
      have n2 : N ≤ xs.length ∨ N ≤ j := by omega
      have HN := Lib.hid hN
      have HO := Lib.hid ho; have NB := Lib.hid nb; have HH := Lib.hid hh; have HB := Lib.hid hbw
      have s0 := cell_blk hh 0; have s1 := cell_blk hh 1; have s2 := frozen_blk hh 1
      have gl : g < wr.heap.size := (Array.getElem?_eq_some_iff.1 hh).1
      have e0 := (hbw.cell g1).trans e0'.out; have e1 := (hbw.cell g1).trans e1'.out
      clear ho nb hh hbw hN
      by_cases hlt : j < ys.length
      · obtain ⟨gy, rfl, qy⟩ := Q2.out j hlt
        have ly0 : gy < w.heap.size := World.block_lt_of_cell? w _ qy
        have ly1 : gy < w2.heap.size := by omega
        have RY := Lib.hid ((BW2.out.cell (p := ⟨gy, j, none⟩) ly0).trans qy)
        have ty := inB_iff.1 (all_get AY.out (j := j) hlt)
        obtain ⟨ty0, ty1⟩ := ty
        have tx : -16 ≤ nth xs j ∧ nth xs j ≤ 16 := by
          by_cases hxj : j < xs.length
          · have := inB_iff.1 (all_get AX.out (j := j) hxj); omega
          · rw [nth_out hxj]; omega
        obtain ⟨tx0, tx1⟩ := tx
        clear qy
        go_upto_if 38 with (fail)
        go_cut [6, 7] from 27 to 55 (fun pa kk wx => pa = .pointer (some ⟨g, 0, none⟩) ∧ kk = .int .i64 j ∧ ∃ v : Value, Own wx w2.heap.size v (mixP xs ys j) ∧ some g ≠ v.ownBlock ∧ wx.heap[g]? = some (.cells #[.int .i64 a, v] 26) ∧ Below w2.heap.size w2 wx ∧ w2.heap.size ≤ wx.heap.size)
        case first =>
          by_cases hxj : xs.length ≤ j
          · have HM := Lib.hid (show mixP xs ys j = mixL xs ys j ++ [0] from if_pos hxj)
            obtain rfl : j = N := by omega
            clear n0 n1 n2
            go_wp2_with (at_builtin; refine wp_app_at rfl _ _ rfl _ _ (own_alloc HO.out _) rfl rfl (by simp; rfl) (by rw [mixL_len]; omega) (by simp; omega) ?_; intro v' w9 ho' hg' hloc; obtain ⟨hb', hs'⟩ := app_below HB.out HO.out hg' (Nat.le_refl _) hsz; have x5 := (hg'.block g (by simp; omega) NB.out).trans ((Below.heap_alloc _ _ _ gl).trans HH.out); have hs9 := hg'.size; have M5 := Lib.hid (loc_ne hloc NB.out (by simp; omega)); obtain ⟨av, cv, rfl, -, -⟩ := own_form ho'; have c0' := cell_blk x5 0; have c1' := cell_blk x5 1; have f1 := frozen_blk x5 1; have X5 := Lib.hid x5; have O9 := Lib.hid ho'; have B9 := Lib.hid hb'; clear ho' hb' hg' hloc x5)
            go_wp2_with fail
            go_meet
            case rel => exact ⟨rfl, rfl, _, by rw [HM.out]; exact own_setCell_ne O9.out M5.out, fun e => M5.out e.symm, by first | exact setCell_blk X5.out _ | (rw [List.length_append]; exact setCell_blk X5.out _), B9.out.setCell hg _, by simp at *; omega⟩
          · have HM := Lib.hid (show mixP xs ys j = mixL xs ys j from if_neg hxj)
            have en : ((j : Int) == (N : Int)) = false := by simp; omega
            go_wp2_with fail
            go_meet
            case rel => exact ⟨rfl, rfl, _, by rw [HM.out]; exact HO.out, NB.out, HH.out, HB.out, hsz⟩
        case rest =>
          obtain ⟨rfl, rfl, v4, o4, n4, h4, b4, s4⟩ := hcut
          generalize wc = w4 at *
          clear s0 s1 s2 gl e0 e1 n0 n1 n2 hsz
          obtain ⟨a4, c4, rfl, -, q4⟩ := own_form o4
          obtain ⟨K, hK⟩ : ∃ K, K = (mixP xs ys j).length := ⟨_, rfl⟩
          have HKL := Lib.hid hK
          rw [← hK] at o4 n4 h4 q4
          rw [mixP_len] at hK
          have hjK : j < K := by omega
          obtain ⟨gq, rfl, -⟩ := q4 j hjK
          clear q4
          have hgq : ¬ g = gq := fun e => n4 (by rw [e]; rfl)
          obtain ⟨k0, k1⟩ := own_at o4 HKL.out hjK
          rw [mixP_nth (by omega), if_neg (Nat.lt_irrefl _), Int.add_zero] at k0
          have ST := own_store o4 HKL.out j (nth xs j + nth ys j)
          rw [mixP_set] at ST
          have gqb := (own_block_lt o4 gq rfl).1
          have HST := Lib.hid ST; have H4 := Lib.hid h4; have B4 := Lib.hid b4; have N4 := Lib.hid n4
          have s0 := cell_blk h4 0; have s1 := cell_blk h4 1
          have gl : g < w4.heap.size := (Array.getElem?_eq_some_iff.1 h4).1
          have e0 := (b4.cell g1).trans e0'.out; have e1 := (b4.cell g1).trans e1'.out
          have ry := (b4.cell (p := ⟨gy, j, none⟩) ly1).trans RY.out
          have i0 : (0 : Int) ≤ (j : Int) := by omega
          have i1 : (j : Int) < (K : Int) := by omega
          have i2 : (j : Int) < (ys.length : Int) := by omega
          have v1 : IntKind.i64.wrap (nth xs j + nth ys j) = nth xs j + nth ys j := IntWalk.i64_in _ (by omega)
          clear ST o4 h4 b4 n4 hK
          go_wp2
          go_region
          go_wp2
          clear v1
          go_roundw
          case rel => exact ⟨j + 1, _, by go_num, by omega, HST.out.1, N4.out, (Below.heap_setCell w4 ⟨gq, j, none⟩ _ _ hgq).trans H4.out, (B4.out.setCell (show w2.heap.size ≤ (⟨gq, j, none⟩ : Addr).block from gqb) _).drew, by simpa using s4⟩
          case measure => first | (simp [intOf]; done) | (simp [intOf]; omega)
      · obtain ⟨S, hS⟩ : ∃ S, S = mixL xs ys j := ⟨_, rfl⟩
        have HL := Lib.hid (show S.length = N from by rw [hS, mixL_len]; exact HN.out.symm)
        have HSS := Lib.hid (show addR xs ys = trimL S from by rw [hS, show j = ys.length by omega, mixL_all]; rfl)
        have HOS := Lib.hid (show Own wr w2.heap.size (.slice a0 N cap) S from by rw [hS]; exact HO.out)
        clear hS HO
        have hsg : g + 1 ≤ wr.heap.size := gl
        have hN40 : N ≤ 40 := by omega
        go_wp2_with fail
        clear s0 s1 s2 n0 n1 n2
        go_loopw [60] (fun _ wz => ∃ n : Nat, n ≤ N ∧ Own wz w2.heap.size (.slice a0 n cap) (S.take n) ∧ wz.heap[g]? = some (.cells #[.int .i64 a, .slice a0 n cap] 26) ∧ Below w2.heap.size w2 wz ∧ g + 1 ≤ wz.heap.size ∧ Hid (trimN S n = trimN S N) ∧ Hid ((Value.slice a0 n cap).ownBlock ≠ some g)) (fun _ wz => lenAt wz g)
        case atStart => exact ⟨N, Nat.le_refl _, by rw [List.take_of_length_le (Nat.le_of_eq HL.out)]; exact HOS.out, HH.out, HB.out, hsg, rfl, fun e => NB.out e.symm⟩
        case round =>
          obtain ⟨n, hn, zo, zh, zb, zs, zt, zn⟩ := hrel
          have ZO := Lib.hid zo; have ZH := Lib.hid zh; have ZB := Lib.hid zb
          have s0 := cell_blk zh 0; have s1 := cell_blk zh 1; have s2 := frozen_blk zh 1
          have HLA := Lib.hid (lenAt_of s1)
          have y2 := (zb.block _ (show w.heap.size + 1 + 1 < w2.heap.size by omega)).trans Y2.out
          have U2 := Lib.hid y2
          clear zb y2
          by_cases hn0 : n = 0
          · subst hn0
            have HT := Lib.hid (show S.take 0 = addR xs ys from by rw [HSS.out, trimL, HL.out, ← zt.out]; rfl)
            clear HLA
            have HN2 := Lib.hid (show (S.take (0)).length ≤ 1048576 from by rw [List.length_take]; omega)
            go_wp2_with fail
            refine (spec_l13Ok a _ _ ZO.out (cell_blk ZH.out 0) (cell_blk ZH.out 1) HN2.out).mono ?_; rintro e w5 ⟨rfl, b5⟩; rw [HT.out]
            have z5 := (b5.block _ (Array.getElem?_eq_some_iff.1 ZH.out).1).trans ZH.out
            have y5 := (b5.block _ (Array.getElem?_eq_some_iff.1 U2.out).1).trans U2.out
            have O5 := Lib.hid (own_keep b5 ZO.out)
            have B5 := Lib.hid (Below.trans_size BW2.out (Below.trans_size ZB.out b5))
            have hs5 := b5.size
            clear s0 s1 s2 b5
            have s0 := cell_blk z5 0; have s1 := cell_blk z5 1
            have r0 := cell_blk y5 0; have r1 := cell_blk y5 1; have r2 := frozen_blk y5 0; have r3 := frozen_blk y5 1
            clear z5 y5
            cases hvr : validT a (addR xs ys)
            · have HC5 := Lib.hid (show addC a a xs ys = 5 from by rw [HC.out, hvr]; rfl)
              clear hvr
              go_wp2_with fail
              refine bodyPost_ret (v := .tuple #[.agg #[.int .i64 0, .slice none 0 0], .int .i64 5]) (by simp [results, Try.results8, go_sem, *]) rfl ?_
              rw [show addB a a xs ys = 0 from by simp [addB, HC5.out], show addL a a xs ys = [] from by simp [addL, HC5.out], HC5.out]
              exact ⟨_, rfl, own_nil, by first | exact (B5.out.setCell (by simp; omega) _).setCell (by simp; omega) _ | exact B5.out⟩
            · have HC5 := Lib.hid (show addC a a xs ys = 0 from by rw [HC.out, hvr]; rfl)
              clear hvr
              go_wp2_with fail
              refine bodyPost_ret (v := .tuple #[.agg #[.int .i64 a, .slice a0 (0) cap], .int .i64 0]) (by simp [results, Try.results8, go_sem, *]) rfl ?_
              rw [show addB a a xs ys = a from by simp [addB, HC5.out], show addL a a xs ys = addR xs ys from by simp [addL, HC5.out], HC5.out, ← HT.out]
              exact ⟨_, rfl, own_base (ownsRow_setCell_below (ownsRow_setCell_below O5.out (by simp; omega) _) (by simp; omega) _) (by omega), (B5.out.setCell (by simp; omega) _).setCell (by simp; omega) _⟩
          · obtain ⟨m, rfl⟩ : ∃ m, n = m + 1 := ⟨n - 1, by omega⟩
            have hmS : m + 1 ≤ S.length := by rw [HL.out]; exact hn
            obtain ⟨gs, rfl, qg⟩ : ∃ gs, a0 = some ⟨gs, 0, none⟩ ∧ wr.cell? ⟨gs, m, none⟩ = some (.int .i64 (nth S m)) := by
              rcases own_cases zo with ⟨e, -⟩ | ⟨gs, cp, e, -, -, -, -, hc, -⟩
              · simp at e
              · refine ⟨gs, by simp at e; exact e.1, ?_⟩
                have := hc m (by rw [List.length_take]; omega)
                rwa [nth_take (Nat.lt_succ_self m)] at this
            have hcap : m + 1 ≤ cap := by
              rcases own_cases zo with ⟨e, -⟩ | ⟨g', cp, e, -, -, hc1, -, -, -⟩
              · simp at e
              · rw [List.length_take, Nat.min_eq_left hmS] at hc1
                simp at e
                omega
            clear zo hn0
            have i0 : (0 : Int) < ((m + 1 : Nat) : Int) := by omega
            by_cases hz : nth S m = 0
            · have HT := Lib.hid (show trimN S m = trimN S N from by rw [← zt.out, trimN_zero hz])
              have ez : (nth S m == 0) = true := by simp [hz]
              have OP := Lib.hid (own_pop hmS ZO.out)
              clear hz
              have i1 : ((m + 1 : Nat) : Int) - 1 = (m : Int) := by omega
              go_wp2_with fail
              go_roundw
              case rel => exact ⟨m, by omega, own_setCell_ne OP.out zn.out, by exact setCell_blk ZH.out _, ZB.out.setCell hg _, by simpa using zs, HT.out, zn.out⟩
              case measure => rw [HLA.out, lenAt_of (cell_blk (setCell_blk ZH.out _) 1)]; omega
            · have HT := Lib.hid (show S.take (m + 1) = addR xs ys from by rw [HSS.out, trimL, HL.out, ← zt.out, trimN_stop hz])
              have ez : (nth S m == 0) = false := by simp [hz]
              clear hz HLA
              have HN2 := Lib.hid (show (S.take (m + 1)).length ≤ 1048576 from by rw [List.length_take]; omega)
              go_wp2_with fail
              refine (spec_l13Ok a _ _ ZO.out (cell_blk ZH.out 0) (cell_blk ZH.out 1) HN2.out).mono ?_; rintro e w5 ⟨rfl, b5⟩; rw [HT.out]
              have z5 := (b5.block _ (Array.getElem?_eq_some_iff.1 ZH.out).1).trans ZH.out
              have y5 := (b5.block _ (Array.getElem?_eq_some_iff.1 U2.out).1).trans U2.out
              have O5 := Lib.hid (own_keep b5 ZO.out)
              have B5 := Lib.hid (Below.trans_size BW2.out (Below.trans_size ZB.out b5))
              have hs5 := b5.size
              clear s0 s1 s2 b5
              have s0 := cell_blk z5 0; have s1 := cell_blk z5 1
              have r0 := cell_blk y5 0; have r1 := cell_blk y5 1; have r2 := frozen_blk y5 0; have r3 := frozen_blk y5 1
              clear z5 y5
              cases hvr : validT a (addR xs ys)
              · have HC5 := Lib.hid (show addC a a xs ys = 5 from by rw [HC.out, hvr]; rfl)
                clear hvr
                go_wp2_with fail
                refine bodyPost_ret (v := .tuple #[.agg #[.int .i64 0, .slice none 0 0], .int .i64 5]) (by simp [results, Try.results8, go_sem, *]) rfl ?_
                rw [show addB a a xs ys = 0 from by simp [addB, HC5.out], show addL a a xs ys = [] from by simp [addL, HC5.out], HC5.out]
                exact ⟨_, rfl, own_nil, by first | exact (B5.out.setCell (by simp; omega) _).setCell (by simp; omega) _ | exact B5.out⟩
              · have HC5 := Lib.hid (show addC a a xs ys = 0 from by rw [HC.out, hvr]; rfl)
                clear hvr
                go_wp2_with fail
                refine bodyPost_ret (v := .tuple #[.agg #[.int .i64 a, .slice (some ⟨gs, 0, none⟩) (m + 1) cap], .int .i64 0]) (by simp [results, Try.results8, go_sem, *]) rfl ?_
                rw [show addB a a xs ys = a from by simp [addB, HC5.out], show addL a a xs ys = addR xs ys from by simp [addL, HC5.out], HC5.out, ← HT.out]
                exact ⟨_, rfl, own_base (ownsRow_setCell_below (ownsRow_setCell_below O5.out (by simp; omega) _) (by simp; omega) _) (by omega), (B5.out.setCell (by simp; omega) _).setCell (by simp; omega) _⟩
set_option maxHeartbeats 4000000 in
theorem spec_AddTurns {B1 B2 : Nat} {u v : Value} {xs ys : List Int} (a b : Int) (w : World) (h1 : Own w B1 u xs) (h2 : Own w B2 v ys) (hx : xs.length ≤ 1048576) (hy : ys.length ≤ 1048576) :
    Calls Try.prog 8 #[.agg #[.int .i64 a, u], .agg #[.int .i64 b, v]] w (RetAggI w (addB a b xs ys) (addL a b xs ys) (addC a b xs ys)) := by
  have H1 := Lib.hid h1; have H2 := Lib.hid h2
  obtain ⟨p1, c1, rfl, m1, q1⟩ := own_form h1
  obtain ⟨p2, c2, rfl, m2, q2⟩ := own_form h2
  have Q1 := Lib.hid q1; have Q2 := Lib.hid q2
  clear h1 h2 q1 q2
  cases hva : validT a xs
  · rw [show addB a b xs ys = 0 from by simp [addB, addC, hva], show addL a b xs ys = [] from by simp [addL, addC, hva], show addC a b xs ys = 1 from by simp [addC, hva]]
    have HVA := Lib.hid hva; clear hva
    go_enter Try.func8, Try.ntmps8
    go_wp2_with fail
    refine (spec_l13Ok a _ _ (own_alloc (own_alloc (own_alloc H1.out _) _) _) (cell_blk (blk3 (Below.refl _ _)).1 0) (cell_blk (blk3 (Below.refl _ _)).1 1) hx).mono ?_; rintro e w1 ⟨rfl, b1⟩; rw [HVA.out]
    obtain ⟨-, -, x2, bw, hs, -⟩ := blk3 b1
    have c0 := cell_blk x2 0; have c1 := cell_blk x2 1; have f0 := frozen_blk x2 0; have f1 := frozen_blk x2 1
    have BW := Lib.hid bw; clear b1 bw x2
    go_wp2_with fail
    refine bodyPost_ret (v := .tuple #[.agg #[.int .i64 0, .slice none 0 0], .int .i64 1]) (by simp [results, Try.results8, go_sem, *]) rfl ?_
    exact ⟨_, rfl, own_nil, by first | exact (BW.out.setCell (by simp; omega) _).setCell (by simp; omega) _ | exact BW.out⟩
  have HVA := Lib.hid hva
  cases hvb : validT b ys
  · rw [show addB a b xs ys = 0 from by simp [addB, addC, hvb], show addL a b xs ys = [] from by simp [addL, addC, hvb], show addC a b xs ys = 1 from by simp [addC, hvb]]
    have HVB := Lib.hid hvb; clear hvb hva
    go_enter Try.func8, Try.ntmps8
    go_wp2_with fail
    refine (spec_l13Ok a _ _ (own_alloc (own_alloc (own_alloc H1.out _) _) _) (cell_blk (blk3 (Below.refl _ _)).1 0) (cell_blk (blk3 (Below.refl _ _)).1 1) hx).mono ?_; rintro e w1 ⟨rfl, b1⟩; rw [HVA.out]
    obtain ⟨x0, x1, x2, bw, hs, -⟩ := blk3 b1
    have O1 := Lib.hid (own_keep b1 (own_alloc (own_alloc (own_alloc H1.out _) _) _)); have O2 := Lib.hid (own_keep b1 (own_alloc (own_alloc (own_alloc H2.out _) _) _))
    have X0 := Lib.hid x0; have X1 := Lib.hid x1
    have e0 := Lib.hid (cell_blk x1 0); have e1 := Lib.hid (cell_blk x1 1)
    have X2 := Lib.hid x2; have BW := Lib.hid bw; clear b1 bw x2 x0 x1
    go_wp2_with fail
    refine (spec_l13Ok b _ _ O2.out (by first | exact e0.out | simpa using e0.out) (by first | exact e1.out | simpa using e1.out) hy).mono ?_; rintro e w2 ⟨rfl, b2⟩; rw [HVB.out]
    have x0 := (b2.block _ (Array.getElem?_eq_some_iff.1 X0.out).1).trans X0.out
    have x1 := (b2.block _ (Array.getElem?_eq_some_iff.1 X1.out).1).trans X1.out
    have x2 := (b2.block _ (Array.getElem?_eq_some_iff.1 X2.out).1).trans X2.out
    have Y0 := Lib.hid x0; have Y1 := Lib.hid x1; have Y2 := Lib.hid x2
    have P1 := Lib.hid (own_keep b2 O1.out); have P2 := Lib.hid (own_keep b2 O2.out)
    have BW2 := Lib.hid (Below.trans_size BW.out b2); have hs2 := b2.size
    clear b2 e0 e1 O1 O2 X0 X1 X2 BW
    have e0 := cell_blk x1 0; have e1 := cell_blk x1 1; have d0 := cell_blk x0 0; have d1 := cell_blk x0 1
    have g0 : w.heap.size < w2.heap.size := by omega
    have g1 : w.heap.size + 1 < w2.heap.size := by omega
    have c0 := cell_blk x2 0; have c1 := cell_blk x2 1; have f0 := frozen_blk x2 0; have f1 := frozen_blk x2 1
    clear x0 x1 x2
    go_wp2_with fail
    refine bodyPost_ret (v := .tuple #[.agg #[.int .i64 0, .slice none 0 0], .int .i64 1]) (by simp [results, Try.results8, go_sem, *]) rfl ?_
    exact ⟨_, rfl, own_nil, by first | exact (BW2.out.setCell (by simp; omega) _).setCell (by simp; omega) _ | exact BW2.out⟩
  have HVB := Lib.hid hvb
  by_cases hab : a = b
  · subst hab
    exact spec_AddTurns_eq a w H1.out H2.out hx hy hva hvb
  · rw [show addB a b xs ys = 0 from by simp [addB, addC, hva, hvb, hab], show addL a b xs ys = [] from by simp [addL, addC, hva, hvb, hab], show addC a b xs ys = 6 from by simp [addC, hva, hvb, hab]]
    have hne : (a != b) = true := by simp [hab]
    clear hvb hva hab
    go_enter Try.func8, Try.ntmps8
    go_wp2_with fail
    refine (spec_l13Ok a _ _ (own_alloc (own_alloc (own_alloc H1.out _) _) _) (cell_blk (blk3 (Below.refl _ _)).1 0) (cell_blk (blk3 (Below.refl _ _)).1 1) hx).mono ?_; rintro e w1 ⟨rfl, b1⟩; rw [HVA.out]
    obtain ⟨x0, x1, x2, bw, hs, -⟩ := blk3 b1
    have O1 := Lib.hid (own_keep b1 (own_alloc (own_alloc (own_alloc H1.out _) _) _)); have O2 := Lib.hid (own_keep b1 (own_alloc (own_alloc (own_alloc H2.out _) _) _))
    have X0 := Lib.hid x0; have X1 := Lib.hid x1
    have e0 := Lib.hid (cell_blk x1 0); have e1 := Lib.hid (cell_blk x1 1)
    have X2 := Lib.hid x2; have BW := Lib.hid bw; clear b1 bw x2 x0 x1
    go_wp2_with fail
    refine (spec_l13Ok b _ _ O2.out (by first | exact e0.out | simpa using e0.out) (by first | exact e1.out | simpa using e1.out) hy).mono ?_; rintro e w2 ⟨rfl, b2⟩; rw [HVB.out]
    have x0 := (b2.block _ (Array.getElem?_eq_some_iff.1 X0.out).1).trans X0.out
    have x1 := (b2.block _ (Array.getElem?_eq_some_iff.1 X1.out).1).trans X1.out
    have x2 := (b2.block _ (Array.getElem?_eq_some_iff.1 X2.out).1).trans X2.out
    have Y0 := Lib.hid x0; have Y1 := Lib.hid x1; have Y2 := Lib.hid x2
    have P1 := Lib.hid (own_keep b2 O1.out); have P2 := Lib.hid (own_keep b2 O2.out)
    have BW2 := Lib.hid (Below.trans_size BW.out b2); have hs2 := b2.size
    clear b2 e0 e1 O1 O2 X0 X1 X2 BW
    have e0 := cell_blk x1 0; have e1 := cell_blk x1 1; have d0 := cell_blk x0 0; have d1 := cell_blk x0 1
    have g0 : w.heap.size < w2.heap.size := by omega
    have g1 : w.heap.size + 1 < w2.heap.size := by omega
    have c0 := cell_blk x2 0; have c1 := cell_blk x2 1; have f0 := frozen_blk x2 0; have f1 := frozen_blk x2 1
    clear x0 x1 x2
    go_wp2_with fail
    refine bodyPost_ret (v := .tuple #[.agg #[.int .i64 0, .slice none 0 0], .int .i64 6]) (by simp [results, Try.results8, go_sem, *]) rfl ?_
    exact ⟨_, rfl, own_nil, by first | exact (BW2.out.setCell (by simp; omega) _).setCell (by simp; omega) _ | exact BW2.out⟩
end Go.Proofs.Ytkhjmokjbiepgaa
