/- EngineCarries of the reference. -/
import Derived.IntWalk
import Derived.Deep.RegionHeld3
import Derived.Deep.Cut
import Derived.Deep.CutRange
import Derived.Deep.CutBlock
import Derived.Test.YtknpjibdnjpamaaEc
namespace Go.Proofs.Ytknpjibdnjpamaa
open Go.ChangeShapes Go.WideShapes Go.ChangeAt Go.RowKit
theorem carryAL {w w' : World} {A O : Obj} {n : Nat} (b : Below (w.alloc A).heap.size (w.alloc A) w') (h : w.heap[n]? = some O) : w'.heap[n]? = some O := by
  have hn : n < w.heap.size := (Array.getElem?_eq_some_iff.1 h).1
  rw [b.block n (by simp; omega), Below.heap_alloc _ _ _ hn]; exact h
theorem blkd1 {w w1 : World} {A : Obj} (b : Below (w.alloc A).drew.heap.size (w.alloc A).drew w1) : w1.heap[w.heap.size]? = some A ∧ Below w.heap.size w w1 ∧ w.heap.size + 1 ≤ w1.heap.size := by
  obtain ⟨y, bw, hs, -⟩ := blk1 (w := w.drew) (A := A) b
  exact ⟨y, (Below.refl w.heap.size w).drew.trans bw, hs⟩
set_option maxHeartbeats 8000000 in
theorem spec_EngineCarries {B : Nat} {v : Value} {xs : List Int} (wd : Int) (w : World) (h : Own w B v xs) (hlen : xs.length ≤ 1048576) :
    Calls Try.prog 21 #[.agg #[.int .i64 wd, v]] w (RetV w (.tuple #[.int .i64 (ecV wd xs), .int .i64 (ecC wd xs)])) := by
  have HO := Lib.hid h
  obtain ⟨a1, cp1, rfl, m1, q1⟩ := own_form h
  have QQ := Lib.hid q1; clear q1 h
  cases hv : validE wd xs
  · have HC := Lib.hid (show ecC wd xs = 1 from by simp [ecC, hv]); have HW := Lib.hid (show ecV wd xs = 0 from by simp [ecV, hv])
    have HV := Lib.hid hv; clear hv
    go_enter Try.func21, Try.ntmps21
    go_wp2_with fail
    refine (spec_l16Ok wd _ _ (own_alloc HO.out _) (cell_blk (heap_last _ _) 0) (cell_blk (heap_last _ _) 1) hlen).mono ?_; rintro e w1 ⟨rfl, b1⟩; rw [HV.out]
    have BW := Lib.hid (blk1 b1).2.1; clear b1
    go_wp2_with fail
    refine bodyPost_ret (v := .tuple #[.int .i64 0, .int .i64 1]) (by simp [results, Try.results21, go_sem, *]) rfl ?_
    exact ⟨ret_tt HW.out HC.out, BW.out⟩
  have HV := Lib.hid hv
  obtain ⟨d1, d2, d3, d4, d5⟩ := validE_parts hv
  have HC := Lib.hid (show ecC wd xs = 0 from by simp [ecC, hv]); have HW := Lib.hid (show ecV wd xs = engTo (wd.toNat - 1) xs (xs.length - 1) from by simp [ecV, hv])
  have D5 := Lib.hid d5
  clear hv d5
  obtain ⟨W, rfl⟩ := Int.eq_ofNat_of_zero_le (show 0 ≤ wd by omega)
  obtain ⟨T, hT⟩ : ∃ T : Nat, W = T + 1 := ⟨W - 1, by omega⟩
  rw [show (W : Int).toNat - 1 = T by omega] at HW
  have HT := Lib.hid hT
  have hT11 : T ≤ 11 := by omega
  clear hT
  go_enter Try.func21, Try.ntmps21
  go_wp2_with fail
  refine (spec_l16Ok (W : Int) _ _ (own_alloc HO.out _) (cell_blk (heap_last _ _) 0) (cell_blk (heap_last _ _) 1) hlen).mono ?_; rintro e w1 ⟨rfl, b1⟩; rw [HV.out]
  obtain ⟨y0, bw, s1, -⟩ := blk1 b1
  have C0 := Lib.hid (cell_blk y0 0); have C1 := Lib.hid (cell_blk y0 1)
  have lt0 : w.heap.size < w1.heap.size := by omega
  have BW := Lib.hid bw
  have QR := Lib.hid (show ∀ j, j < xs.length → ∃ g, a1 = some ⟨g, 0, none⟩ ∧ g < w1.heap.size ∧ w1.cell? ⟨g, j, none⟩ = some (.int .i64 (nth xs j)) from fun j hj => by
    obtain ⟨g, e1, e2⟩ := QQ.out j hj
    have gl : g < w.heap.size := World.block_lt_of_cell? w _ e2
    exact ⟨g, e1, by omega, (bw.cell (World.block_lt_of_cell? w _ e2)).trans e2⟩)
  clear b1 bw y0 QQ
  go_wp2_with fail
  go_loopw [4, 5, 6, 7, 8, 9, 10, 11] (fun nn kk _ _ _ _ _ _ wr => ∃ j : Nat, kk = .int .i64 ((j : Int) + 1) ∧ j + 1 ≤ xs.length ∧ nn = .int .i64 (engTo T xs j) ∧ Below w1.heap.size w1 wr ∧ w1.heap.size ≤ wr.heap.size) (fun _ kk _ _ _ _ _ _ _ => xs.length - (intOf kk).toNat)
  case atStart => exact ⟨0, rfl, by omega, rfl, Below.refl _ _, Nat.le_refl _⟩
  case round =>
    obtain ⟨j, rfl, hj, rfl, hbw, hs⟩ := hrel
    have k0 : wr.cell? ⟨w.heap.size, 0, none⟩ = some (.int .i64 (W : Int)) := (hbw.cell lt0).trans C0.out
    have k1 : wr.cell? ⟨w.heap.size, 1, none⟩ = some (.slice a1 xs.length cp1) := (hbw.cell lt0).trans C1.out
    have lt1 : w.heap.size < wr.heap.size := by omega
    have HBW := Lib.hid hbw
    by_cases hlt : j + 1 < xs.length
    · obtain ⟨g, rfl, gl1, r0⟩ := QR.out j (by omega)
      obtain ⟨g2, e2, gl2, r1⟩ := QR.out (j + 1) hlt
      obtain rfl : g = g2 := by simpa using e2
      have p0 := (hbw.cell gl1).trans r0
      have p1 := (hbw.cell gl1).trans r1
      have gl3 : g < wr.heap.size := by omega
      obtain ⟨xb0, xb1⟩ := D5.out j (by omega)
      obtain ⟨yb0, yb1⟩ := D5.out (j + 1) hlt
      obtain ⟨nb0, nb1⟩ := engTo_bd (n := T) (by omega) xs j
      have HE := Lib.hid (show engTo T xs (j + 1) = engTo T xs j + cs 10 (nth xs j) (nth xs (j + 1)) T from rfl)
      generalize engTo T xs j = N0 at *
      clear e2 r0 r1 hbw
      generalize nth xs j = x at *
      generalize nth xs (j + 1) = y at *
      have i0 : (0 : Int) ≤ (j : Int) := by omega
      have i1 : (j : Int) < (xs.length : Int) := by omega
      have i2 : (0 : Int) ≤ (j : Int) + 1 := by omega
      have i3 : (j : Int) + 1 < (xs.length : Int) := by omega
      have i4 : ((j : Int) + 1).toNat = j + 1 := by omega
      have i5 : (j : Int) + 1 - 1 = (j : Int) := by omega
      have wJ : IntKind.i64.wrap (j : Int) = (j : Int) := IntWalk.i64_in _ (by omega)
      have wJ1 : IntKind.i64.wrap ((j : Int) + 1 - 1) = (j : Int) + 1 - 1 := IntWalk.i64_in _ (by omega)
      have I1 := Lib.hid (fun wx => spec_l02New 10 x W wx (by omega) (by omega) xb0 (by omega) (by omega))
      have I2 := Lib.hid (fun wx => spec_l02New 10 y W wx (by omega) (by omega) yb0 (by omega) (by omega))
      have ne1 : ¬ w.heap.size = wr.heap.size := by omega
      have ne2 : ¬ g = wr.heap.size := by omega
      have ne3 : ¬ wr.heap.size = w.heap.size := by omega
      have ne4 : ¬ wr.heap.size = g := by omega
      go_upto_region 7 with fail
      go_cut [6, 7] from 14 to 57 (fun pa _ wx => ∃ (ga : Nat) (ua : Value), pa = .pointer (some ⟨ga, 0, none⟩) ∧ Own wx wr.heap.size ua (digL 10 x W) ∧ wx.heap[ga]? = some (.cells #[.int .i64 10, ua] 50) ∧ Below wr.heap.size wr wx ∧ wr.heap.size ≤ wx.heap.size)
      case first =>
        go_region_held3 (fun w' => w'.cell? ⟨w.heap.size, 0, none⟩ = some (.int .i64 (W : Int)) ∧ w'.cell? ⟨w.heap.size, 1, none⟩ = some (.slice (some ⟨g, 0, none⟩) xs.length cp1) ∧ w'.cell? ⟨g, j, none⟩ = some (.int .i64 x)) (first | go_keep | (refine ⟨?_, ?_, ?_⟩ <;> assumption)) (first | (go_at_call 35; refine (I1.out _).mono ?_; rintro e w2 ⟨v2, rfl, o2, b2⟩; have BA2 := Below.trans_size (Below.refl wr.heap.size wr).drew b2; have s2 := b2.size; have A2 := Lib.hid (show Own w2 wr.heap.size _ _ from o2); have z0 := (BA2.cell (World.block_lt_of_cell? wr _ k0)).trans k0; have z1 := (BA2.cell (World.block_lt_of_cell? wr _ k1)).trans k1; have z2 := (BA2.cell (World.block_lt_of_cell? wr _ p0)).trans p0; obtain ⟨av, ac, rfl, -, -⟩ := own_form o2; have HB2 := Lib.hid BA2; clear o2 b2 BA2) | (go_at_call 35; refine (I1.out _).mono ?_; rintro e w2 ⟨v2, rfl, o2, b2⟩; obtain ⟨y2, BA2, s2⟩ := blkd1 (w := wr) (A := .cells #[.int .i64 0, .slice none 0 0] 50) b2; have A2 := Lib.hid (show Own w2 wr.heap.size _ _ from own_base o2 (by simp)); have z0 := (BA2.cell (World.block_lt_of_cell? wr _ k0)).trans k0; have z1 := (BA2.cell (World.block_lt_of_cell? wr _ k1)).trans k1; have z2 := (BA2.cell (World.block_lt_of_cell? wr _ p0)).trans p0; obtain ⟨av, ac, rfl, -, -⟩ := own_form o2; have NQ := Lib.hid (show (Value.slice av (digL 10 x W).length ac).ownBlock ≠ some wr.heap.size from fun e => by have h9 := (own_block_lt o2 _ e).1; simp at h9; omega); have Y2 := Lib.hid y2; have yc0 := cell_blk y2 0; have yc1 := cell_blk y2 1; have yf0 := frozen_blk y2 0; have yf1 := frozen_blk y2 1; have HB2 := Lib.hid BA2; have lt2 : wr.heap.size < w2.heap.size := (by omega); clear o2 b2 y2 BA2))
        all_goals (
        go_wp2_with fail
        go_meet
        case rel =>
          first
            | exact ⟨_, _, rfl, own_alloc A2.out _, heap_last _ _, HB2.out.alloc HB2.out.size _, by have := HB2.out.size; simp; omega⟩
            | exact ⟨_, _, rfl, own_setCell_ne (own_setCell_ne A2.out NQ.out) NQ.out, setCell_blk (setCell0_blk Y2.out _) _, (HB2.out.setCell (Nat.le_refl _) _).setCell (Nat.le_refl _) _, by have := HB2.out.size; simp; omega⟩)
      case rest =>
        obtain ⟨ga, ua, rfl, oa, ya, hba, hsa⟩ := hcut
        generalize wc = wx at *
        have OA := Lib.hid oa; have YA := Lib.hid ya; have BA := Lib.hid (Below.trans_size HBW.out hba)
        have k0' := (hba.cell (World.block_lt_of_cell? wr _ k0)).trans k0
        have k1' := (hba.cell (World.block_lt_of_cell? wr _ k1)).trans k1
        have p1' := (hba.cell (World.block_lt_of_cell? wr _ p1)).trans p1
        clear k0 k1 p0 p1 oa ya hba ne1 ne2 ne3 ne4
        have k0 := k0'; have k1 := k1'; have p1 := p1'
        clear k0' k1' p1'
        have ltx : w.heap.size < wx.heap.size := by omega
        have glx : g < wx.heap.size := by omega
        have ne1 : ¬ w.heap.size = wx.heap.size := by omega
        have ne2 : ¬ g = wx.heap.size := by omega
        have ne3 : ¬ wx.heap.size = w.heap.size := by omega
        have ne4 : ¬ wx.heap.size = g := by omega
        go_upto_region 8 with fail
        go_cut [8, 9] from 14 to 57 (fun pa _ wz => ∃ (ga : Nat) (ua : Value), pa = .pointer (some ⟨ga, 0, none⟩) ∧ Own wz wx.heap.size ua (digL 10 y W) ∧ wz.heap[ga]? = some (.cells #[.int .i64 10, ua] 50) ∧ Below wx.heap.size wx wz ∧ wx.heap.size ≤ wz.heap.size)
        case first =>
          go_region_held3 (fun w' => w'.cell? ⟨w.heap.size, 0, none⟩ = some (.int .i64 (W : Int)) ∧ w'.cell? ⟨w.heap.size, 1, none⟩ = some (.slice (some ⟨g, 0, none⟩) xs.length cp1) ∧ w'.cell? ⟨g, j + 1, none⟩ = some (.int .i64 y)) (first | go_keep | (refine ⟨?_, ?_, ?_⟩ <;> assumption)) (first | (go_at_call 35; refine (I2.out _).mono ?_; rintro e w2 ⟨v2, rfl, o2, b2⟩; have BA2 := Below.trans_size (Below.refl wx.heap.size wx).drew b2; have s2 := b2.size; have A2 := Lib.hid (show Own w2 wx.heap.size _ _ from o2); have z0 := (BA2.cell (World.block_lt_of_cell? wx _ k0)).trans k0; have z1 := (BA2.cell (World.block_lt_of_cell? wx _ k1)).trans k1; have z2 := (BA2.cell (World.block_lt_of_cell? wx _ p1)).trans p1; obtain ⟨av, ac, rfl, -, -⟩ := own_form o2; have HB2 := Lib.hid BA2; clear o2 b2 BA2) | (go_at_call 35; refine (I2.out _).mono ?_; rintro e w2 ⟨v2, rfl, o2, b2⟩; obtain ⟨y2, BA2, s2⟩ := blkd1 (w := wx) (A := .cells #[.int .i64 0, .slice none 0 0] 50) b2; have A2 := Lib.hid (show Own w2 wx.heap.size _ _ from own_base o2 (by simp)); have z0 := (BA2.cell (World.block_lt_of_cell? wx _ k0)).trans k0; have z1 := (BA2.cell (World.block_lt_of_cell? wx _ k1)).trans k1; have z2 := (BA2.cell (World.block_lt_of_cell? wx _ p1)).trans p1; obtain ⟨av, ac, rfl, -, -⟩ := own_form o2; have NQ := Lib.hid (show (Value.slice av (digL 10 y W).length ac).ownBlock ≠ some wx.heap.size from fun e => by have h9 := (own_block_lt o2 _ e).1; simp at h9; omega); have Y2 := Lib.hid y2; have yc0 := cell_blk y2 0; have yc1 := cell_blk y2 1; have yf0 := frozen_blk y2 0; have yf1 := frozen_blk y2 1; have HB2 := Lib.hid BA2; have lt2 : wx.heap.size < w2.heap.size := (by omega); clear o2 b2 y2 BA2))
          all_goals (
          go_wp2_with fail
          go_meet
          case rel =>
            first
              | exact ⟨_, _, rfl, own_alloc A2.out _, heap_last _ _, HB2.out.alloc HB2.out.size _, by have := HB2.out.size; simp; omega⟩
              | exact ⟨_, _, rfl, own_setCell_ne (own_setCell_ne A2.out NQ.out) NQ.out, setCell_blk (setCell0_blk Y2.out _) _, (HB2.out.setCell (Nat.le_refl _) _).setCell (Nat.le_refl _) _, by have := HB2.out.size; simp; omega⟩)
        case rest =>
          obtain ⟨gb, ub, rfl, ob, yb, hbb, hsb⟩ := hcut
          generalize wc = wy at *
          have BB := Lib.hid (Below.trans_size BA.out hbb)
          have OA2 := Lib.hid (own_keep hbb OA.out)
          have ya2 : wy.heap[ga]? = some (.cells #[.int .i64 10, ua] 50) := by
            rw [hbb.block ga (Array.getElem?_eq_some_iff.1 YA.out).1]; exact YA.out
          have ca0 := cell_blk ya2 0; have ca1 := cell_blk ya2 1; have cb1 := cell_blk yb 1
          have L1 := Lib.hid (spec_l02Carries (n := W) 10 0 wy OA2.out ob (by simp [digL]) (by simp [digL]) (by omega) (by omega) (by omega) ca0 ca1 cb1
            (fun k hk => by rw [show nth (digL 10 x W) k = dig 10 x k from nth_range_map _ hk]; exact dig_bd (by omega) k) (fun k hk => by rw [show nth (digL 10 y W) k = dig 10 y k from nth_range_map _ hk]; exact dig_bd (by omega) k))
          clear ya2 ca0 ca1 cb1 ob yb hbb k0 k1 p1 ne1 ne2 ne3 ne4
          go_wp2_with fail
          refine L1.out.mono ?_; rintro e w5 ⟨vc, rfl, oc, bc⟩
          have hlen5 : (cyN 10 (digL 10 x W) (digL 10 y W) (W + 1)).length = W + 1 := by simp [cyN]
          obtain ⟨ac, cc, rfl, -, qc⟩ := own_form oc
          rw [hlen5] at *
          have CQ := Lib.hid (show ∀ i, i ≤ W → ∃ gq, ac = some ⟨gq, 0, none⟩ ∧ w5.cell? ⟨gq, i, none⟩ = some (.int .i64 (cy 10 x y i)) from fun i hi => by
            obtain ⟨gq, e1, e2⟩ := qc i (by omega)
            rw [cyN_cy hi] at e2
            exact ⟨gq, e1, e2⟩)
          have B5 := Lib.hid (Below.trans_size BB.out bc); have s5 := B5.out.size
          have hWT := HT.out
          clear oc bc qc hlen5 L1
          go_wp2_with fail
          go_loop [4, 11] (fun ss ii => ∃ t : Nat, ii = .int .i64 ((t : Int) + 1) ∧ t ≤ T ∧ ss = .int .i64 (N0 + cs 10 x y t)) (fun _ ii => W - (intOf ii).toNat)
          case atStart => exact ⟨0, rfl, Nat.zero_le _, by show _ = Value.int .i64 (N0 + 0); simp⟩
          case round =>
            obtain ⟨t, rfl, ht, rfl⟩ := hrel
            obtain ⟨u0, u1⟩ := cs_bd (b := 10) (x := x) (y := y) (by omega) t
            by_cases htl : t < T
            · obtain ⟨gq, rfl, rq⟩ := CQ.out (t + 1) (by omega)
              have hn4 : cs 10 x y (t + 1) = cs 10 x y t + cy 10 x y (t + 1) := rfl
              obtain ⟨z0, z1⟩ := cy_bd (b := 10) (x := x) (y := y) (by omega) (t + 1)
              have HN := Lib.hid hn4; clear hn4
              generalize cy 10 x y (t + 1) = Cc at *
              generalize cs 10 x y t = Ss at *
              go_wp2_with fail
              go_round
              case rel => exact ⟨t + 1, by go_num, by omega, by first | (rw [HN.out]; done) | (rw [HN.out]; go_num)⟩
              case measure => first | (simp [intOf]; done) | (simp [intOf]; omega)
            · obtain rfl : t = T := by omega
              go_wp2_with fail
              go_roundw
              case rel => first | exact ⟨j + 1, by go_num, by omega, by rw [HE.out], B5.out, s5⟩ | exact ⟨j + 1, by go_num, by omega, by rw [HE.out], B5.out⟩
              case measure => first | (simp [intOf]; done) | (simp [intOf]; omega)
    · have HF := Lib.hid (show engTo T xs (xs.length - 1) = engTo T xs j from by rw [show xs.length - 1 = j by omega])
      rw [HF.out] at HW
      generalize engTo T xs j = N0 at *
      have i3 : ¬ (j : Int) + 1 < (xs.length : Int) := by omega
      go_wp2_with fail
      refine bodyPost_ret (v := .tuple #[.int .i64 N0, .int .i64 0]) (by simp [results, Try.results21, go_sem, *]) rfl ?_
      exact ⟨ret_tt HW.out HC.out, Below.trans_size BW.out HBW.out⟩
end Go.Proofs.Ytknpjibdnjpamaa
