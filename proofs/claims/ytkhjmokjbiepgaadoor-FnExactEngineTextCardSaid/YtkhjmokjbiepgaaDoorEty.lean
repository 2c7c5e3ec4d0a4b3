/- EngineText of the reference. -/
import Derived.IntWalk
import Derived.Deep.RegionHeld3
import Derived.Deep.Cut
import Derived.Deep.CutRange
import Derived.Deep.CutBlock
import Derived.Test.YtkhjmokjbiepgaaDoorEtx
namespace Go.Proofs.YtkhjmokjbiepgaaDoor
open Go.ChangeShapes Go.WideShapes Go.ChangeAt Go.RowKit
theorem blkd1 {w w1 : World} {A : Obj} (b : Below (w.alloc A).drew.heap.size (w.alloc A).drew w1) : w1.heap[w.heap.size]? = some A ∧ Below w.heap.size w w1 ∧ w.heap.size + 1 ≤ w1.heap.size := by
  obtain ⟨y, bw, hs, -⟩ := blk1 (w := w.drew) (A := A) b
  exact ⟨y, (Below.refl w.heap.size w).drew.trans bw, hs⟩
theorem dv_nat (C : Nat) : ∀ k : Nat, dv 10 (C : Int) k = ((C / 10 ^ k : Nat) : Int) := by
  intro k
  induction k with
  | zero => show (C : Int) = ((C / 1 : Nat) : Int); rw [Nat.div_one]
  | succ k ih => show dv 10 (C : Int) k / 10 = _; rw [ih, Nat.pow_succ, ← Nat.div_div_eq_div_mul]; rfl
theorem dig_nat (C k : Nat) : dig 10 (C : Int) k = ((C / 10 ^ k % 10 : Nat) : Int) := by unfold dig; rw [dv_nat]; rfl
theorem itoa_dig {d : Nat} (h : d < 10) : Lib.itoa (d : Int) = [UInt8.ofNat (48 + d)] := by
  by_cases h0 : d = 0
  · subst h0; exact dec_zero
  · rw [dec_pos h0, digF_rec h0, show d / 10 = 0 by omega, digF_zero, show d % 10 = d by omega]; rfl
theorem pad_step {W C t : Nat} (h : t < W) : padD t (C / 10 ^ (W - t)) ++ [UInt8.ofNat (48 + C / 10 ^ (W - (t + 1)) % 10)] = padD (t + 1) (C / 10 ^ (W - (t + 1))) := by
  show _ = padD t (C / 10 ^ (W - (t + 1)) / 10) ++ _
  rw [Nat.div_div_eq_div_mul, ← Nat.pow_succ, show Nat.succ (W - (t + 1)) = W - t by omega]
set_option maxHeartbeats 8000000 in
theorem spec_l16Text {B : Nat} {v : Value} {xs : List Int} (W g0 : Nat) (w : World) (h : Own w B v xs) (hc0 : w.cell? ⟨g0, 0, none⟩ = some (.int .i64 (W : Int))) (hc1 : w.cell? ⟨g0, 1, none⟩ = some v)
    (hN : xs.length ≤ 9) (hW1 : 1 ≤ W) (hW2 : W ≤ 12) (hcol : ∀ k, k < xs.length → 0 ≤ nth xs k ∧ (nth xs k).toNat < 10 ^ W) :
    Calls Tryd.prog 39 #[.pointer (some ⟨g0, 0, none⟩)] w (RetV w (.string ⟨(etF W xs xs.length).toArray⟩)) := by
  have lt0 : g0 < w.heap.size := World.block_lt_of_cell? w _ hc0
  obtain ⟨a1, cp1, rfl, m1, q1⟩ := own_form h
  have QQ := Lib.hid q1; have C0 := Lib.hid hc0; have C1 := Lib.hid hc1; have HC := Lib.hid hcol
  clear q1 h hcol
  go_enter Tryd.func39, Tryd.ntmps39
  go_wp2_with fail
  clear hc0 hc1
  go_loopw [3, 4, 5, 6, 7] (fun o kk _ _ _ wr => ∃ (j : Nat) (T : List UInt8), kk = .int .i64 j ∧ j ≤ xs.length ∧ o = .string ⟨T.toArray⟩ ∧ T.length ≤ 13 * j ∧ Hid (T = etF W xs j) ∧ Below w.heap.size w wr ∧ w.heap.size ≤ wr.heap.size) (fun _ kk _ _ _ _ => xs.length - (intOf kk).toNat)
  case atStart => exact ⟨0, [], rfl, by omega, rfl, by simp, rfl, Below.refl _ _, Nat.le_refl _⟩
  case round =>
    obtain ⟨j, T, rfl, hj, rfl, hTl, hTT, hbw, hs⟩ := hrel
    have k0 : wr.cell? ⟨g0, 0, none⟩ = some (.int .i64 (W : Int)) := (hbw.cell lt0).trans C0.out
    have k1 : wr.cell? ⟨g0, 1, none⟩ = some (.slice a1 xs.length cp1) := (hbw.cell lt0).trans C1.out
    have lt1 : g0 < wr.heap.size := by omega
    have HBW := Lib.hid hbw
    by_cases hlt : j < xs.length
    · obtain ⟨g, rfl, r0⟩ := QQ.out j hlt
      have gl0 : g < w.heap.size := World.block_lt_of_cell? w _ r0
      have p0 := (hbw.cell (p := ⟨g, j, none⟩) gl0).trans r0
      have gl3 : g < wr.heap.size := by omega
      obtain ⟨c0, c1⟩ := HC.out j hlt
      obtain ⟨C, hC⟩ := Int.eq_ofNat_of_zero_le c0
      rw [hC, Int.toNat_natCast] at c1
      have c2 : C < 10 ^ 12 := Nat.lt_of_lt_of_le c1 (Nat.pow_le_pow_right (by omega) hW2)
      have c3 : C < 1000000000000 := by simpa using c2
      have HN := Lib.hid (show etF W xs (j + 1) = T ++ (if j = 0 then [] else [32]) ++ padD W C from by rw [hTT.out]; show _ ++ wdE W (nth xs j) = _; unfold wdE; rw [hC, Int.toNat_natCast])
      rw [hC] at p0
      clear r0 hbw hC c0 c1 c2 hTT
      have i0 : (0 : Int) ≤ (j : Int) := by omega
      have i1 : (j : Int) < (xs.length : Int) := by omega
      have I1 := Lib.hid (fun wx => spec_l02New 10 (C : Int) W wx (by omega) (by omega) (by omega) (by omega) (by omega))
      have ne1 : ¬ g0 = wr.heap.size := by omega
      have ne2 : ¬ g = wr.heap.size := by omega
      have ne3 : ¬ wr.heap.size = g0 := by omega
      have ne4 : ¬ wr.heap.size = g := by omega
      by_cases h0 : j = 0
      · have HN0 := Lib.hid (show etF W xs (j + 1) = T ++ padD W C from by rw [HN.out, if_pos h0, List.append_nil])
        have z0 : (j : Int) ≤ 0 := by omega
        clear h0 HN
        go_upto_region 7 with fail
        go_cut [5, 6] from 8 to 51 (fun pa _ wx => ∃ (ga : Nat) (ua : Value), pa = .pointer (some ⟨ga, 0, none⟩) ∧ Own wx wr.heap.size ua (digL 10 (C : Int) W) ∧ wx.heap[ga]? = some (.cells #[.int .i64 10, ua] 78) ∧ Below wr.heap.size wr wx ∧ wr.heap.size ≤ wx.heap.size)
        case first =>
          go_region_held3 (fun w' => w'.cell? ⟨g0, 0, none⟩ = some (.int .i64 (W : Int)) ∧ w'.cell? ⟨g0, 1, none⟩ = some (.slice (some ⟨g, 0, none⟩) xs.length cp1) ∧ w'.cell? ⟨g, j, none⟩ = some (.int .i64 (C : Int))) (first | go_keep | (refine ⟨?_, ?_, ?_⟩ <;> assumption)) (first | (go_at_call 52; refine (I1.out _).mono ?_; rintro e w2 ⟨v2, rfl, o2, b2⟩; have BA2 := Below.trans_size (Below.refl wr.heap.size wr).drew b2; have s2 := b2.size; have A2 := Lib.hid (show Own w2 wr.heap.size _ _ from o2); have z0 := (BA2.cell (World.block_lt_of_cell? wr _ k0)).trans k0; have z1 := (BA2.cell (World.block_lt_of_cell? wr _ k1)).trans k1; have z2 := (BA2.cell (World.block_lt_of_cell? wr _ p0)).trans p0; obtain ⟨av, ac, rfl, -, -⟩ := own_form o2; have HB2 := Lib.hid BA2; clear o2 b2 BA2) | (go_at_call 52; refine (I1.out _).mono ?_; rintro e w2 ⟨v2, rfl, o2, b2⟩; obtain ⟨y2, BA2, s2⟩ := blkd1 (w := wr) (A := .cells #[.int .i64 0, .slice none 0 0] 78) b2; have A2 := Lib.hid (show Own w2 wr.heap.size _ _ from own_base o2 (by simp)); have z0 := (BA2.cell (World.block_lt_of_cell? wr _ k0)).trans k0; have z1 := (BA2.cell (World.block_lt_of_cell? wr _ k1)).trans k1; have z2 := (BA2.cell (World.block_lt_of_cell? wr _ p0)).trans p0; obtain ⟨av, ac, rfl, -, -⟩ := own_form o2; have NQ := Lib.hid (show (Value.slice av (digL 10 (C : Int) W).length ac).ownBlock ≠ some wr.heap.size from fun e => by have h9 := (own_block_lt o2 _ e).1; simp at h9; omega); have Y2 := Lib.hid y2; have yc0 := cell_blk y2 0; have yc1 := cell_blk y2 1; have yf0 := frozen_blk y2 0; have yf1 := frozen_blk y2 1; have HB2 := Lib.hid BA2; have lt2 : wr.heap.size < w2.heap.size := (by omega); clear o2 b2 y2 BA2))
          all_goals (
          go_wp2_with fail
          go_meet
          case rel =>
            first
              | exact ⟨_, _, rfl, own_alloc A2.out _, heap_last _ _, HB2.out.alloc HB2.out.size _, by have := HB2.out.size; simp; omega⟩
              | exact ⟨_, _, rfl, own_setCell_ne (own_setCell_ne A2.out NQ.out) NQ.out, setCell_blk (setCell0_blk Y2.out _) _, (HB2.out.setCell (Nat.le_refl _) _).setCell (Nat.le_refl _) _, by have := HB2.out.size; simp; omega⟩)
        case rest =>
          obtain ⟨ga, ua, rfl, oa, ya, hba, hsa⟩ := hcut
          generalize wc = wx at *
          have BA := Lib.hid (Below.trans_size HBW.out hba)
          have hl : (digL 10 (C : Int) W).length = W := by simp [digL]
          obtain ⟨ad, cd, rfl, -, qd⟩ := own_form oa
          rw [hl] at *
          have DQ := Lib.hid (show ∀ i, i < W → ∃ gq, ad = some ⟨gq, 0, none⟩ ∧ wx.cell? ⟨gq, i, none⟩ = some (.int .i64 ((C / 10 ^ i % 10 : Nat) : Int)) from fun i hi => by
            obtain ⟨gq, e1, e2⟩ := qd i hi
            rw [show nth (digL 10 (C : Int) W) i = dig 10 (C : Int) i from nth_range_map _ hi, dig_nat] at e2
            exact ⟨gq, e1, e2⟩)
          have YA0 := Lib.hid (cell_blk ya 0); have YA1 := Lib.hid (cell_blk ya 1)
          have lga : ga < wx.heap.size := (Array.getElem?_eq_some_iff.1 ya).1
          have q1 := YA1.out
          have wW : IntKind.i64.wrap ((W : Int) - 1) = (W : Int) - 1 := IntWalk.i64_in _ (by omega)
          clear oa qd k0 k1 p0 ya ne1 ne2 ne3 ne4
          go_wp2_with fail
          clear q1
          go_loopw [3, 7] (fun o ii wz => ∃ (t : Nat) (U : List UInt8), t ≤ W ∧ ii = .int .i64 ((W : Int) - 1 - t) ∧ o = .string ⟨U.toArray⟩ ∧ U.length ≤ 13 * j + 1 + t ∧ Hid (U = T ++ padD t (C / 10 ^ (W - t))) ∧ Below wx.heap.size wx wz) (fun _ ii _ => (intOf ii + 1).toNat)
          case atStart => exact ⟨0, T, Nat.zero_le _, by simp, rfl, by simp; omega, (List.append_nil _).symm, Below.refl _ _⟩
          case round =>
            obtain ⟨t, U, ht, rfl, rfl, hUl, hUU, hbz⟩ := hrel
            have HZ := Lib.hid hbz; have sz := hbz.size
            by_cases htl : t < W
            · have q1 := (hbz.cell (p := ⟨ga, 1, none⟩) lga).trans YA1.out
              obtain ⟨gq, rfl, r1⟩ := DQ.out (W - (t + 1)) (by omega)
              have glq : gq < wx.heap.size := World.block_lt_of_cell? wx _ r1
              have r2 := (hbz.cell (p := ⟨gq, W - (t + 1), none⟩) glq).trans r1
              have HP := Lib.hid (show U ++ [UInt8.ofNat (48 + C / 10 ^ (W - (t + 1)) % 10)] = T ++ padD (t + 1) (C / 10 ^ (W - (t + 1))) from by rw [hUU.out, List.append_assoc, pad_step htl])
              have d10 : C / 10 ^ (W - (t + 1)) % 10 < 10 := Nat.mod_lt _ (by omega)
              generalize C / 10 ^ (W - (t + 1)) % 10 = D at *
              have j0 : (0 : Int) ≤ (W : Int) - 1 - (t : Int) := by omega
              have j1 : (W : Int) - 1 - (t : Int) < (W : Int) := by omega
              have j2 : ((W : Int) - 1 - (t : Int)).toNat = W - (t + 1) := by omega
              have lg2 : True := trivial
              clear r1 hbz hUU
              go_wp2_with fail
              refine (spec_l01Dec (D : Int) _ (by omega) (by omega)).mono ?_; rintro e w5 ⟨rfl, b5⟩; rw [itoa_dig d10]
              have B5 := Lib.hid (Below.trans_size HZ.out b5)
              have lU : ¬ (9223372036854775807 < U.length + 1) := by omega
              clear b5 q1 r2
              go_wp2_with fail
              go_roundw
              case rel => exact ⟨t + 1, _, by omega, by go_num, by first | (rw [str_appE]; done) | (rw [str_appE, UInt8.ofNat_add]; rfl), by simp; omega, HP.out, B5.out⟩
              case measure => first | (simp [intOf]; done) | (simp [intOf]; omega)
            · obtain rfl : t = W := by omega
              have HP := Lib.hid (show U = etF t xs (j + 1) from by rw [hUU.out, HN0.out, Nat.sub_self, Nat.pow_zero, Nat.div_one])
              have BF := Lib.hid (Below.trans_size BA.out HZ.out); have sf := BF.out.size
              have j3 : ¬ (0 : Int) ≤ (t : Int) - 1 - (t : Int) := by omega
              clear hbz hUU
              go_wp2_with fail
              go_roundw
              case rel => exact ⟨j + 1, U, by go_num, by omega, rfl, by omega, HP.out, BF.out, sf⟩
              case measure => first | (simp [intOf]; done) | (simp [intOf]; omega)
      · have HN0 := Lib.hid (show etF W xs (j + 1) = (T ++ [32]) ++ padD W C from by rw [HN.out, if_neg h0])
        have z0 : ¬ (j : Int) ≤ 0 := by omega
        have z1 : (0 : Int) < (j : Int) := by omega
        have lT : ¬ (9223372036854775807 < T.length + 1) := by omega
        clear h0 HN
        go_upto_region 7 with fail
        go_cut [5, 6] from 8 to 51 (fun pa _ wx => ∃ (ga : Nat) (ua : Value), pa = .pointer (some ⟨ga, 0, none⟩) ∧ Own wx wr.heap.size ua (digL 10 (C : Int) W) ∧ wx.heap[ga]? = some (.cells #[.int .i64 10, ua] 78) ∧ Below wr.heap.size wr wx ∧ wr.heap.size ≤ wx.heap.size)
        case first =>
          go_region_held3 (fun w' => w'.cell? ⟨g0, 0, none⟩ = some (.int .i64 (W : Int)) ∧ w'.cell? ⟨g0, 1, none⟩ = some (.slice (some ⟨g, 0, none⟩) xs.length cp1) ∧ w'.cell? ⟨g, j, none⟩ = some (.int .i64 (C : Int))) (first | go_keep | (refine ⟨?_, ?_, ?_⟩ <;> assumption)) (first | (go_at_call 52; refine (I1.out _).mono ?_; rintro e w2 ⟨v2, rfl, o2, b2⟩; have BA2 := Below.trans_size (Below.refl wr.heap.size wr).drew b2; have s2 := b2.size; have A2 := Lib.hid (show Own w2 wr.heap.size _ _ from o2); have z0 := (BA2.cell (World.block_lt_of_cell? wr _ k0)).trans k0; have z1 := (BA2.cell (World.block_lt_of_cell? wr _ k1)).trans k1; have z2 := (BA2.cell (World.block_lt_of_cell? wr _ p0)).trans p0; obtain ⟨av, ac, rfl, -, -⟩ := own_form o2; have HB2 := Lib.hid BA2; clear o2 b2 BA2) | (go_at_call 52; refine (I1.out _).mono ?_; rintro e w2 ⟨v2, rfl, o2, b2⟩; obtain ⟨y2, BA2, s2⟩ := blkd1 (w := wr) (A := .cells #[.int .i64 0, .slice none 0 0] 78) b2; have A2 := Lib.hid (show Own w2 wr.heap.size _ _ from own_base o2 (by simp)); have z0 := (BA2.cell (World.block_lt_of_cell? wr _ k0)).trans k0; have z1 := (BA2.cell (World.block_lt_of_cell? wr _ k1)).trans k1; have z2 := (BA2.cell (World.block_lt_of_cell? wr _ p0)).trans p0; obtain ⟨av, ac, rfl, -, -⟩ := own_form o2; have NQ := Lib.hid (show (Value.slice av (digL 10 (C : Int) W).length ac).ownBlock ≠ some wr.heap.size from fun e => by have h9 := (own_block_lt o2 _ e).1; simp at h9; omega); have Y2 := Lib.hid y2; have yc0 := cell_blk y2 0; have yc1 := cell_blk y2 1; have yf0 := frozen_blk y2 0; have yf1 := frozen_blk y2 1; have HB2 := Lib.hid BA2; have lt2 : wr.heap.size < w2.heap.size := (by omega); clear o2 b2 y2 BA2))
          all_goals (
          go_wp2_with fail
          go_meet
          case rel =>
            first
              | exact ⟨_, _, rfl, own_alloc A2.out _, heap_last _ _, HB2.out.alloc HB2.out.size _, by have := HB2.out.size; simp; omega⟩
              | exact ⟨_, _, rfl, own_setCell_ne (own_setCell_ne A2.out NQ.out) NQ.out, setCell_blk (setCell0_blk Y2.out _) _, (HB2.out.setCell (Nat.le_refl _) _).setCell (Nat.le_refl _) _, by have := HB2.out.size; simp; omega⟩)
        case rest =>
          obtain ⟨ga, ua, rfl, oa, ya, hba, hsa⟩ := hcut
          generalize wc = wx at *
          have BA := Lib.hid (Below.trans_size HBW.out hba)
          have hl : (digL 10 (C : Int) W).length = W := by simp [digL]
          obtain ⟨ad, cd, rfl, -, qd⟩ := own_form oa
          rw [hl] at *
          have DQ := Lib.hid (show ∀ i, i < W → ∃ gq, ad = some ⟨gq, 0, none⟩ ∧ wx.cell? ⟨gq, i, none⟩ = some (.int .i64 ((C / 10 ^ i % 10 : Nat) : Int)) from fun i hi => by
            obtain ⟨gq, e1, e2⟩ := qd i hi
            rw [show nth (digL 10 (C : Int) W) i = dig 10 (C : Int) i from nth_range_map _ hi, dig_nat] at e2
            exact ⟨gq, e1, e2⟩)
          have YA0 := Lib.hid (cell_blk ya 0); have YA1 := Lib.hid (cell_blk ya 1)
          have lga : ga < wx.heap.size := (Array.getElem?_eq_some_iff.1 ya).1
          have q1 := YA1.out
          have wW : IntKind.i64.wrap ((W : Int) - 1) = (W : Int) - 1 := IntWalk.i64_in _ (by omega)
          clear oa qd k0 k1 p0 ya ne1 ne2 ne3 ne4
          go_wp2_with fail
          clear q1
          go_loopw [3, 7] (fun o ii wz => ∃ (t : Nat) (U : List UInt8), t ≤ W ∧ ii = .int .i64 ((W : Int) - 1 - t) ∧ o = .string ⟨U.toArray⟩ ∧ U.length ≤ 13 * j + 1 + t ∧ Hid (U = (T ++ [32]) ++ padD t (C / 10 ^ (W - t))) ∧ Below wx.heap.size wx wz) (fun _ ii _ => (intOf ii + 1).toNat)
          case atStart => exact ⟨0, (T ++ [32]), Nat.zero_le _, by simp, rfl, by simp; omega, (List.append_nil _).symm, Below.refl _ _⟩
          case round =>
            obtain ⟨t, U, ht, rfl, rfl, hUl, hUU, hbz⟩ := hrel
            have HZ := Lib.hid hbz; have sz := hbz.size
            by_cases htl : t < W
            · have q1 := (hbz.cell (p := ⟨ga, 1, none⟩) lga).trans YA1.out
              obtain ⟨gq, rfl, r1⟩ := DQ.out (W - (t + 1)) (by omega)
              have glq : gq < wx.heap.size := World.block_lt_of_cell? wx _ r1
              have r2 := (hbz.cell (p := ⟨gq, W - (t + 1), none⟩) glq).trans r1
              have HP := Lib.hid (show U ++ [UInt8.ofNat (48 + C / 10 ^ (W - (t + 1)) % 10)] = (T ++ [32]) ++ padD (t + 1) (C / 10 ^ (W - (t + 1))) from by rw [hUU.out, List.append_assoc, pad_step htl])
              have d10 : C / 10 ^ (W - (t + 1)) % 10 < 10 := Nat.mod_lt _ (by omega)
              generalize C / 10 ^ (W - (t + 1)) % 10 = D at *
              have j0 : (0 : Int) ≤ (W : Int) - 1 - (t : Int) := by omega
              have j1 : (W : Int) - 1 - (t : Int) < (W : Int) := by omega
              have j2 : ((W : Int) - 1 - (t : Int)).toNat = W - (t + 1) := by omega
              have lg2 : True := trivial
              clear r1 hbz hUU
              go_wp2_with fail
              refine (spec_l01Dec (D : Int) _ (by omega) (by omega)).mono ?_; rintro e w5 ⟨rfl, b5⟩; rw [itoa_dig d10]
              have B5 := Lib.hid (Below.trans_size HZ.out b5)
              have lU : ¬ (9223372036854775807 < U.length + 1) := by omega
              clear b5 q1 r2
              go_wp2_with fail
              go_roundw
              case rel => exact ⟨t + 1, _, by omega, by go_num, by first | (rw [str_appE]; done) | (rw [str_appE, UInt8.ofNat_add]; rfl), by simp; omega, HP.out, B5.out⟩
              case measure => first | (simp [intOf]; done) | (simp [intOf]; omega)
            · obtain rfl : t = W := by omega
              have HP := Lib.hid (show U = etF t xs (j + 1) from by rw [hUU.out, HN0.out, Nat.sub_self, Nat.pow_zero, Nat.div_one])
              have BF := Lib.hid (Below.trans_size BA.out HZ.out); have sf := BF.out.size
              have j3 : ¬ (0 : Int) ≤ (t : Int) - 1 - (t : Int) := by omega
              clear hbz hUU
              go_wp2_with fail
              go_roundw
              case rel => exact ⟨j + 1, U, by go_num, by omega, rfl, by omega, HP.out, BF.out, sf⟩
              case measure => first | (simp [intOf]; done) | (simp [intOf]; omega)
    · obtain rfl : j = xs.length := by omega
      go_wp2_with fail
      go_ret
      exact ⟨str_eq hTT.out, HBW.out⟩
theorem spec_EngineText {B : Nat} {v : Value} {xs : List Int} (wd : Int) (w : World) (h : Own w B v xs) (hlen : xs.length ≤ 1048576) :
    Calls Tryd.prog 19 #[.agg #[.int .i64 wd, v]] w (RetV w (.string ⟨(etR wd xs).toArray⟩)) := by
  have HO := Lib.hid h
  obtain ⟨a1, cp1, rfl, m1, q1⟩ := own_form h
  clear q1 h
  cases hv : validE wd xs
  · have HR := Lib.hid (show etR wd xs = [] from by simp [etR, hv])
    have HV := Lib.hid hv; clear hv
    go_enter Tryd.func19, Tryd.ntmps19
    go_wp2_with fail
    refine (spec_l16Ok wd _ _ (own_alloc HO.out _) (cell_blk (heap_last _ _) 0) (cell_blk (heap_last _ _) 1) hlen).mono ?_; rintro e w1 ⟨rfl, b1⟩; rw [HV.out]
    have BW := Lib.hid (blk1 b1).2.1; clear b1
    go_wp2_with fail
    go_ret
    exact ⟨str_eq HR.out.symm, BW.out⟩
  obtain ⟨d1, d2, d3, d4, -⟩ := validE_parts hv
  obtain ⟨W, rfl⟩ := Int.eq_ofNat_of_zero_le (show 0 ≤ wd by omega)
  have HR := Lib.hid (show etR (W : Int) xs = etF W xs xs.length from by simp [etR, hv])
  have HC := Lib.hid (fun k (hk : k < xs.length) => validE_col hv hk)
  have HV := Lib.hid hv; clear hv
  go_enter Tryd.func19, Tryd.ntmps19
  go_wp2_with fail
  refine (spec_l16Ok (W : Int) _ _ (own_alloc HO.out _) (cell_blk (heap_last _ _) 0) (cell_blk (heap_last _ _) 1) hlen).mono ?_; rintro e w1 ⟨rfl, b1⟩; rw [HV.out]
  obtain ⟨y1, bw, s1, -⟩ := blk1 b1
  have O1 := Lib.hid (own_keep b1 (own_alloc HO.out _)); have Y1 := Lib.hid y1; have BW := Lib.hid bw
  clear b1 bw y1
  go_wp2_with fail
  refine (spec_l16Text W _ _ O1.out (cell_blk Y1.out 0) (cell_blk Y1.out 1) (by omega) (by omega) (by omega) HC.out).mono ?_; rintro e w2 ⟨rfl, b2⟩
  have B2 := Lib.hid (Below.trans_size BW.out b2); clear b2
  go_wp2_with fail
  go_ret
  exact ⟨str_eq HR.out.symm, B2.out⟩
end Go.Proofs.YtkhjmokjbiepgaaDoor
