/- flatCount of the program: the number of strokes of a balanced range. -/
import Derived.IntWalk
import Derived.Deep.RegionHeld3
import Derived.Test.YtaipfcbphfjgoaaFlt
namespace Go.Proofs.Ytaipfcbphfjgoaa
open Go.ChangeShapes Go.WideShapes Go.ChangeAt Go.RowKit
theorem ok_parts {zs : List Int} {n j : Nat} (hn : zs.length = n * 2) (hv : validP zs = true) (hs : noSB zs n) (hj : j < n) (h10 : opA zs j ≠ 10) :
    (opA zs j = 8 ∧ 1 ≤ argA zs j ∧ argA zs j ≤ 100) ∨ ((opA zs j = 6 ∨ opA zs j = 7) ∧ argA zs j = 0) ∨ (2 ≤ opA zs j ∧ opA zs j ≤ 5 ∧ 1 ≤ argA zs j ∧ argA zs j ≤ 100) := by
  obtain ⟨v1, v2, v3, v4⟩ := valid_parts hn hv
  have ok := (v4 j hj).1
  obtain ⟨n1, n9⟩ := hs j hj
  change okI (opA zs j) (argA zs j) = true at ok
  generalize opA zs j = op at *
  generalize argA zs j = ar at *
  unfold okI at ok
  rw [Bool.and_eq_true] at ok
  have a := inB_iff.1 ok.1
  have b := ok.2
  unfold argB at b
  rw [if_neg n1] at b
  split at b
  · rename_i h
    have c := inB_iff.1 b
    rcases h with h | h | h | h | h <;> omega
  · rename_i h
    have c : ar = 0 := by simpa using b
    have : op = 6 ∨ op = 7 := by omega
    exact .inr (.inl ⟨this, c⟩)
theorem rep_one (k : Int) (x : Int) : (rep k [x]).length = k.toNat := by rw [rep_len]; simp
theorem total_bd {zs : List Int} {n a e : Nat} {d : Int} (hn : zs.length = n * 2) (hv : validP zs = true) (hs : noSB zs n) (hb : Bal zs n a e d) (h0 : 0 ≤ d) (h4 : d ≤ 4) : (flatR zs a e).length ≤ 1200000000000 := by
  have h := flat_len hn hv hs _ a e d (Nat.le_refl _) hb h0 h4
  have hn2 := (valid_parts hn hv).2.2.1
  have h5 : 100 ^ (5 - d.toNat) ≤ 100 ^ 5 := Nat.pow_le_pow_right (by omega) (by omega)
  have h6 := Nat.mul_le_mul (show e - a ≤ 120 by have := hb.2.1; omega) h5
  have h7 : 120 * 100 ^ 5 = 1200000000000 := by decide
  omega
set_option maxHeartbeats 8000000 in
theorem impl_flatCount {n : Nat} {zs : List Int} (hv : validP zs = true) (hsb : noSB zs n) : ∀ (s a e : Nat) (d : Int) {B : Nat} {u : Value} (w : World), e - a ≤ s → OwnR w B u n zs → Bal zs n a e d → 0 ≤ d → d ≤ 4 →
    Calls Try.prog 50 #[u, .int .i64 a, .int .i64 e] w (RetV w (.int .i64 ((flatR zs a e).length : Int))) := by
  intro s
  induction s with
  | zero =>
    intro a e d B u w h0 ho hb hd0 hd4
    have hz := recr_len ho
    obtain rfl : a = e := by have := hb.1; omega
    rw [flatR_end]
    have hen := hb.2.1
    have h120 := (valid_parts hz hv).2.2.1
    obtain ⟨a1, c1, rfl, m1, q1⟩ := recr_form ho
    clear q1 ho hb
    go_enter Try.func50, Try.ntmps50
    go_wp2_with fail
    go_loop [7, 8] (fun nn ii => nn = .int .i64 0 ∧ ii = .int .i64 a) (fun _ ii => 1)
    case atStart => exact ⟨rfl, rfl⟩
    case round =>
      obtain ⟨rfl, rfl⟩ := hrel
      go_wp2_with fail
      go_ret
      exact ⟨rfl, Below.refl _ _⟩
  | succ s ih =>
    intro a e d B u w h0 ho hb hd0 hd4
    have hz := recr_len ho
    have IH := Lib.hid @ih
    have HV := Lib.hid hv; have HSB := Lib.hid hsb
    have hen := hb.2.1
    have hae := hb.1
    obtain ⟨v1, v2, v3, v4⟩ := valid_parts hz hv
    have V1 := Lib.hid v1
    have tb := total_bd hz hv hsb hb hd0 hd4
    have HB0 := Lib.hid hb
    have HO := Lib.hid ho
    obtain ⟨a1, c1, rfl, m1, q1⟩ := recr_form ho
    have Q1 := Lib.hid q1
    clear q1 ho ih v1 v2 v4 hv hsb hb
    generalize hT : (flatR zs a e).length = T at *
    have HT := Lib.hid hT; clear hT
    go_enter Try.func50, Try.ntmps50
    go_wp2_with fail
    go_loopw [7, 8, 9, 10] (fun nn ii _ _ wr => ∃ (j X : Nat), a ≤ j ∧ j ≤ e ∧ ii = .int .i64 j ∧ nn = .int .i64 X ∧ Hid (X + (flatR zs j e).length = T) ∧ Hid (Bal zs n j e d) ∧ Below w.heap.size w wr ∧ w.heap.size ≤ wr.heap.size) (fun _ ii _ _ _ => e - (intOf ii).toNat)
    case atStart => exact ⟨a, 0, Nat.le_refl _, hae, rfl, rfl, Lib.hid (by rw [Nat.zero_add]; exact HT.out), HB0, Below.refl _ _, Nat.le_refl _⟩
    case round =>
      obtain ⟨j, X, haj, hje, rfl, rfl, hX, hbal, hbw, hs⟩ := hrel
      have HBW := Lib.hid hbw
      by_cases hlt : j < e
      · obtain ⟨g, rfl, x0, x1⟩ := Q1.out j (by omega)
        have gl : g < w.heap.size := World.block_lt_of_cell? w _ x0
        have r0 := (hbw.cell gl).trans x0
        have r1 := (hbw.cell (World.block_lt_of_cell? w _ x1)).trans x1
        have gl2 : g < wr.heap.size := by omega
        have OW := Lib.hid (recr_keep hbw HO.out)
        clear x0 x1 hbw
        by_cases h8 : opA zs j = 8
        · have fl := flatR_loop hz HV.out HSB.out hbal.out hlt h8
          obtain ⟨bm1, bm2, bm3, bm4⟩ := bal_loop hz HV.out hbal.out hlt h8
          have okp := ok_parts hz HV.out HSB.out (show j < n by omega) (by rw [h8]; decide)
          have hd5 : d + 1 ≤ 4 := by
            have := (V1.out (j + 1) (by omega)).2.2
            have := bm3.2.2.1
            omega
          have HOPN := Lib.hid (show opensB (nth zs (j * 2)) = true from by show (opA zs j == 8 || opA zs j == 9) = true; rw [h8]; rfl)
          have hX' := hX.out
          rw [fl, List.length_append, rep_len] at hX'
          have hr : 1 ≤ argA zs j ∧ argA zs j ≤ 100 := by rcases okp with h | h | h <;> omega
          obtain ⟨A, hA⟩ := Int.eq_ofNat_of_zero_le (show 0 ≤ argA zs j by omega)
          have r1' : wr.cell? ⟨g, j * 2 + 1, none⟩ = some (.int .i64 (A : Int)) := by rw [← hA]; exact r1
          have r0' : wr.cell? ⟨g, j * 2, none⟩ = some (.int .i64 8) := by rw [← h8]; exact r0
          rw [hA, Int.toNat_natCast] at hX'
          have MM := Lib.hid (fun wx (h : OwnR wx B (.slice (some ⟨g, 0, none⟩) n c1) n zs) => impl_matchOf j wx h HV.out (show j < n by omega) HOPN.out)
          have FF := Lib.hid (fun wx (h : OwnR wx B (.slice (some ⟨g, 0, none⟩) n c1) n zs) => IH.out (j + 1) (mtch zs j) (d + 1) wx (by omega) h bm3 (by omega) hd5)
          have HBM := Lib.hid bm4
          generalize (flatR zs (j + 1) (mtch zs j)).length = C at *
          generalize hY : (flatR zs (mtch zs j + 1) e).length = Y at *
          have HY := Lib.hid hY; clear hY
          generalize mtch zs j = m at *
          obtain ⟨P, hP⟩ : ∃ P : Nat, A * C = P := ⟨_, rfl⟩
          have eP : (A : Int) * (C : Int) = (P : Int) := by rw [← hP]; simp
          rw [hP] at hX'
          have hA100 : (A : Int) ≤ 100 := by omega
          have HXN := Lib.hid (show X + P + (flatR zs (m + 1) e).length = T from by rw [HY.out]; omega)
          have hbd : X + P ≤ 1200000000000 := by omega
          have wP : IntKind.i64.wrap (P : Int) = (P : Int) := IntWalk.i64_in _ (by omega)
          have wS : IntKind.i64.wrap ((X : Int) + (P : Int)) = (X : Int) + (P : Int) := IntWalk.i64_in _ (by omega)
          have wj : IntKind.i64.wrap ((j : Int) + 1) = (j : Int) + 1 := IntWalk.i64_in _ (by omega)
          clear r0 r1 hX hbal fl bm3 bm4 okp h8 hA hP hX' hr
          go_wp2_with fail
          refine (MM.out _ (recr_alloc OW.out _)).mono ?_; rintro e9 w1 ⟨rfl, b1⟩
          obtain ⟨y0, bw1, s1, -⟩ := blk1 b1
          have c0 := cell_blk y0 0; have c1' := cell_blk y0 1
          have lt1 : wr.heap.size < w1.heap.size := by omega
          have BX := Lib.hid (Below.trans_size HBW.out bw1)
          have O1 := Lib.hid (recr_keep b1 (recr_alloc OW.out _))
          clear b1 bw1 y0
          go_wp2_with fail
          go_region_held3 (fun w' => w'.cell? ⟨wr.heap.size, 1, none⟩ = some (.int .i64 (A : Int))) (first | go_keep | assumption) (first | (go_at_call 50; refine (FF.out _ (recr_drew O1.out)).mono ?_; rintro e9 w2 ⟨rfl, b2⟩; have z1 := (b2.cell (World.block_lt_of_cell? w1 _ c1')).trans c1'; have B2 := Lib.hid (Below.trans_size BX.out.drew b2); have s2 := B2.out.size; clear b2))
          all_goals (
          clear wP wS wj eP
          go_wp2_with fail
          go_roundw
          case rel => exact ⟨m + 1, X + P, by omega, by omega, by go_num, by first | rfl | go_num, HXN.out, HBM.out, B2.out, s2⟩
          case measure => first | (simp [intOf]; done) | (simp [intOf]; omega))
        · obtain ⟨h10, pb⟩ := bal_plain hz HV.out HSB.out hbal.out hlt h8
          have fl := flatR_plain hz HV.out HSB.out hbal.out hlt h8
          have okp := ok_parts hz HV.out HSB.out (show j < n by omega) h10
          have hX' := hX.out
          rw [fl, List.length_append, rep_one] at hX'
          have PB := Lib.hid pb
          rcases okp with h | h | h
          · exact absurd h.1 h8
          · have r1' : wr.cell? ⟨g, j * 2 + 1, none⟩ = some (.int .i64 0) := by rw [← h.2]; exact r1
            rw [h.2, show (imax 1 0).toNat = 1 from rfl] at hX'
            have HXN := Lib.hid (show X + 1 + (flatR zs (j + 1) e).length = T from by omega)
            have hbd : X + 1 ≤ 1200000000000 := by omega
            rcases h.1 with h6 | h7
            · have r0' : wr.cell? ⟨g, j * 2, none⟩ = some (.int .i64 6) := by rw [← h6]; exact r0
              clear r0 r1 hX hbal fl pb h hX' h8 h10 h6
              go_wp2_with fail
              go_roundw
              case rel => exact ⟨j + 1, X + 1, by omega, by omega, by go_num, by first | rfl | go_num, HXN.out, PB.out, HBW.out.alloc hs _, by simp; omega⟩
              case measure => first | (simp [intOf]; done) | (simp [intOf]; omega)
            · have r0' : wr.cell? ⟨g, j * 2, none⟩ = some (.int .i64 7) := by rw [← h7]; exact r0
              clear r0 r1 hX hbal fl pb h hX' h8 h10 h7
              go_wp2_with fail
              go_roundw
              case rel => exact ⟨j + 1, X + 1, by omega, by omega, by go_num, by first | rfl | go_num, HXN.out, PB.out, HBW.out.alloc hs _, by simp; omega⟩
              case measure => first | (simp [intOf]; done) | (simp [intOf]; omega)
          · obtain ⟨o2, o5, g1, g100⟩ := h
            obtain ⟨A, hA⟩ := Int.eq_ofNat_of_zero_le (show 0 ≤ argA zs j by omega)
            have r1' : wr.cell? ⟨g, j * 2 + 1, none⟩ = some (.int .i64 (A : Int)) := by rw [← hA]; exact r1
            obtain ⟨op, hop⟩ : ∃ op, op = opA zs j := ⟨_, rfl⟩
            have r0' : wr.cell? ⟨g, j * 2, none⟩ = some (.int .i64 op) := by rw [hop]; exact r0
            rw [← hop] at o2 o5
            have hi : imax 1 (argA zs j) = argA zs j := imax_pos g1
            rw [hi, hA, Int.toNat_natCast] at hX'
            have HXN := Lib.hid (show X + A + (flatR zs (j + 1) e).length = T from by omega)
            have hbd : X + A ≤ 1200000000000 := by omega
            have n8 : ¬ op = 8 := by omega
            have n6 : ¬ op = 6 := by omega
            have n7 : ¬ op = 7 := by omega
            clear r0 r1 hX hbal fl pb hX' h8 h10 hop hA hi g1 g100
            go_wp2_with fail
            go_roundw
            case rel => exact ⟨j + 1, X + A, by omega, by omega, by go_num, by first | rfl | go_num, HXN.out, PB.out, HBW.out.alloc hs _, by simp; omega⟩
            case measure => first | (simp [intOf]; done) | (simp [intOf]; omega)
      · obtain rfl : j = e := by omega
        have HR := Lib.hid (show X = T from by have := hX.out; rw [flatR_end] at this; simpa using this)
        clear hbw hX hbal
        go_wp2_with fail
        go_ret
        exact ⟨ret_int (by rw [HR.out]), HBW.out⟩
end Go.Proofs.Ytaipfcbphfjgoaa
