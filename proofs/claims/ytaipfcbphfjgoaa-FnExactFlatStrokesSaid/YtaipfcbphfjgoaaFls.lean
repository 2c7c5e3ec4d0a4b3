/- l11Flat of the reference: the strokes of a balanced range, up to 3000 of them. -/
import Derived.IntWalk
import Derived.Deep.RegionHeld3
import Derived.Test.YtaipfcbphfjgoaaFlb
namespace Go.Proofs.Ytaipfcbphfjgoaa
open Go.ChangeShapes Go.WideShapes Go.ChangeAt Go.RowKit
/-- the strokes and true, if there are at most 3000; else nothing and false -/
def RetFlat (w : World) (X : List Int) (e : Ending) (w' : World) : Prop :=
  (X.length ≤ 3000 ∧ ∃ v, e = .returned (.tuple #[v, .bool true]) ∧ Own w' w.heap.size v X ∧ Below w.heap.size w w') ∨
  (3000 < X.length ∧ e = .returned (.tuple #[.slice none 0 0, .bool false]) ∧ Below w.heap.size w w')
theorem own_lit1 (w : World) (x : Int) : Own (w.alloc (.cells #[.int .i64 x] 2)) w.heap.size (.slice (some ⟨w.heap.size, 0, none⟩) 1 1) [x] := by
  have h := World.ownsRow_lit (base := w.heap.size) (e := 2) (size := 1) w #[Value.int .i64 x] 1 (Nat.le_refl _) (by unfold maxLen; omega) (by simp)
  unfold Own
  simpa using h
set_option maxHeartbeats 8000000 in
theorem spec_l11Flat {n : Nat} {zs : List Int} (hv : validP zs = true) (hsb : noSB zs n) : ∀ (s a e : Nat) (d : Int) {B : Nat} {u : Value} (w : World), e - a ≤ s → OwnR w B u n zs → Bal zs n a e d → 0 ≤ d → d ≤ 4 →
    Calls Try.prog 49 #[u, .int .i64 a, .int .i64 e] w (RetFlat w (flatR zs a e)) := by
  intro s
  induction s with
  | zero =>
    intro a e d B u w h0 ho hb hd0 hd4
    have hz := recr_len ho
    obtain rfl : a = e := by have := hb.1; omega
    rw [flatR_end]
    have hen := hb.2.1
    have h120 := (valid_parts hz hv).2.2.1
    obtain ⟨a1, c1, rfl, m1, q1⟩ := recr_form ho
    clear q1 ho hb
    go_enter Try.func49, Try.ntmps49
    go_wp2_with fail
    go_loop [8, 9] (fun nn ii => nn = .slice (some ⟨w.heap.size, 0, none⟩) 0 0 ∧ ii = .int .i64 a) (fun _ ii => 1)
    case atStart => exact ⟨rfl, rfl⟩
    case round =>
      obtain ⟨rfl, rfl⟩ := hrel
      go_wp2_with fail
      refine bodyPost_ret (v := .tuple #[.slice (some ⟨w.heap.size, 0, none⟩) 0 0, .bool true]) (by simp [results, Try.results49, go_sem, *]) rfl ?_
      exact .inl ⟨by simp, _, rfl, own_empty _ _ (Nat.le_refl _), (Below.refl _ _).alloc (Nat.le_refl _) _⟩
  | succ s ih =>
    intro a e d B u w h0 ho hb hd0 hd4
    have hz := recr_len ho
    have IH := Lib.hid @ih
    have HV := Lib.hid hv; have HSB := Lib.hid hsb
    have hen := hb.2.1
    have hae := hb.1
    obtain ⟨v1, v2, v3, v4⟩ := valid_parts hz hv
    have V1 := Lib.hid v1
    have HB0 := Lib.hid hb
    have HO := Lib.hid ho
    obtain ⟨a1, c1, rfl, m1, q1⟩ := recr_form ho
    have Q1 := Lib.hid q1
    clear q1 ho ih v1 v2 v4 hv hsb hb
    generalize hT : flatR zs a e = T at *
    have HT := Lib.hid hT; clear hT
    go_enter Try.func49, Try.ntmps49
    go_wp2_with fail
    go_loopw [8, 9, 10, 11, 12, 13, 14, 15] (fun vv ii _ _ _ _ _ _ wr => ∃ (j : Nat) (l : List Int) (v : Value), vv = v ∧ a ≤ j ∧ j ≤ e ∧ ii = .int .i64 j ∧ Own wr w.heap.size v l ∧ l.length ≤ 3000 ∧ Hid (l ++ flatR zs j e = T) ∧ Hid (Bal zs n j e d) ∧ Below w.heap.size w wr ∧ w.heap.size ≤ wr.heap.size) (fun _ ii _ _ _ _ _ _ _ => e - (intOf ii).toNat)
    case atStart => exact ⟨a, [], _, rfl, Nat.le_refl _, hae, rfl, own_empty _ _ (Nat.le_refl _), by simp, Lib.hid (by rw [List.nil_append]; exact HT.out), HB0, (Below.refl _ _).alloc (Nat.le_refl _) _, by simp⟩
    case round =>
      obtain ⟨j, l, v, rfl, haj, hje, rfl, ho, hl3, hX, hbal, hbw, hs⟩ := hrel
      have HBW := Lib.hid hbw
      have HOL := Lib.hid ho
      obtain ⟨ao, capo, rfl, -, -⟩ := own_form ho
      clear ho
      generalize hL : l.length = L at *
      by_cases hlt : j < e
      · obtain ⟨g, rfl, x0, x1⟩ := Q1.out j (by omega)
        have gl : g < w.heap.size := World.block_lt_of_cell? w _ x0
        have r0 := (hbw.cell gl).trans x0
        have r1 := (hbw.cell (World.block_lt_of_cell? w _ x1)).trans x1
        have gl2 : g < wr.heap.size := by omega
        have OW := Lib.hid (recr_keep hbw HO.out)
        clear x0 x1 hbw
        by_cases h8 : opA zs j = 8
        · have fl := flatR_loop hz HV.out HSB.out hbal.out hlt h8
          obtain ⟨bm1, bm2, bm3, bm4⟩ := bal_loop hz HV.out hbal.out hlt h8
          have okp := ok_parts hz HV.out HSB.out (show j < n by omega) (by rw [h8]; decide)
          have hd5 : d + 1 ≤ 4 := by
            have := (V1.out (j + 1) (by omega)).2.2
            have := bm3.2.2.1
            omega
          have HOPN := Lib.hid (show opensB (nth zs (j * 2)) = true from by show (opA zs j == 8 || opA zs j == 9) = true; rw [h8]; rfl)
          have hX' := hX.out
          rw [fl] at hX'
          have hr : 1 ≤ argA zs j ∧ argA zs j ≤ 100 := by rcases okp with h | h | h <;> omega
          obtain ⟨A, hA⟩ := Int.eq_ofNat_of_zero_le (show 0 ≤ argA zs j by omega)
          have r1' : wr.cell? ⟨g, j * 2 + 1, none⟩ = some (.int .i64 (A : Int)) := by rw [← hA]; exact r1
          have r0' : wr.cell? ⟨g, j * 2, none⟩ = some (.int .i64 8) := by rw [← h8]; exact r0
          rw [hA] at hX'
          have hmx : imax 1 (A : Int) = (A : Int) := imax_pos (by omega)
          have MM := Lib.hid (fun wx (h : OwnR wx B (.slice (some ⟨g, 0, none⟩) n c1) n zs) => spec_l11Match j wx h HV.out (show j < n by omega) HOPN.out)
          have FF := Lib.hid (fun wx (h : OwnR wx B (.slice (some ⟨g, 0, none⟩) n c1) n zs) => IH.out (j + 1) (mtch zs j) (d + 1) wx (by omega) h bm3 (by omega) hd5)
          have HBM := Lib.hid bm4
          generalize flatR zs (j + 1) (mtch zs j) = xs at *
          generalize hY : flatR zs (mtch zs j + 1) e = Y at *
          have HY := Lib.hid hY; clear hY
          generalize mtch zs j = m at *
          have hA100 : A ≤ 100 := by omega
          have hA1 : 1 ≤ A := by omega
          have HMX := Lib.hid hmx
          have hlX := congrArg List.length hX'
          rw [List.length_append, List.length_append, rep_len, Int.toNat_natCast, hL] at hlX
          have HLX := Lib.hid hlX
          have HX2 := Lib.hid hX'
          have wj : IntKind.i64.wrap ((j : Int) + 1) = (j : Int) + 1 := IntWalk.i64_in _ (by omega)
          have w8 : IntKind.i64.wrap ((8 : Int) - 1) = 7 := rfl
          clear r0 r1 hX hbal fl bm3 bm4 okp h8 hA hX' hr hlX hmx
          go_wp2_with fail
          refine (spec_l00Max _ _ _).mono ?_; rintro e9 w1 ⟨rfl, rfl⟩
          rw [HMX.out]
          go_wp2_with fail
          refine (MM.out _ (recr_alloc OW.out _)).mono ?_; rintro e9 w1 ⟨rfl, rfl⟩
          go_wp2_with fail
          refine (FF.out _ (recr_alloc OW.out _)).mono ?_
          rintro e9 w2 (⟨hin, u2, rfl, ho2, b2⟩ | ⟨hin, rfl, b2⟩)
          rotate_left
          · have hbig : 3000 < T.length := by
              have h1 := HLX.out
              have := Nat.mul_le_mul_right xs.length hA1
              omega
            have BF := Lib.hid (Below.trans_size (HBW.out.alloc hs _) b2)
            clear b2
            go_wp2_with fail
            refine bodyPost_ret (v := .tuple #[.slice none 0 0, .bool false]) (by simp [results, Try.results49, go_sem, *]) rfl ?_
            exact .inr ⟨hbig, rfl, BF.out⟩
          have B2 := Lib.hid (Below.trans_size (HBW.out.alloc hs _) b2)
          have s2 := B2.out.size
          have L2 := Lib.hid (own_keep b2 (own_alloc HOL.out _))
          have AP := Lib.hid (apart_new (own_alloc HOL.out (.cells #[.int .i64 7] 2)) ho2 (Nat.le_refl _))
          have O2 := Lib.hid ho2
          obtain ⟨a2, cap2, rfl, -, -⟩ := own_form ho2
          clear b2 ho2
          generalize hxl : xs.length = XL at *
          go_wp2_with fail
          go_loopw [8, 15] (fun vv kk wi => ∃ (k : Nat) (l' : List Int) (v' : Value), vv = v' ∧ k ≤ A ∧ kk = .int .i64 k ∧ Hid (Own wi w.heap.size v' l') ∧ l'.length ≤ 3000 ∧ Hid (l' = l ++ rep k xs) ∧ Hid (Own wi (wr.heap.size + 1) (.slice a2 XL cap2) xs) ∧ Hid (Apart (.slice a2 XL cap2) v') ∧ Hid (Below w.heap.size w wi) ∧ w.heap.size ≤ wi.heap.size) (fun _ kk _ => A - (intOf kk).toNat)
          case atStart => exact ⟨0, l, _, rfl, Nat.zero_le _, rfl, L2, by omega, Lib.hid (by rw [show ((0 : Nat) : Int) = 0 from rfl, rep_zero, List.append_nil]), (Lib.hid (by simpa using O2.out)), AP, B2, s2⟩
          case round =>
            obtain ⟨k, l', v', rfl, hk, rfl, HI1, hl3', HI2, HI3, HI4, HI5, hsi⟩ := hrel
            by_cases hkA : k < A
            · have hkI : (k : Int) < (A : Int) := by omega
              have hl' : l'.length = L + k * XL := by rw [HI2.out, List.length_append, hL, rep_len, Int.toNat_natCast, hxl]
              have HNX := Lib.hid (show l' ++ xs = l ++ rep ((k + 1 : Nat) : Int) xs from by rw [HI2.out, show ((k + 1 : Nat) : Int) = (k : Int) + 1 by omega, rep_succ, List.append_assoc])
              have hTT : L + (k + 1) * XL ≤ T.length := by
                have h1 := HLX.out
                have h2 := Nat.mul_le_mul_right XL (show k + 1 ≤ A by omega)
                omega
              rw [Nat.add_mul, Nat.one_mul] at hTT
              obtain ⟨a3, cap3, rfl, -, -⟩ := own_form HI1.out
              generalize hL3 : l'.length = L3 at *
              have hLB : L3 + XL ≤ 1000000000 := by omega
              have hTT' : L3 + XL ≤ T.length := by omega
              clear hTT hl'
              have hwl : ∀ q : Nat, q = L3 + XL → q ≤ 1000000000 := fun q h => by omega
              go_wp2_with (at_builtin; refine wp_apps_at rfl _ _ rfl HI1.out HI3.out rfl rfl (by rw [hL3, hxl]; exact hLB) (by omega) ?_; intro v5 w5 ho5 hg5 hloc5; refine Hid.out ?_)
              refine Lib.hid ?_
              have O5 := Lib.hid ho5
              have B5 := Lib.hid (grown_below HI5.out HI1.out hg5 (Nat.le_refl _) hsi)
              have X5 := Lib.hid (apart_grown HI3.out hg5 HI4.out)
              have A5 := Lib.hid (loc_apart hloc5 HI4.out (fun k hk => (own_block_lt HI3.out k hk).2))
              have s5 := hg5.size
              have hln : (l' ++ xs).length = L3 + XL := by rw [List.length_append, hL3, hxl]
              have HLN := Lib.hid hln
              obtain ⟨a5, cap5, rfl, -, -⟩ := own_form ho5
              clear ho5 hg5 hloc5 hln
              rw [HLN.out]
              rw [HLN.out] at O5 A5
              by_cases hbg : 3000 < L3 + XL
              · have hbI : (3000 : Int) < ((L3 + XL : Nat) : Int) := by omega
                have hbI2 : (3000 : Int) < (L3 : Int) + (XL : Int) := by omega
                have hbig : 3000 < T.length := by omega
                go_wp2_with fail
                refine bodyPost_ret (v := .tuple #[.slice none 0 0, .bool false]) (by simp [results, Try.results49, go_sem, *]) rfl ?_
                exact .inr ⟨hbig, rfl, B5.out⟩
              · have hbI : ¬ (3000 : Int) < ((L3 + XL : Nat) : Int) := by omega
                have hbI2 : ¬ (3000 : Int) < (L3 : Int) + (XL : Int) := by omega
                go_wp2_with fail
                go_roundw
                case rel => exact ⟨k + 1, _, _, rfl, by omega, by go_num, O5, by rw [HLN.out]; omega, HNX, X5, A5, B5, by omega⟩
                case measure => first | (simp [intOf]; done) | (simp [intOf]; omega)
            · obtain rfl : k = A := by omega
              have hkI : ¬ (k : Int) < (k : Int) := by omega
              obtain ⟨a3, cap3, rfl, -, -⟩ := own_form HI1.out
              generalize hL3 : l'.length = L3 at *
              go_wp2_with fail
              go_roundw
              case rel => exact ⟨m + 1, l', _, rfl, by omega, by omega, by go_num, (hL3 ▸ HI1.out), by omega, Lib.hid (by rw [HI2.out, HY.out, List.append_assoc]; exact HX2.out), HBM, HI5.out, hsi⟩
              case measure => first | (simp [intOf]; done) | (simp [intOf]; omega)
        · obtain ⟨h10, pb⟩ := bal_plain hz HV.out HSB.out hbal.out hlt h8
          have fl := flatR_plain hz HV.out HSB.out hbal.out hlt h8
          have okp := ok_parts hz HV.out HSB.out (show j < n by omega) h10
          have hX' := hX.out
          rw [fl] at hX'
          have PB := Lib.hid pb
          have hop : 2 ≤ opA zs j ∧ opA zs j ≤ 8 := by rcases okp with h | h | h <;> omega
          obtain ⟨A, hA⟩ : ∃ A : Nat, imax 1 (argA zs j) = (A : Int) := Int.eq_ofNat_of_zero_le (by have := imax_ge 1 (argA zs j); omega)
          have hA100 : A ≤ 100 := by
            have := imax_ge 1 (argA zs j)
            have h3 : argA zs j ≤ 100 := by rcases okp with h | h | h <;> omega
            rcases this.2.2 with h | h <;> omega
          rw [hA] at hX'
          obtain ⟨op, hopE⟩ : ∃ op, op = opA zs j := ⟨_, rfl⟩
          obtain ⟨ar, harE⟩ : ∃ ar, ar = argA zs j := ⟨_, rfl⟩
          have r1' : wr.cell? ⟨g, j * 2 + 1, none⟩ = some (.int .i64 ar) := by rw [harE]; exact r1
          have r0' : wr.cell? ⟨g, j * 2, none⟩ = some (.int .i64 op) := by rw [hopE]; exact r0
          rw [← hopE] at hop h8 hX'
          rw [← harE] at hA
          have HX2 := Lib.hid hX'
          have hlX := congrArg List.length hX'
          rw [List.length_append, List.length_append, rep_len, Int.toNat_natCast, hL] at hlX
          simp only [List.length_singleton] at hlX
          have HLX := Lib.hid hlX
          clear hlX
          have HMX := Lib.hid hA
          have n8 : (op == 8) = false := by simpa using h8
          have w8 : IntKind.i64.wrap (op - 1) = op - 1 := IntWalk.i64_in _ (by omega)
          clear r0 r1 hX hbal fl pb hX' h10 okp hopE harE hA
          go_wp2_with fail
          refine (spec_l00Max _ _ _).mono ?_; rintro e9 w1 ⟨rfl, rfl⟩
          rw [HMX.out]
          go_wp2_with fail
          go_loopw [8, 15] (fun vv kk wi => ∃ (k : Nat) (l' : List Int) (v' : Value), vv = v' ∧ k ≤ A ∧ kk = .int .i64 k ∧ Hid (Own wi w.heap.size v' l') ∧ l'.length ≤ 3000 ∧ Hid (l' = l ++ rep k [op - 1]) ∧ Hid (Own wi wr.heap.size (.slice (some ⟨wr.heap.size, 0, none⟩) 1 1) [op - 1]) ∧ Hid (Apart (.slice (some ⟨wr.heap.size, 0, none⟩) 1 1) v') ∧ Hid (Below w.heap.size w wi) ∧ w.heap.size ≤ wi.heap.size) (fun _ kk _ => A - (intOf kk).toNat)
          case atStart => exact ⟨0, l, _, rfl, Nat.zero_le _, rfl, (Lib.hid (own_alloc HOL.out _)), by omega, Lib.hid (by rw [show ((0 : Nat) : Int) = 0 from rfl, rep_zero, List.append_nil]), (Lib.hid (own_lit1 wr (op - 1))), (Lib.hid (apart_new HOL.out (own_lit1 wr (op - 1)) (Nat.le_refl _))), (Lib.hid (HBW.out.alloc hs _)), (by simp; omega)⟩
          case round =>
            obtain ⟨k, l', v', rfl, hk, rfl, HI1, hl3', HI2, HI3, HI4, HI5, hsi⟩ := hrel
            by_cases hkA : k < A
            · have hkI : (k : Int) < (A : Int) := by omega
              have hl' : l'.length = L + k * 1 := by rw [HI2.out, List.length_append, hL, rep_len, Int.toNat_natCast, List.length_singleton]
              have HNX := Lib.hid (show l' ++ [op - 1] = l ++ rep ((k + 1 : Nat) : Int) [op - 1] from by rw [HI2.out, show ((k + 1 : Nat) : Int) = (k : Int) + 1 by omega, rep_succ, List.append_assoc])
              have hTT : L + (k + 1) * 1 ≤ T.length := by
                have h1 := HLX.out
                have h2 := Nat.mul_le_mul_right 1 (show k + 1 ≤ A by omega)
                omega
              rw [Nat.add_mul, Nat.one_mul] at hTT
              obtain ⟨a3, cap3, rfl, -, -⟩ := own_form HI1.out
              generalize hL3 : l'.length = L3 at *
              have hLB : L3 + 1 ≤ 1000000000 := by omega
              have hTT' : L3 + 1 ≤ T.length := by omega
              clear hTT hl'
              have hwl : ∀ q : Nat, q = L3 + 1 → q ≤ 1000000000 := fun q h => by omega
              go_wp2_with (at_builtin; refine wp_apps_at rfl _ _ rfl HI1.out HI3.out rfl rfl (by rw [hL3, List.length_singleton]; exact hLB) (by omega) ?_; intro v5 w5 ho5 hg5 hloc5; refine Hid.out ?_)
              refine Lib.hid ?_
              have O5 := Lib.hid ho5
              have B5 := Lib.hid (grown_below HI5.out HI1.out hg5 (Nat.le_refl _) hsi)
              have X5 := Lib.hid (apart_grown HI3.out hg5 HI4.out)
              have A5 := Lib.hid (loc_apart hloc5 HI4.out (fun k hk => (own_block_lt HI3.out k hk).2))
              have s5 := hg5.size
              have hln : (l' ++ [op - 1]).length = L3 + 1 := by rw [List.length_append, hL3, List.length_singleton]
              have HLN := Lib.hid hln
              obtain ⟨a5, cap5, rfl, -, -⟩ := own_form ho5
              clear ho5 hg5 hloc5 hln
              rw [HLN.out]
              rw [HLN.out] at O5 A5
              by_cases hbg : 3000 < L3 + 1
              · have hbI : (3000 : Int) < ((L3 + 1 : Nat) : Int) := by omega
                have hbI2 : (3000 : Int) < (L3 : Int) + (1 : Int) := by omega
                have hbig : 3000 < T.length := by omega
                go_wp2_with fail
                refine bodyPost_ret (v := .tuple #[.slice none 0 0, .bool false]) (by simp [results, Try.results49, go_sem, *]) rfl ?_
                exact .inr ⟨hbig, rfl, B5.out⟩
              · have hbI : ¬ (3000 : Int) < ((L3 + 1 : Nat) : Int) := by omega
                have hbI2 : ¬ (3000 : Int) < (L3 : Int) + (1 : Int) := by omega
                go_wp2_with fail
                go_roundw
                case rel => exact ⟨k + 1, _, _, rfl, by omega, by go_num, O5, by rw [HLN.out]; omega, HNX, X5, A5, B5, by omega⟩
                case measure => first | (simp [intOf]; done) | (simp [intOf]; omega)
            · obtain rfl : k = A := by omega
              have hkI : ¬ (k : Int) < (k : Int) := by omega
              obtain ⟨a3, cap3, rfl, -, -⟩ := own_form HI1.out
              generalize hL3 : l'.length = L3 at *
              go_wp2_with fail
              go_roundw
              case rel => exact ⟨j + 1, l', _, rfl, by omega, by omega, by go_num, (hL3 ▸ HI1.out), by omega, Lib.hid (by rw [HI2.out, List.append_assoc]; exact HX2.out), PB, HI5.out, hsi⟩
              case measure => first | (simp [intOf]; done) | (simp [intOf]; omega)
      · obtain rfl : j = e := by omega
        have HR := Lib.hid (show l = T from by have := hX.out; rw [flatR_end] at this; simpa using this)
        have hlT : T.length ≤ 3000 := by rw [← HR.out, hL]; exact hl3
        clear hbw hX hbal
        go_wp2_with fail
        refine bodyPost_ret (v := .tuple #[.slice ao L capo, .bool true]) (by simp [results, Try.results49, go_sem, *]) rfl ?_
        exact .inl ⟨hlT, _, rfl, by rw [← HR.out]; exact (hL ▸ HOL.out), HBW.out⟩
end Go.Proofs.Ytaipfcbphfjgoaa
