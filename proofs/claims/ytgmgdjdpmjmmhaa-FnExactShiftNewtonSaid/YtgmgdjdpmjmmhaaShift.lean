/- First differences from a later place on: the functions of both packages. -/
import Derived.IntWalk
import Derived.BigRegion
import Derived.Test.YtgmgdjdpmjmmhaaDifB
namespace Go.Proofs.Ytgmgdjdpmjmmhaa
open Go.ChangeShapes Go.WideShapes Go.ChangeAt Go.RowKit
def shf : List Int → List Int
  | a :: b :: l => (a + b) :: shf (b :: l)
  | l => l
theorem shf_len : ∀ l : List Int, (shf l).length = l.length
  | [] => rfl
  | [_] => rfl
  | a :: b :: l => by have := shf_len (b :: l); simp only [shf, List.length_cons] at *; omega
theorem shf_at : ∀ (l : List Int) (i : Nat), i < l.length → (shf l).getD i 0 = l.getD i 0 + (if i + 1 < l.length then l.getD (i + 1) 0 else 0)
  | [], i, h => by simp at h
  | [a], i, h => by
    obtain rfl : i = 0 := by simp at h; omega
    simp [shf]
  | a :: b :: l, 0, _ => by simp [shf]
  | a :: b :: l, i + 1, h => by
    have := shf_at (b :: l) i (by simpa using h)
    simp only [shf, List.getD_cons_succ, this, List.length_cons, Nat.add_lt_add_iff_right]
/-- the first k numbers shifted, the others as they were -/
def shp (l : List Int) (k : Nat) : List Int := (shf l).take k ++ l.drop k
theorem shp_len {l : List Int} {k : Nat} (h : k ≤ l.length) : (shp l k).length = l.length := by simp [shp, shf_len]; omega
theorem shp_at {l : List Int} {k i : Nat} (hi : k ≤ i) (h : i < l.length) : nth (shp l k) i = nth l i := by
  unfold nth shp
  have hl : ((shf l).take k).length = k := by rw [List.length_take, shf_len]; omega
  simp only [List.getD_eq_getElem?_getD]
  rw [List.getElem?_append_right (by omega), hl, List.getElem?_drop, show k + (i - k) = i by omega]
theorem shp_set {l : List Int} {k : Nat} (h : k + 1 < l.length) : (shp l k).set k (nth l k + nth l (k + 1)) = shp l (k + 1) := by
  have hl : ((shf l).take k).length = k := by rw [List.length_take, shf_len]; omega
  have e := shf_at l k (by omega)
  rw [if_pos h] at e
  have e2 : nth l k + nth l (k + 1) = (shf l).getD k 0 := e.symm
  unfold shp
  rw [e2, List.set_append, if_neg (by omega), hl, Nat.sub_self]
  have d : l.drop k = l[k] :: l.drop (k + 1) := List.drop_eq_getElem_cons (by omega)
  have t : (shf l).take (k + 1) = (shf l).take k ++ [(shf l).getD k 0] := by
    rw [List.take_succ_eq_append_getElem (by rw [shf_len]; omega)]; simp [List.getD, shf_len, show k < l.length by omega]
  rw [d, t, List.set_cons_zero, List.append_assoc]
  rfl
theorem shp_done {l : List Int} {k : Nat} (h : ¬ k + 1 < l.length) (hk : k ≤ l.length) : shp l k = shf l := by
  by_cases e : k = l.length
  · unfold shp; rw [e, List.drop_length, List.append_nil, List.take_of_length_le (by rw [shf_len]; omega)]
  · -- one number is left: it is as it was
    apply List.ext_getElem?
    intro i
    have hl : ((shf l).take k).length = k := by rw [List.length_take, shf_len]; omega
    unfold shp
    by_cases hi : i < k
    · rw [List.getElem?_append_left (by omega), List.getElem?_take, if_pos hi]
    · rw [List.getElem?_append_right (by omega), hl, List.getElem?_drop, show k + (i - k) = i by omega]
      by_cases hi2 : i = k
      · subst hi2
        have a := shf_at l i (by omega)
        rw [if_neg h, Int.add_zero] at a
        have b1 : i < l.length := by omega
        have b2 : i < (shf l).length := by rw [shf_len]; omega
        simp only [List.getD_eq_getElem?_getD, List.getElem?_eq_getElem b1, List.getElem?_eq_getElem b2, Option.getD_some] at a
        rw [List.getElem?_eq_getElem b1, List.getElem?_eq_getElem b2, a]
      · rw [List.getElem?_eq_none (by omega), List.getElem?_eq_none (by rw [shf_len]; omega)]
theorem shf_take {l : List Int} {k : Nat} (h : k < l.length) : (shf l).take (k + 1) = (shf l).take k ++ [nth l k + (if k + 1 < l.length then nth l (k + 1) else 0)] := by
  rw [List.take_succ_eq_append_getElem (by rw [shf_len]; omega)]
  have e := shf_at l k h
  have b2 : k < (shf l).length := by rw [shf_len]; omega
  simp only [List.getD_eq_getElem?_getD, List.getElem?_eq_getElem b2, Option.getD_some] at e
  rw [e]; rfl
/-- j steps, each of which must leave coefficients -/
def shI (cs : List Int) : Nat → Option (List Int)
  | 0 => some cs
  | j + 1 => match shI cs j with
    | none => none
    | some l => if coefB (shf l) then some (shf l) else none
theorem shI_none {cs : List Int} {i j : Nat} (h : shI cs i = none) (hij : i ≤ j) : shI cs j = none := by
  induction hij with
  | refl => exact h
  | step _ ih => unfold shI; rw [ih]
theorem shI_step {cs l : List Int} {j : Nat} (h : shI cs j = some l) : shI cs (j + 1) = if coefB (shf l) then some (shf l) else none := by
  conv => lhs; unfold shI
  rw [h]
def shR (cs : List Int) (n : Int) : List Int × Int := if coefB cs then (if inB n 0 30 then (match shI cs n.toNat with | some l => (l, 0) | none => ([], 5)) else ([], 2)) else ([], 1)
theorem shI_len {cs : List Int} (j : Nat) : ∀ l, shI cs j = some l → l.length = cs.length := by
  induction j with
  | zero => intro l h; injection h with h; rw [← h]
  | succ j ih =>
    intro l h
    cases e : shI cs j with
    | none => unfold shI at h; rw [e] at h; cases h
    | some m =>
      rw [shI_step e] at h
      split at h
      · injection h with h; rw [← h, shf_len, ih m e]
      · cases h
theorem shR_len (cs : List Int) (n : Int) : (shR cs n).1.length ≤ 1000 := by
  unfold shR
  split
  · rename_i hc
    have := (coefB_parts hc).2.2
    split
    · split
      · rename_i l e; have := shI_len _ _ e; show l.length ≤ _; omega
      · simp
    · simp
  · simp
set_option maxHeartbeats 1000000 in
theorem spec_l15Step {B : Nat} {v : Value} {zs : List Int} (w : World) (h : Own w B v zs) (hc : coefB zs = true) :
    Calls Try.prog 37 #[v] w (RetOwn w (shf zs)) := by
  obtain ⟨hbd, _, hl⟩ := coefB_parts hc
  obtain ⟨a, cap, rfl, hm, hcc⟩ := own_form h
  have HC := Lib.hid hcc; have HB := Lib.hid hbd; have HLT := Lib.hid (own_block_lt h); clear hcc h hbd hc
  go_enter Try.func37, Try.ntmps37
  go_wp2_with fail
  go_loopw [3, 4, 5] (fun o i _ wr => ∃ j : Nat, j ≤ zs.length ∧ i = .int .i64 j ∧ Own wr w.heap.size o ((shf zs).take j) ∧ Below w.heap.size w wr ∧ w.heap.size ≤ wr.heap.size) (fun _ i _ _ => (100 - intOf i).toNat)
  case atStart => exact ⟨0, Nat.zero_le _, rfl, own_empty _ _ (Nat.le_refl _), (Below.refl _ _).alloc (Nat.le_refl _) _, by simp⟩
  case round =>
    obtain ⟨j, hj, rfl, ho, hbw, hs⟩ := hrel
    have HO := Lib.hid ho; have HBW := Lib.hid hbw; clear ho hbw
    by_cases hlt : j < zs.length
    · obtain ⟨g, rfl, q0⟩ := HC.out j hlt
      have gl := (HLT.out g rfl).2
      have q2 : wr.cell? ⟨g, j, none⟩ = some (.int .i64 (nth zs j)) := by rw [HBW.out.cell (p := ⟨g, j, none⟩) gl]; exact q0
      clear q0
      obtain ⟨z0, z1⟩ := nth_bd HB.out hlt
      have HT := Lib.hid (shf_take hlt)
      have hlen : ((shf zs).take j).length ≤ 1000000000 := by rw [List.length_take]; omega
      by_cases hlt2 : j + 1 < zs.length
      · obtain ⟨g', e', q1⟩ := HC.out (j + 1) hlt2
        obtain rfl : g = g' := by simpa using e'
        clear e'
        have q3 : wr.cell? ⟨g, j + 1, none⟩ = some (.int .i64 (nth zs (j + 1))) := by rw [HBW.out.cell (p := ⟨g, j + 1, none⟩) gl]; exact q1
        clear q1
        obtain ⟨y0, y1⟩ := nth_bd HB.out hlt2
        go_wp2_with (at_builtin; refine wp_app rfl _ _ rfl _ _ (own_alloc HO.out _) rfl rfl (by simp; rfl) hlen (by simp; omega) ?_; intro v' w2 ho' hg')
        obtain ⟨hb', hs'⟩ := app_below HBW.out HO.out hg' (Nat.le_refl _) hs
        go_roundw
        case rel => exact ⟨j + 1, by omega, by go_num, by rw [HT.out, if_pos hlt2]; exact ho', hb', hs'⟩
        case measure => first | (simp [intOf]; done) | (simp [intOf]; omega)
      · go_wp2_with (at_builtin; refine wp_app rfl _ _ rfl _ _ (own_alloc HO.out _) rfl rfl (by simp; rfl) hlen (by simp; omega) ?_; intro v' w2 ho' hg')
        obtain ⟨hb', hs'⟩ := app_below HBW.out HO.out hg' (Nat.le_refl _) hs
        go_roundw
        case rel => exact ⟨j + 1, by omega, by go_num, by rw [HT.out, if_neg (by omega), Int.add_zero]; exact ho', hb', hs'⟩
        case measure => first | (simp [intOf]; done) | (simp [intOf]; omega)
    · have HF := Lib.hid (show (shf zs).take j = shf zs from List.take_of_length_le (by rw [shf_len]; omega))
      go_wp2
      go_ret
      exact ⟨_, rfl, by have := HO.out; rw [HF.out] at this; exact this, HBW.out⟩
set_option maxHeartbeats 2000000 in
theorem spec_ShiftNewton {B : Nat} {v : Value} {zs : List Int} (n : Int) (w : World) (h : Own w B v zs) :
    Calls Try.prog 12 #[v, .int .i64 n] w (RetOwnI w (shR zs n).1 (shR zs n).2) := by
  have HO := Lib.hid h; clear h
  cases hv : coefB zs
  · rw [show shR zs n = ([], 1) from by simp [shR, hv]]
    go_enter Try.func12, Try.ntmps12
    go_wp2_with fail
    refine (spec_l15Coefs _ HO.out).mono ?_; rintro e w' ⟨rfl, rfl⟩; rw [hv]
    go_wp2_with fail
    go_ret2
    exact ⟨_, rfl, own_nil, Below.refl _ _⟩
  cases hn : inB n 0 30
  · rw [show shR zs n = ([], 2) from by simp [shR, hv, hn]]
    go_enter Try.func12, Try.ntmps12
    go_wp2_with fail
    refine (spec_l15Coefs _ HO.out).mono ?_; rintro e w' ⟨rfl, rfl⟩; rw [hv]
    go_wp2_with fail
    refine (spec_l00In _ _ _ _).mono ?_; rintro e w' ⟨rfl, rfl⟩; rw [hn]
    go_wp2_with fail
    go_ret2
    exact ⟨_, rfl, own_nil, Below.refl _ _⟩
  obtain ⟨n0, n1⟩ := inB_iff.1 hn
  have HR := Lib.hid (show shR zs n = (match shI zs n.toNat with | some l => (l, 0) | none => ([], 5)) from by simp [shR, hv, hn])
  have hl := (coefB_parts hv).2.2
  have HV := Lib.hid hv; clear hv
  go_enter Try.func12, Try.ntmps12
  go_wp2_with fail
  refine (spec_l15Coefs _ HO.out).mono ?_; rintro e w' ⟨rfl, rfl⟩; rw [HV.out]
  go_wp2_with fail
  refine (spec_l00In _ _ _ _).mono ?_; rintro e w' ⟨rfl, rfl⟩; rw [hn]
  go_wp2_with fail
  refine (spec_l00Own _ HO.out (by omega)).mono ?_; rintro e w1 ⟨v1, rfl, o1, b1⟩
  have O1 := Lib.hid o1; have B1 := Lib.hid b1; clear o1 b1
  have S1 := B1.out.size
  go_wp2_with fail
  go_loopw [1, 6] (fun i o wr => ∃ (j : Nat) (l : List Int), (j : Int) ≤ n ∧ i = .int .i64 (n - j) ∧ Own wr w.heap.size o l ∧ Below w.heap.size w wr ∧ w.heap.size ≤ wr.heap.size ∧ Hid (shI zs j = some l) ∧ Hid (coefB l = true) ∧ l.length = zs.length) (fun i _ _ => (intOf i).toNat)
  case atStart => exact ⟨0, zs, by omega, by first | rfl | simp, O1.out, B1.out, S1, rfl, HV.out, rfl⟩
  case round =>
    obtain ⟨j, l, hj, rfl, ho, hbw, hs, hsh, hcl, hl9⟩ := hrel
    have HOO := Lib.hid ho; have HBW := Lib.hid hbw; clear ho hbw
    by_cases hlt : (j : Int) < n
    · have HS := Lib.hid (shI_step hsh.out)
      go_wp2_with fail
      refine (spec_l15Step _ HOO.out hcl.out).mono ?_; rintro e w2 ⟨v2, rfl, o2, b2⟩
      have O2 := Lib.hid (own_base o2 hs); have B2 := Lib.hid (HBW.out.trans (b2.mono hs)); have S2 := Nat.le_trans hs b2.size; clear o2 b2
      cases hk : coefB (shf l)
      · have HF := Lib.hid (show shR zs n = ([], 5) from by rw [HR.out, shI_none (show shI zs (j + 1) = none by rw [HS.out, hk]; rfl) (show j + 1 ≤ n.toNat by omega)])
        have HK := Lib.hid hk; clear hk
        go_wp2_with fail
        refine (spec_l15Coefs _ O2.out).mono ?_; rintro e w' ⟨rfl, rfl⟩; rw [HK.out]
        go_wp2_with fail
        go_ret2
        exact ⟨_, by rw [HF.out]; rfl, by rw [HF.out]; exact own_nil, B2.out⟩
      · have HE := Lib.hid (show shI zs (j + 1) = some (shf l) by rw [HS.out, hk]; rfl)
        have HK := Lib.hid hk; clear hk
        go_wp2_with fail
        refine (spec_l15Coefs _ O2.out).mono ?_; rintro e w' ⟨rfl, rfl⟩; rw [HK.out]
        go_wp2_with fail
        go_roundw
        case rel => exact ⟨j + 1, shf l, by omega, by first | go_num | (congr 1; omega), O2.out, B2.out, S2, HE.out, HK.out, by rw [shf_len]; exact hl9⟩
        case measure => first | (simp [intOf]; done) | (simp [intOf]; omega)
    · have HF := Lib.hid (show shR zs n = (l, 0) from by rw [HR.out, show n.toNat = j from by omega, hsh.out])
      go_wp2
      go_ret2
      exact ⟨_, by rw [HF.out]; rfl, by rw [HF.out]; exact HOO.out, HBW.out⟩
set_option maxHeartbeats 2000000 in
theorem impl_ShiftNewton {B : Nat} {v : Value} {zs : List Int} (n : Int) (w : World) (h : Own w B v zs) :
    Calls Try.prog 14 #[v, .int .i64 n] w (RetOwnI w (shR zs n).1 (shR zs n).2) := by
  have HO := Lib.hid h; clear h
  cases hv : coefB zs
  · rw [show shR zs n = ([], 1) from by simp [shR, hv]]
    go_enter Try.func14, Try.ntmps14
    go_wp2_with fail
    refine (impl_areCoefs _ HO.out).mono ?_; rintro e w' ⟨rfl, rfl⟩; rw [hv]
    go_wp2_with fail
    go_ret2
    exact ⟨_, rfl, own_nil, Below.refl _ _⟩
  cases hn : inB n 0 30
  · rw [show shR zs n = ([], 2) from by simp [shR, hv, hn]]
    go_enter Try.func14, Try.ntmps14
    go_wp2_with fail
    refine (impl_areCoefs _ HO.out).mono ?_; rintro e w' ⟨rfl, rfl⟩; rw [hv]
    go_wp2_with fail
    refine (impl_between _ _ _ _).mono ?_; rintro e w' ⟨rfl, rfl⟩; rw [hn]
    go_wp2_with fail
    go_ret2
    exact ⟨_, rfl, own_nil, Below.refl _ _⟩
  obtain ⟨n0, n1⟩ := inB_iff.1 hn
  have HR := Lib.hid (show shR zs n = (match shI zs n.toNat with | some l => (l, 0) | none => ([], 5)) from by simp [shR, hv, hn])
  have hl := (coefB_parts hv).2.2
  have HV := Lib.hid hv; clear hv
  go_enter Try.func14, Try.ntmps14
  go_wp2_with fail
  refine (impl_areCoefs _ HO.out).mono ?_; rintro e w' ⟨rfl, rfl⟩; rw [HV.out]
  go_wp2_with fail
  refine (impl_between _ _ _ _).mono ?_; rintro e w' ⟨rfl, rfl⟩; rw [hn]
  go_wp2_with fail
  refine (impl_copyNumbers _ HO.out (by omega)).mono ?_; rintro e w1 ⟨v1, rfl, o1, b1⟩
  have O1 := Lib.hid o1; have B1 := Lib.hid b1; clear o1 b1
  have S1 := B1.out.size
  go_wp2_with fail
  rcases own_cases O1.out with ⟨_, e⟩ | ⟨g, cap, rfl, hg1, _, _, _, _, _⟩
  · have := (coefB_parts HV.out).2.1; rw [e] at this; simp at this
  go_loopw [7, 17] (fun _ i wr => ∃ (j : Nat) (l : List Int), (j : Int) ≤ n ∧ i = .int .i64 j ∧ Own wr w.heap.size (.slice (some ⟨g, 0, none⟩) zs.length cap) l ∧ Below w.heap.size w wr ∧ w.heap.size ≤ wr.heap.size ∧ Hid (shI zs j = some l) ∧ Hid (coefB l = true) ∧ l.length = zs.length) (fun _ i _ => (100 - intOf i).toNat)
  case atStart => exact ⟨0, zs, by omega, by first | rfl | simp, O1.out, B1.out, S1, rfl, HV.out, rfl⟩
  case round =>
    obtain ⟨j, l, hj, rfl, ho, hbw, hs, hsh, hcl, hl9⟩ := hrel
    have HOO := Lib.hid ho; have HBW := Lib.hid hbw; clear ho hbw
    by_cases hlt : (j : Int) < n
    · have HS := Lib.hid (shI_step hsh.out)
      obtain ⟨hbl, hl1, -⟩ := coefB_parts hcl.out
      have HBL := Lib.hid hbl; clear hbl
      obtain ⟨wo, hwo⟩ : ∃ wo : World, wo = wr := ⟨_, rfl⟩
      subst hwo
      go_wp2_with fail
      go_loopw [7] (fun kk wr => ∃ k : Nat, k ≤ l.length ∧ (k = 0 ∨ k + 1 ≤ l.length) ∧ kk = .int .i64 k ∧ Own wr w.heap.size (.slice (some ⟨g, 0, none⟩) zs.length cap) (shp l k) ∧ Below w.heap.size w wr ∧ w.heap.size ≤ wr.heap.size) (fun kk _ => (100 - intOf kk).toNat)
      case atStart => exact ⟨0, by omega, .inl rfl, rfl, by simpa [shp] using HOO.out, HBW.out, hs⟩
      case round =>
        obtain ⟨k, hk, hk2, rfl, ho3, hbw3, hs3⟩ := hrel
        by_cases hlt3 : k + 1 < l.length
        · obtain ⟨q1, q2⟩ := own_at ho3 (by rw [shp_len hk]; exact hl9.symm) (i := k) (by omega)
          obtain ⟨q3, -⟩ := own_at ho3 (by rw [shp_len hk]; exact hl9.symm) (i := k + 1) (by omega)
          rw [shp_at (Nat.le_refl _) (by omega)] at q1
          rw [shp_at (by omega) hlt3] at q3
          obtain ⟨z0, z1⟩ := nth_bd HBL.out (j := k) (by omega)
          obtain ⟨y0, y1⟩ := nth_bd HBL.out (j := k + 1) hlt3
          have ST := own_store ho3 (by rw [shp_len hk]; exact hl9.symm) k (nth l k + nth l (k + 1))
          rw [shp_set hlt3] at ST
          have HST := Lib.hid ST; have HB3 := Lib.hid hbw3; clear ST ho3 hbw3
          have i0 : (k : Int) + 1 < (zs.length : Int) := by omega
          have i1 : (k : Int) < (zs.length : Int) := by omega
          have i2 : (0 : Int) ≤ (k : Int) := by omega
          have i3 : (0 : Int) ≤ (k : Int) + 1 := by omega
          have i4 : ((k : Int) + 1).toNat = k + 1 := by omega
          have e1 : IntKind.i64.wrap (nth l k + nth l (k + 1)) = nth l k + nth l (k + 1) := IntWalk.i64_in _ (by omega)
          have e2 : IntKind.i64.wrap ((k : Int) + 1) = (k : Int) + 1 := IntWalk.i64_in _ (by omega)
          have HL9 := Lib.hid hl9; clear hl9
          go_wp2
          go_region
          go_wp2
          clear e1 e2 i3 i4
          go_roundw
          case rel => exact ⟨k + 1, by have := HL9.out; omega, .inr (by have := HL9.out; omega), by go_num, own_drew HST.out.1, (HB3.out.setCell hg1 _).drew, by simpa using hs3⟩
          case measure => first | (simp [intOf]; done) | (simp [intOf]; omega)
        · have ho4 : Own wr w.heap.size (.slice (some ⟨g, 0, none⟩) zs.length cap) (shf l) := by rw [← shp_done hlt3 hk]; exact ho3
          have O4 := Lib.hid ho4; have HB3 := Lib.hid hbw3; clear ho3 ho4 hbw3
          have i0 : ¬ (k : Int) + 1 < (zs.length : Int) := by omega
          have k9 : k ≤ 9 := by omega
          have HL9 := Lib.hid hl9; clear hl9
          cases hk' : coefB (shf l)
          · have HF := Lib.hid (show shR zs n = ([], 5) from by rw [HR.out, shI_none (show shI zs (j + 1) = none by rw [HS.out, hk']; rfl) (show j + 1 ≤ n.toNat by omega)])
            have HK := Lib.hid hk'; clear hk'
            go_wp2_with fail
            refine (impl_areCoefs _ O4.out).mono ?_; rintro e w' ⟨rfl, rfl⟩; rw [HK.out]
            go_wp2_with fail
            go_ret2
            exact ⟨_, by rw [HF.out]; rfl, by rw [HF.out]; exact own_nil, HB3.out⟩
          · have HE := Lib.hid (show shI zs (j + 1) = some (shf l) by rw [HS.out, hk']; rfl)
            have HK := Lib.hid hk'; clear hk'
            go_wp2_with fail
            refine (impl_areCoefs _ O4.out).mono ?_; rintro e w' ⟨rfl, rfl⟩; rw [HK.out]
            go_wp2_with fail
            go_roundw
            case rel => exact ⟨j + 1, shf l, by omega, by go_num, O4.out, HB3.out, hs3, HE.out, HK.out, by rw [shf_len]; exact HL9.out⟩
            case measure => first | (simp [intOf]; done) | (simp [intOf]; omega)
    · have HF := Lib.hid (show shR zs n = (l, 0) from by rw [HR.out, show n.toNat = j from by omega, hsh.out])
      go_wp2
      go_ret2
      exact ⟨_, by rw [HF.out]; rfl, by rw [HF.out]; exact HOO.out, HBW.out⟩
end Go.Proofs.Ytgmgdjdpmjmmhaa
