/- First differences of a polynomial that is told by the coefficients of powers: the functions of both packages. -/
import Derived.IntWalk
import Derived.Test.YtgmgdjdpmjmmhaaDifC
namespace Go.Proofs.Ytgmgdjdpmjmmhaa
open Go.ChangeShapes Go.WideShapes Go.ChangeAt Go.RowKit
def hq (x : Int) : List Int → Option Int
  | [] => some 0
  | d :: l => match hq x l with
    | none => none
    | some q => if inB (q * x + d) (-1000000000000000) 1000000000000000 then some (q * x + d) else none
theorem hq_bd {x : Int} : ∀ {l : List Int} {q : Int}, hq x l = some q → -1000000000000000 ≤ q ∧ q ≤ 1000000000000000
  | [], q, h => by injection h with h; omega
  | d :: l, q, h => by
    unfold hq at h
    split at h
    · cases h
    · split at h
      · rename_i g; injection h with h; rw [← h]; exact inB_iff.1 g
      · cases h
theorem hq_drop {x q : Int} {ps : List Int} {k : Nat} (hk : k < ps.length) (h : hq x (ps.drop (k + 1)) = some q) :
    hq x (ps.drop k) = if inB (q * x + nth ps k) (-1000000000000000) 1000000000000000 then some (q * x + nth ps k) else none := by
  rw [List.drop_eq_getElem_cons hk]
  conv => lhs; unfold hq
  rw [h]
  simp [nth, List.getD, hk]
theorem hq_none {x : Int} {ps : List Int} : ∀ k, hq x (ps.drop k) = none → hq x ps = none := by
  intro k
  induction k with
  | zero => intro h; simpa using h
  | succ k ih =>
    intro h
    apply ih
    by_cases hk : k < ps.length
    · rw [List.drop_eq_getElem_cons hk]; unfold hq; rw [h]
    · rw [List.drop_of_length_le (by omega)] at h; simp [hq] at h
def hqR (x : Int) (ps : List Int) : Int × Bool := match hq x ps with | some q => (q, true) | none => (0, false)
theorem hqR_some {x q : Int} {ps : List Int} (h : hq x ps = some q) : hqR x ps = (q, true) := by unfold hqR; rw [h]
theorem hqR_none {x : Int} {ps : List Int} (h : hq x ps = none) : hqR x ps = (0, false) := by unfold hqR; rw [h]
def fvals (ps : List Int) (m : Nat) : List Int := (List.range m).map fun k : Nat => (hqR (k : Int) ps).1
def fpOk (ps : List Int) (m : Nat) : Bool := (List.range m).all fun k : Nat => (hqR (k : Int) ps).2
theorem fvals_succ (ps : List Int) (m : Nat) : fvals ps (m + 1) = fvals ps m ++ [(hqR (m : Int) ps).1] := by simp [fvals, List.range_succ]
theorem fvals_len (ps : List Int) (m : Nat) : (fvals ps m).length = m := by simp [fvals]
theorem hqR_bd (x : Int) (ps : List Int) : -1000000000000000 ≤ (hqR x ps).1 ∧ (hqR x ps).1 ≤ 1000000000000000 := by
  unfold hqR
  split
  · rename_i q h; exact hq_bd h
  · simp
theorem fvals_bdd (ps : List Int) (m : Nat) : bdd 1000000000000000 (fvals ps m) := by
  intro x hx
  unfold fvals at hx
  obtain ⟨k, _, rfl⟩ := List.mem_map.1 hx
  exact hqR_bd _ _
theorem fvals_fits (ps : List Int) {m : Nat} (hm : m ≤ 9) (j : Nat) : bdd 1000000000000000000 (difN (fvals ps m) j) := by
  by_cases c : j ≤ 8
  · refine bdd_mono (bdd_difN (fvals_bdd ps m) j) ?_
    have := two_pow_le c
    have e : (2 : Int) ^ 8 = 256 := by decide
    rw [e] at this
    have := Int.mul_le_mul_of_nonneg_right this (show (0 : Int) ≤ 1000000000000000 by omega)
    omega
  · have : difN (fvals ps m) j = [] := List.eq_nil_of_length_eq_zero (by rw [difN_len, fvals_len]; omega)
    rw [this]; intro x hx; simp at hx
theorem fpOk_fail {ps : List Int} {m j : Nat} (hj : j < m) (h : (hqR (j : Int) ps).2 = false) : fpOk ps m = false := by
  rw [Bool.eq_false_iff]; intro e
  have := (List.all_eq_true.1 e) j (List.mem_range.2 hj)
  rw [h] at this; cases this
theorem fpOk_all {ps : List Int} {m : Nat} (h : ∀ k, k < m → (hqR (k : Int) ps).2 = true) : fpOk ps m = true := by
  unfold fpOk; rw [List.all_eq_true]; intro k hk
  exact h k (List.mem_range.1 hk)
def fpL (ps : List Int) : List Int := lead (fvals ps ps.length) ps.length
def fpR (ps : List Int) : List Int × Int := if coefB ps then (if fpOk ps ps.length then (if coefB (fpL ps) then (fpL ps, 0) else ([], 5)) else ([], 5)) else ([], 1)
theorem fpR_len (ps : List Int) : (fpR ps).1.length ≤ 1000 := by
  unfold fpR
  split
  · split
    · split
      · rename_i h; have := (coefB_parts h).2.2; show (fpL ps).length ≤ _; omega
      · simp
    · simp
  · simp
theorem prod_pm {Q n : Int} (q0 : -1000000000000000 ≤ Q) (q1 : Q ≤ 1000000000000000) (h0 : 0 ≤ n) (h1 : n ≤ 9) : -9000000000000000 ≤ Q * n ∧ Q * n ≤ 9000000000000000 := by
  have a := Int.mul_le_mul_of_nonneg_right q1 h0
  have b := Int.mul_le_mul_of_nonneg_right q0 h0
  omega
set_option maxHeartbeats 1000000 in
theorem spec_l15Power {B : Nat} {v : Value} {zs : List Int} (n : Int) (w : World) (h : Own w B v zs) (h0 : 0 ≤ n) (h1 : n ≤ 9) (hc : coefB zs = true) :
    Calls Try.prog 49 #[v, .int .i64 n] w fun e w' => e = .returned (.tuple #[.int .i64 (hqR n zs).1, .bool (hqR n zs).2]) ∧ w = w' := by
  obtain ⟨hbd, _, hl⟩ := coefB_parts hc
  obtain ⟨a, cap, rfl, hm, hcc⟩ := own_form h
  have HC := Lib.hid hcc; have HB := Lib.hid hbd; clear hcc h hbd hc
  go_enter Try.func49, Try.ntmps49
  go_wp2_with fail
  go_loop [6, 7] (fun q kk => ∃ (k : Nat) (Q : Int), k ≤ zs.length ∧ kk = .int .i64 ((k : Int) - 1) ∧ q = .int .i64 Q ∧ -1000000000000000 ≤ Q ∧ Q ≤ 1000000000000000 ∧ Hid (hq n (zs.drop k) = some Q)) (fun _ kk => (intOf kk + 1).toNat)
  case atStart => exact ⟨zs.length, 0, Nat.le_refl _, rfl, rfl, by omega, by omega, by show hq n _ = _; rw [List.drop_length]; rfl⟩
  case round =>
    obtain ⟨k, Q, hk, rfl, rfl, q0, q1, hh⟩ := hrel
    cases k with
    | zero =>
      have HR := Lib.hid (hqR_some (show hq n zs = some Q by simpa using hh.out))
      go_wp2
      go_ret2
      exact ⟨by rw [HR.out]; rfl, rfl⟩
    | succ k =>
      obtain ⟨g, rfl, qc⟩ := HC.out k (by omega)
      obtain ⟨z0, z1⟩ := nth_bd HB.out (j := k) (by omega)
      have HD := Lib.hid (hq_drop (show k < zs.length by omega) hh.out)
      have pb := prod_pm q0 q1 h0 h1
      obtain ⟨p0, p1⟩ := pb
      cases far : inB (Q * n + nth zs k) (-1000000000000000) 1000000000000000
      · have HR := Lib.hid (hqR_none (hq_none k (show hq n (zs.drop k) = none by rw [HD.out, far]; rfl)))
        go_wp2_with (go_at_call 66; refine (spec_l15In _ _).mono ?_; rintro e w' ⟨rfl, rfl⟩)
        go_ret2
        exact ⟨by rw [HR.out]; rfl, rfl⟩
      · have HS := Lib.hid (show hq n (zs.drop k) = some (Q * n + nth zs k) by rw [HD.out, far]; rfl)
        have fb := Lib.hid (inB_iff.1 far)
        go_wp2_with (go_at_call 66; refine (spec_l15In _ _).mono ?_; rintro e w' ⟨rfl, rfl⟩)
        go_round
        case rel => exact ⟨k, _, by omega, by first | rfl | go_num, rfl, fb.out.1, fb.out.2, HS.out⟩
        case measure => first | (simp [intOf]; done) | (simp [intOf]; omega)
set_option maxHeartbeats 2000000 in
theorem spec_FromPowers {B : Nat} {v : Value} {zs : List Int} (w : World) (h : Own w B v zs) :
    Calls Try.prog 24 #[v] w (RetOwnI w (fpR zs).1 (fpR zs).2) := by
  have HO := Lib.hid h
  obtain ⟨a, cap, rfl, hm, hcc⟩ := own_form h
  have HC := Lib.hid hcc; have HLT := Lib.hid (own_block_lt h); clear hcc h
  cases hv : coefB zs
  · rw [show fpR zs = ([], 1) from by simp [fpR, hv]]
    go_enter Try.func24, Try.ntmps24
    go_wp2_with fail
    refine (spec_l15Coefs _ HO.out).mono ?_; rintro e w' ⟨rfl, rfl⟩; rw [hv]
    go_wp2_with fail
    go_ret2
    exact ⟨_, rfl, own_nil, Below.refl _ _⟩
  have HR := Lib.hid (show fpR zs = (if fpOk zs zs.length then (if coefB (fpL zs) then (fpL zs, 0) else ([], 5)) else ([], 5)) from by simp [fpR, hv])
  obtain ⟨hbd, hl1, hl⟩ := coefB_parts hv
  have HB := Lib.hid hbd
  have HV := Lib.hid hv; clear hv hbd
  go_enter Try.func24, Try.ntmps24
  go_wp2_with fail
  refine (spec_l15Coefs _ HO.out).mono ?_; rintro e w' ⟨rfl, rfl⟩; rw [HV.out]
  go_wp2_with fail
  go_loopw [4, 5, 6, 7] (fun o i _ _ wr => ∃ j : Nat, j ≤ zs.length ∧ i = .int .i64 j ∧ Own wr w.heap.size o (fvals zs j) ∧ Below w.heap.size w wr ∧ w.heap.size ≤ wr.heap.size ∧ Hid (∀ k, k < j → (hqR (k : Int) zs).2 = true)) (fun _ i _ _ _ => (100 - intOf i).toNat)
  case atStart => exact ⟨0, Nat.zero_le _, rfl, own_empty _ _ (Nat.le_refl _), (Below.refl _ _).alloc (Nat.le_refl _) _, by simp, fun k hk => absurd hk (Nat.not_lt_zero _)⟩
  case round =>
    obtain ⟨j, hj, rfl, ho, hbw, hs, hinv⟩ := hrel
    have HOO := Lib.hid ho; have HBW := Lib.hid hbw; clear ho hbw
    have HO2 := Lib.hid (own_keep (HBW.out) HO.out)
    by_cases hlt : j < zs.length
    · cases hk : (hqR (j : Int) zs).2
      · have HF := Lib.hid (show fpR zs = ([], 5) from by rw [HR.out, fpOk_fail hlt hk]; rfl)
        have HK := Lib.hid hk; clear hk
        go_wp2_with fail
        refine (spec_l15Power _ _ HO2.out (by omega) (by omega) HV.out).mono ?_; rintro e w' ⟨rfl, rfl⟩
        rw [HK.out]
        go_wp2_with fail
        go_ret2
        exact ⟨_, by rw [HF.out]; rfl, by rw [HF.out]; exact own_nil, HBW.out⟩
      · have HK := Lib.hid hk; clear hk
        go_wp2_with fail
        refine (spec_l15Power _ _ HO2.out (by omega) (by omega) HV.out).mono ?_; rintro e w' ⟨rfl, rfl⟩
        rw [HK.out]
        go_wp2_with (at_builtin; refine wp_app rfl _ _ rfl _ _ (own_alloc HOO.out _) rfl rfl (by simp; rfl) (by rw [fvals_len]; omega) (by simp; omega) ?_; intro v' w2 ho' hg')
        obtain ⟨hb', hs'⟩ := app_below HBW.out HOO.out hg' (Nat.le_refl _) hs
        go_roundw
        case rel => exact ⟨j + 1, by omega, by go_num, by rw [fvals_succ]; exact ho', hb', hs', fun k hk => by by_cases e : k = j; exact e ▸ HK.out; exact hinv.out k (by omega)⟩
        case measure => first | (simp [intOf]; done) | (simp [intOf]; omega)
    · obtain rfl : j = zs.length := by omega
      have HOK := Lib.hid (fpOk_all hinv.out)
      have K := Lib.hid (fun wx vx (o : Own wx w.heap.size vx (fvals zs zs.length)) => show Calls Try.prog 51 #[vx, .int .i64 (zs.length : Int)] wx (RetOwn wx (lead (fvals zs zs.length) zs.length)) from spec_l15First zs.length wx o (by rw [fvals_len]; exact Nat.le_refl _) (by rw [fvals_len]; omega) (fvals_fits zs hl))
      go_wp2_with fail
      refine (K.out _ _ HOO.out).mono ?_; rintro e w2 ⟨v2, rfl, o2, b2⟩
      have O2 := Lib.hid (own_base o2 hs); have B2 := Lib.hid (HBW.out.trans (b2.mono hs)); clear o2 b2
      go_wp2_with fail
      refine (spec_l15Full _ O2.out).mono ?_; rintro e w' ⟨rfl, rfl⟩
      have HFL := Lib.hid (show fpL zs = lead (fvals zs zs.length) zs.length from rfl)
      cases hc : coefB (lead (fvals zs zs.length) zs.length)
      · have HF := Lib.hid (show fpR zs = ([], 5) from by rw [HR.out, HOK.out, HFL.out, hc]; rfl)
        have HK := Lib.hid hc; clear hc
        go_wp2_with fail
        go_ret2
        exact ⟨_, by rw [HF.out]; rfl, by rw [HF.out]; exact own_nil, B2.out⟩
      · have HF := Lib.hid (show fpR zs = (lead (fvals zs zs.length) zs.length, 0) from by rw [HR.out, HOK.out, HFL.out, hc]; rfl)
        have HK := Lib.hid hc; clear hc
        go_wp2_with fail
        go_ret2
        exact ⟨_, by rw [HF.out]; rfl, by rw [HF.out]; exact O2.out, B2.out⟩
set_option maxHeartbeats 2000000 in
theorem impl_FromPowers {B : Nat} {v : Value} {zs : List Int} (w : World) (h : Own w B v zs) :
    Calls Try.prog 25 #[v] w (RetOwnI w (fpR zs).1 (fpR zs).2) := by
  have HO := Lib.hid h
  obtain ⟨a, cap, rfl, hm, hcc⟩ := own_form h
  have HC := Lib.hid hcc; have HLT := Lib.hid (own_block_lt h); clear hcc h
  cases hv : coefB zs
  · rw [show fpR zs = ([], 1) from by simp [fpR, hv]]
    go_enter Try.func25, Try.ntmps25
    go_wp2_with fail
    refine (impl_areCoefs _ HO.out).mono ?_; rintro e w' ⟨rfl, rfl⟩; rw [hv]
    go_wp2_with fail
    go_ret2
    exact ⟨_, rfl, own_nil, Below.refl _ _⟩
  have HR := Lib.hid (show fpR zs = (if fpOk zs zs.length then (if coefB (fpL zs) then (fpL zs, 0) else ([], 5)) else ([], 5)) from by simp [fpR, hv])
  obtain ⟨hbd, hl1, hl⟩ := coefB_parts hv
  have HB := Lib.hid hbd
  have HV := Lib.hid hv; clear hv hbd
  go_enter Try.func25, Try.ntmps25
  go_wp2_with fail
  refine (impl_areCoefs _ HO.out).mono ?_; rintro e w' ⟨rfl, rfl⟩; rw [HV.out]
  go_wp2_with fail
  go_loopw [4, 5, 6, 7, 15] (fun o _ _ _ i wr => ∃ j : Nat, j ≤ zs.length ∧ i = .int .i64 j ∧ Own wr w.heap.size o (fvals zs j) ∧ Below w.heap.size w wr ∧ w.heap.size ≤ wr.heap.size ∧ Hid (∀ k, k < j → (hqR (k : Int) zs).2 = true)) (fun _ _ _ _ i _ => (100 - intOf i).toNat)
  case atStart => exact ⟨0, Nat.zero_le _, rfl, own_empty _ _ (Nat.le_refl _), (Below.refl _ _).alloc (Nat.le_refl _) _, by simp, fun k hk => absurd hk (Nat.not_lt_zero _)⟩
  case round =>
    obtain ⟨j, hj, rfl, ho, hbw, hs, hinv⟩ := hrel
    have HOO := Lib.hid ho; have HBW := Lib.hid hbw; clear ho hbw
    have HO2 := Lib.hid (own_keep (HBW.out) HO.out)
    by_cases hlt : j < zs.length
    · obtain ⟨wo, hwo⟩ : ∃ wo : World, wo = wr := ⟨_, rfl⟩
      subst hwo
      go_wp2_with fail
      go_loop [6, 7] (fun q kk => ∃ (k : Nat) (Q : Int), k ≤ zs.length ∧ kk = .int .i64 ((k : Int) - 1) ∧ q = .int .i64 Q ∧ -1000000000000000 ≤ Q ∧ Q ≤ 1000000000000000 ∧ Hid (hq j (zs.drop k) = some Q)) (fun _ kk => (intOf kk + 1).toNat)
      case atStart => exact ⟨zs.length, 0, Nat.le_refl _, rfl, rfl, by omega, by omega, by show hq _ _ = _; rw [List.drop_length]; rfl⟩
      case round =>
        obtain ⟨k, Q, hk, rfl, rfl, q0, q1, hh⟩ := hrel
        cases k with
        | zero =>
          have HQ := Lib.hid (hqR_some (show hq (j : Int) zs = some Q by simpa using hh.out))
          go_wp2_with (at_builtin; refine wp_app rfl _ _ rfl _ _ (own_alloc HOO.out _) rfl rfl (by simp; rfl) (by rw [fvals_len]; omega) (by simp; omega) ?_; intro v' w2 ho' hg')
          obtain ⟨hb', hs'⟩ := app_below HBW.out HOO.out hg' (Nat.le_refl _) hs
          go_roundw
          case rel => exact ⟨j + 1, by omega, by go_num, by rw [fvals_succ, HQ.out]; exact ho', hb', hs', fun k hk => by by_cases e : k = j; exact e ▸ (by rw [HQ.out]); exact hinv.out k (by omega)⟩
          case measure => first | (simp [intOf]; done) | (simp [intOf]; omega)
        | succ k =>
          obtain ⟨g, rfl, qc⟩ := HC.out k (by omega)
          have gl := (HLT.out g rfl).2
          have qd : wo.cell? ⟨g, k, none⟩ = some (.int .i64 (nth zs k)) := by rw [HBW.out.cell (p := ⟨g, k, none⟩) gl]; exact qc
          clear qc
          obtain ⟨z0, z1⟩ := nth_bd HB.out (j := k) (by omega)
          have HD := Lib.hid (hq_drop (show k < zs.length by omega) hh.out)
          have pb := prod_pm q0 q1 (show (0 : Int) ≤ (j : Int) by omega) (show (j : Int) ≤ 9 by omega)
          obtain ⟨p0, p1⟩ := pb
          cases far : inB (Q * (j : Int) + nth zs k) (-1000000000000000) 1000000000000000
          · have HF := Lib.hid (show fpR zs = ([], 5) from by rw [HR.out, fpOk_fail hlt (by rw [hqR_none (hq_none k (show hq (j : Int) (zs.drop k) = none by rw [HD.out, far]; rfl))])]; rfl)
            go_wp2_with (go_at_call 52; refine (impl_isFar _ _).mono ?_; rintro e w' ⟨rfl, rfl⟩)
            go_ret2
            exact ⟨_, by rw [HF.out]; rfl, by rw [HF.out]; exact own_nil, HBW.out⟩
          · have HS := Lib.hid (show hq (j : Int) (zs.drop k) = some (Q * (j : Int) + nth zs k) by rw [HD.out, far]; rfl)
            have fb := Lib.hid (inB_iff.1 far)
            go_wp2_with (go_at_call 52; refine (impl_isFar _ _).mono ?_; rintro e w' ⟨rfl, rfl⟩)
            go_round
            case rel => exact ⟨k, _, by omega, by first | rfl | go_num, rfl, fb.out.1, fb.out.2, HS.out⟩
            case measure => first | (simp [intOf]; done) | (simp [intOf]; omega)
    · obtain rfl : j = zs.length := by omega
      have HOK := Lib.hid (fpOk_all hinv.out)
      have K := Lib.hid (fun wx vx (o : Own wx w.heap.size vx (fvals zs zs.length)) => show Calls Try.prog 53 #[vx, .int .i64 (zs.length : Int)] wx (RetOwn wx (lead (fvals zs zs.length) zs.length)) from impl_leading zs.length wx o (by rw [fvals_len]; exact Nat.le_refl _) (by rw [fvals_len]; omega) (fvals_fits zs hl))
      go_wp2_with fail
      refine (K.out _ _ HOO.out).mono ?_; rintro e w2 ⟨v2, rfl, o2, b2⟩
      have O2 := Lib.hid (own_base o2 hs); have B2 := Lib.hid (HBW.out.trans (b2.mono hs)); clear o2 b2
      go_wp2_with fail
      refine (impl_areCoefs _ O2.out).mono ?_; rintro e w' ⟨rfl, rfl⟩
      have HFL := Lib.hid (show fpL zs = lead (fvals zs zs.length) zs.length from rfl)
      cases hc : coefB (lead (fvals zs zs.length) zs.length)
      · have HF := Lib.hid (show fpR zs = ([], 5) from by rw [HR.out, HOK.out, HFL.out, hc]; rfl)
        have HK := Lib.hid hc; clear hc
        go_wp2_with fail
        go_ret2
        exact ⟨_, by rw [HF.out]; rfl, by rw [HF.out]; exact own_nil, B2.out⟩
      · have HF := Lib.hid (show fpR zs = (lead (fvals zs zs.length) zs.length, 0) from by rw [HR.out, HOK.out, HFL.out, hc]; rfl)
        have HK := Lib.hid hc; clear hc
        go_wp2_with fail
        go_ret2
        exact ⟨_, by rw [HF.out]; rfl, by rw [HF.out]; exact O2.out, B2.out⟩
end Go.Proofs.Ytgmgdjdpmjmmhaa
