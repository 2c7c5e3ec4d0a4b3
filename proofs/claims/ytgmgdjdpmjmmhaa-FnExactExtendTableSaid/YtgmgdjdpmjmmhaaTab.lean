/- Values of a polynomial and tables of them: the laws' functions. -/
import Derived.IntWalk
import Derived.Test.YtgmgdjdpmjmmhaaNv
namespace Go.Proofs.Ytgmgdjdpmjmmhaa
open Go.ChangeShapes Go.WideShapes Go.ChangeAt Go.RowKit
def nvalR (cs : List Int) (x : Int) : Int × Int := if coefB cs then (if inB x 0 1000 then (if (nvR cs x.toNat).2 then ((nvR cs x.toNat).1, 0) else (0, 5)) else (0, 2)) else (0, 1)
def tab (cs : List Int) (m : Nat) : List Int := (List.range m).map fun k : Nat => (nvR cs k).1
def tabOk (cs : List Int) (m : Nat) : Bool := (List.range m).all fun k : Nat => (nvR cs k).2 && isE (nvR cs k).1
def tabR (cs : List Int) (n : Int) : List Int × Int := if coefB cs then (if inB n 1 30 then (if tabOk cs n.toNat then (tab cs n.toNat, 0) else ([], 5)) else ([], 2)) else ([], 1)
theorem tab_len (cs : List Int) (m : Nat) : (tab cs m).length = m := by simp [tab]
theorem tab_succ (cs : List Int) (m : Nat) : tab cs (m + 1) = tab cs m ++ [(nvR cs m).1] := by simp [tab, List.range_succ]
theorem tabR_len (cs : List Int) (n : Int) : (tabR cs n).1.length ≤ 1000 := by
  unfold tabR
  split
  · split
    · rename_i h; have := inB_iff.1 h
      split
      · rw [tab_len]; omega
      · simp
    · simp
  · simp
theorem tabOk_fail {cs : List Int} {m j : Nat} (hj : j < m) (h : ((nvR cs j).2 && isE (nvR cs j).1) = false) : tabOk cs m = false := by
  rw [Bool.eq_false_iff]; intro e
  have := (List.all_eq_true.1 e) j (List.mem_range.2 hj)
  rw [h] at this; cases this
theorem tabOk_all {cs : List Int} {m : Nat} (h : ∀ k, k < m → (nvR cs k).2 = true ∧ isE (nvR cs k).1 = true) : tabOk cs m = true := by
  unfold tabOk; rw [List.all_eq_true]; intro k hk
  have := h k (List.mem_range.1 hk); simp [this.1, this.2]
theorem tabOk_val {cs : List Int} {m : Nat} (h1 : 1 ≤ m) (h2 : m ≤ 30) (h : ∀ k, k < m → (nvR cs k).2 = true) : valB (tab cs m) = tabOk cs m := by
  have e : (tab cs m).all isE = tabOk cs m := by
    unfold tab tabOk
    rw [List.all_map]
    rw [Bool.eq_iff_iff, List.all_eq_true, List.all_eq_true]
    constructor
    · intro g k hk; have a := g k hk; have b := h k (List.mem_range.1 hk); simp only [Function.comp_apply] at a; simp [a, b]
    · intro g k hk; have a := g k hk; simp only [Bool.and_eq_true] at a; simpa using a.2
  unfold valB; rw [e, tab_len, inB_true (by omega) (by omega), Bool.and_true]
theorem impl_NewtonValue {B : Nat} {v : Value} {zs : List Int} (n : Int) (w : World) (h : Own w B v zs) :
    Calls Try.prog 23 #[v, .int .i64 n] w (RetV w (.tuple #[.int .i64 (nvalR zs n).1, .int .i64 (nvalR zs n).2])) := by
  have HO := Lib.hid h; clear h
  cases hv : coefB zs
  · rw [show nvalR zs n = (0, 1) from by simp [nvalR, hv]]
    go_enter Try.func23, Try.ntmps23
    go_wp2_with fail
    refine (impl_areCoefs _ HO.out).mono ?_; rintro e w' ⟨rfl, rfl⟩; rw [hv]
    go_wp2_with fail
    go_ret2
    exact ⟨rfl, Below.refl _ _⟩
  cases hn : inB n 0 1000
  · rw [show nvalR zs n = (0, 2) from by simp [nvalR, hv, hn]]
    go_enter Try.func23, Try.ntmps23
    go_wp2_with fail
    refine (impl_areCoefs _ HO.out).mono ?_; rintro e w' ⟨rfl, rfl⟩; rw [hv]
    go_wp2_with fail
    refine (impl_between _ _ _ _).mono ?_; rintro e w' ⟨rfl, rfl⟩; rw [hn]
    go_wp2_with fail
    go_ret2
    exact ⟨rfl, Below.refl _ _⟩
  obtain ⟨n0, n1⟩ := inB_iff.1 hn
  have HR := Lib.hid (show nvalR zs n = (if (nvR zs n.toNat).2 then ((nvR zs n.toNat).1, 0) else (0, 5)) from by simp [nvalR, hv, hn])
  have HV := Lib.hid hv; clear hv
  cases ho : (nvR zs n.toNat).2
  all_goals
    rw [HR.out, ho]
    go_enter Try.func23, Try.ntmps23
    go_wp2_with fail
    refine (impl_areCoefs _ HO.out).mono ?_; rintro e w' ⟨rfl, rfl⟩; rw [HV.out]
    go_wp2_with fail
    refine (impl_between _ _ _ _).mono ?_; rintro e w' ⟨rfl, rfl⟩; rw [hn]
    go_wp2_with fail
    refine (impl_newtonValue _ _ HO.out n0 n1 HV.out).mono ?_; rintro e w' ⟨rfl, rfl⟩; rw [ho]
    go_wp2_with fail
    go_ret2
    exact ⟨rfl, Below.refl _ _⟩
theorem spec_NewtonValue {B : Nat} {v : Value} {zs : List Int} (n : Int) (w : World) (h : Own w B v zs) :
    Calls Try.prog 22 #[v, .int .i64 n] w (RetV w (.tuple #[.int .i64 (nvalR zs n).1, .int .i64 (nvalR zs n).2])) := by
  have HO := Lib.hid h; clear h
  cases hv : coefB zs
  · rw [show nvalR zs n = (0, 1) from by simp [nvalR, hv]]
    go_enter Try.func22, Try.ntmps22
    go_wp2_with fail
    refine (spec_l15Coefs _ HO.out).mono ?_; rintro e w' ⟨rfl, rfl⟩; rw [hv]
    go_wp2_with fail
    go_ret2
    exact ⟨rfl, Below.refl _ _⟩
  cases hn : inB n 0 1000
  · rw [show nvalR zs n = (0, 2) from by simp [nvalR, hv, hn]]
    go_enter Try.func22, Try.ntmps22
    go_wp2_with fail
    refine (spec_l15Coefs _ HO.out).mono ?_; rintro e w' ⟨rfl, rfl⟩; rw [hv]
    go_wp2_with fail
    refine (spec_l00In _ _ _ _).mono ?_; rintro e w' ⟨rfl, rfl⟩; rw [hn]
    go_wp2_with fail
    go_ret2
    exact ⟨rfl, Below.refl _ _⟩
  obtain ⟨n0, n1⟩ := inB_iff.1 hn
  have HR := Lib.hid (show nvalR zs n = (if (nvR zs n.toNat).2 then ((nvR zs n.toNat).1, 0) else (0, 5)) from by simp [nvalR, hv, hn])
  have HV := Lib.hid hv; clear hv
  cases ho : (nvR zs n.toNat).2
  all_goals
    rw [HR.out, ho]
    go_enter Try.func22, Try.ntmps22
    go_wp2_with fail
    refine (spec_l15Coefs _ HO.out).mono ?_; rintro e w' ⟨rfl, rfl⟩; rw [HV.out]
    go_wp2_with fail
    refine (spec_l00In _ _ _ _).mono ?_; rintro e w' ⟨rfl, rfl⟩; rw [hn]
    go_wp2_with fail
    refine (spec_l15Value _ _ HO.out n0 n1 HV.out).mono ?_; rintro e w' ⟨rfl, rfl⟩; rw [ho]
    go_wp2_with fail
    go_ret2
    exact ⟨rfl, Below.refl _ _⟩
set_option maxHeartbeats 1000000 in
theorem impl_TabulateNewton {B : Nat} {v : Value} {zs : List Int} (n : Int) (w : World) (h : Own w B v zs) :
    Calls Try.prog 27 #[v, .int .i64 n] w (RetOwnI w (tabR zs n).1 (tabR zs n).2) := by
  have HO := Lib.hid h; clear h
  cases hv : coefB zs
  · rw [show tabR zs n = ([], 1) from by simp [tabR, hv]]
    go_enter Try.func27, Try.ntmps27
    go_wp2_with fail
    refine (impl_areCoefs _ HO.out).mono ?_; rintro e w' ⟨rfl, rfl⟩; rw [hv]
    go_wp2_with fail
    go_ret2
    exact ⟨_, rfl, own_nil, Below.refl _ _⟩
  cases hn : inB n 1 30
  · rw [show tabR zs n = ([], 2) from by simp [tabR, hv, hn]]
    go_enter Try.func27, Try.ntmps27
    go_wp2_with fail
    refine (impl_areCoefs _ HO.out).mono ?_; rintro e w' ⟨rfl, rfl⟩; rw [hv]
    go_wp2_with fail
    refine (impl_between _ _ _ _).mono ?_; rintro e w' ⟨rfl, rfl⟩; rw [hn]
    go_wp2_with fail
    go_ret2
    exact ⟨_, rfl, own_nil, Below.refl _ _⟩
  obtain ⟨n0, n1⟩ := inB_iff.1 hn
  have HR := Lib.hid (show tabR zs n = (if tabOk zs n.toNat then (tab zs n.toNat, 0) else ([], 5)) from by simp [tabR, hv, hn])
  have HV := Lib.hid hv; clear hv
  go_enter Try.func27, Try.ntmps27
  go_wp2_with fail
  refine (impl_areCoefs _ HO.out).mono ?_; rintro e w' ⟨rfl, rfl⟩; rw [HV.out]
  go_wp2_with fail
  refine (impl_between _ _ _ _).mono ?_; rintro e w' ⟨rfl, rfl⟩; rw [hn]
  go_wp2_with fail
  go_loopw [6, 7, 8, 9, 18] (fun o _ _ _ i wr => ∃ j : Nat, (j : Int) ≤ n ∧ i = .int .i64 j ∧ Own wr w.heap.size o (tab zs j) ∧ Below w.heap.size w wr ∧ w.heap.size ≤ wr.heap.size ∧ Hid (∀ k, k < j → (nvR zs k).2 = true)) (fun _ _ _ _ i _ => (100 - intOf i).toNat)
  case atStart => exact ⟨0, by omega, rfl, own_empty _ _ (Nat.le_refl _), (Below.refl _ _).alloc (Nat.le_refl _) _, by simp, fun k hk => absurd hk (Nat.not_lt_zero _)⟩
  case round =>
    obtain ⟨j, hj, rfl, ho, hbw, hs, hinv⟩ := hrel
    have HOO := Lib.hid ho; have HBW := Lib.hid hbw; clear ho hbw
    have HO2 := Lib.hid (own_keep (HBW.out) HO.out)
    by_cases hlt : (j : Int) < n
    · cases hk : (nvR zs j).2
      · have HF := Lib.hid (show tabR zs n = ([], 5) from by rw [HR.out, tabOk_fail (show j < n.toNat by omega) (by rw [hk]; rfl)]; rfl)
        have HK := Lib.hid hk; clear hk
        go_wp2_with fail
        refine (impl_newtonValue _ _ HO2.out (by omega) (by omega) HV.out).mono ?_; rintro e w' ⟨rfl, rfl⟩
        rw [Int.toNat_natCast, HK.out]
        go_wp2_with fail
        go_ret2
        exact ⟨_, by rw [HF.out]; rfl, by rw [HF.out]; exact own_nil, HBW.out⟩
      · have HK := Lib.hid hk; clear hk
        go_wp2_with fail
        refine (impl_newtonValue _ _ HO2.out (by omega) (by omega) HV.out).mono ?_; rintro e w' ⟨rfl, rfl⟩
        rw [Int.toNat_natCast, HK.out]
        go_wp2_with (at_builtin; refine wp_app rfl _ _ rfl _ _ (own_alloc HOO.out _) rfl rfl (by simp; rfl) (by rw [tab_len]; omega) (by simp; omega) ?_; intro v' w2 ho' hg')
        obtain ⟨hb', hs'⟩ := app_below HBW.out HOO.out hg' (Nat.le_refl _) hs
        go_roundw
        case rel => exact ⟨j + 1, by omega, by go_num, by rw [tab_succ]; exact ho', hb', hs', fun k hk => by by_cases e : k = j; exact e ▸ HK.out; exact hinv.out k (by omega)⟩
        case measure => first | (simp [intOf]; done) | (simp [intOf]; omega)
    · have E : n.toNat = j := by omega
      have HT := Lib.hid (tabOk_val (cs := zs) (m := j) (by omega) (by omega) hinv.out)
      have HE := Lib.hid E; clear E
      cases hok : tabOk zs j
      · have HF := Lib.hid (show tabR zs n = ([], 5) from by rw [HR.out, HE.out, hok]; rfl)
        have HK := Lib.hid (HT.out.trans hok); clear hok
        go_wp2_with fail
        refine (impl_areValues _ HOO.out).mono ?_; rintro e w' ⟨rfl, rfl⟩
        rw [HK.out]
        go_wp2_with fail
        go_ret2
        exact ⟨_, by rw [HF.out]; rfl, by rw [HF.out]; exact own_nil, HBW.out⟩
      · have HF := Lib.hid (show tabR zs n = (tab zs j, 0) from by rw [HR.out, HE.out, hok]; rfl)
        have HK := Lib.hid (HT.out.trans hok); clear hok
        go_wp2_with fail
        refine (impl_areValues _ HOO.out).mono ?_; rintro e w' ⟨rfl, rfl⟩
        rw [HK.out]
        go_wp2_with fail
        go_ret2
        exact ⟨_, by rw [HF.out]; rfl, by rw [HF.out]; exact HOO.out, HBW.out⟩
set_option maxHeartbeats 1000000 in
theorem spec_TabulateNewton {B : Nat} {v : Value} {zs : List Int} (n : Int) (w : World) (h : Own w B v zs) :
    Calls Try.prog 26 #[v, .int .i64 n] w (RetOwnI w (tabR zs n).1 (tabR zs n).2) := by
  have HO := Lib.hid h; clear h
  cases hv : coefB zs
  · rw [show tabR zs n = ([], 1) from by simp [tabR, hv]]
    go_enter Try.func26, Try.ntmps26
    go_wp2_with fail
    refine (spec_l15Coefs _ HO.out).mono ?_; rintro e w' ⟨rfl, rfl⟩; rw [hv]
    go_wp2_with fail
    go_ret2
    exact ⟨_, rfl, own_nil, Below.refl _ _⟩
  cases hn : inB n 1 30
  · rw [show tabR zs n = ([], 2) from by simp [tabR, hv, hn]]
    go_enter Try.func26, Try.ntmps26
    go_wp2_with fail
    refine (spec_l15Coefs _ HO.out).mono ?_; rintro e w' ⟨rfl, rfl⟩; rw [hv]
    go_wp2_with fail
    refine (spec_l00In _ _ _ _).mono ?_; rintro e w' ⟨rfl, rfl⟩; rw [hn]
    go_wp2_with fail
    go_ret2
    exact ⟨_, rfl, own_nil, Below.refl _ _⟩
  obtain ⟨n0, n1⟩ := inB_iff.1 hn
  have HR := Lib.hid (show tabR zs n = (if tabOk zs n.toNat then (tab zs n.toNat, 0) else ([], 5)) from by simp [tabR, hv, hn])
  have HV := Lib.hid hv; clear hv
  go_enter Try.func26, Try.ntmps26
  go_wp2_with fail
  refine (spec_l15Coefs _ HO.out).mono ?_; rintro e w' ⟨rfl, rfl⟩; rw [HV.out]
  go_wp2_with fail
  refine (spec_l00In _ _ _ _).mono ?_; rintro e w' ⟨rfl, rfl⟩; rw [hn]
  go_wp2_with fail
  go_loopw [6, 7, 8, 9] (fun o i _ _ wr => ∃ j : Nat, (j : Int) ≤ n ∧ i = .int .i64 j ∧ Own wr w.heap.size o (tab zs j) ∧ Below w.heap.size w wr ∧ w.heap.size ≤ wr.heap.size ∧ Hid (∀ k, k < j → (nvR zs k).2 = true ∧ isE (nvR zs k).1 = true)) (fun _ i _ _ _ => (100 - intOf i).toNat)
  case atStart => exact ⟨0, by omega, rfl, own_empty _ _ (Nat.le_refl _), (Below.refl _ _).alloc (Nat.le_refl _) _, by simp, fun k hk => absurd hk (Nat.not_lt_zero _)⟩
  case round =>
    obtain ⟨j, hj, rfl, ho, hbw, hs, hinv⟩ := hrel
    have HOO := Lib.hid ho; have HBW := Lib.hid hbw; clear ho hbw
    have HO2 := Lib.hid (own_keep (HBW.out) HO.out)
    by_cases hlt : (j : Int) < n
    · cases hk : (nvR zs j).2
      · have HF := Lib.hid (show tabR zs n = ([], 5) from by rw [HR.out, tabOk_fail (show j < n.toNat by omega) (by rw [hk]; rfl)]; rfl)
        have HK := Lib.hid hk; clear hk
        go_wp2_with fail
        refine (spec_l15Value _ _ HO2.out (by omega) (by omega) HV.out).mono ?_; rintro e w' ⟨rfl, rfl⟩
        rw [Int.toNat_natCast, HK.out]
        go_wp2_with fail
        go_ret2
        exact ⟨_, by rw [HF.out]; rfl, by rw [HF.out]; exact own_nil, HBW.out⟩
      · have HK := Lib.hid hk; clear hk
        cases hie : isE (nvR zs j).1
        · have HF := Lib.hid (show tabR zs n = ([], 5) from by rw [HR.out, tabOk_fail (show j < n.toNat by omega) (by rw [hie, Bool.and_false])]; rfl)
          have HI := Lib.hid (show inB (nvR zs j).1 (-1000000000) 1000000000 = false from hie); clear hie
          go_wp2_with fail
          refine (spec_l15Value _ _ HO2.out (by omega) (by omega) HV.out).mono ?_; rintro e w' ⟨rfl, rfl⟩
          rw [Int.toNat_natCast, HK.out]
          go_wp2_with fail
          refine (spec_l00In _ _ _ _).mono ?_; rintro e w' ⟨rfl, rfl⟩; rw [HI.out]
          go_wp2_with fail
          go_ret2
          exact ⟨_, by rw [HF.out]; rfl, by rw [HF.out]; exact own_nil, HBW.out⟩
        · have HIE := Lib.hid hie
          have HI := Lib.hid (show inB (nvR zs j).1 (-1000000000) 1000000000 = true from hie); clear hie
          go_wp2_with fail
          refine (spec_l15Value _ _ HO2.out (by omega) (by omega) HV.out).mono ?_; rintro e w' ⟨rfl, rfl⟩
          rw [Int.toNat_natCast, HK.out]
          go_wp2_with fail
          refine (spec_l00In _ _ _ _).mono ?_; rintro e w' ⟨rfl, rfl⟩; rw [HI.out]
          go_wp2_with (at_builtin; refine wp_app rfl _ _ rfl _ _ (own_alloc HOO.out _) rfl rfl (by simp; rfl) (by rw [tab_len]; omega) (by simp; omega) ?_; intro v' w2 ho' hg')
          obtain ⟨hb', hs'⟩ := app_below HBW.out HOO.out hg' (Nat.le_refl _) hs
          go_roundw
          case rel => exact ⟨j + 1, by omega, by go_num, by rw [tab_succ]; exact ho', hb', hs', fun k hk => by by_cases e : k = j; exact e ▸ ⟨HK.out, HIE.out⟩; exact hinv.out k (by omega)⟩
          case measure => first | (simp [intOf]; done) | (simp [intOf]; omega)
    · have E : n.toNat = j := by omega
      have HF := Lib.hid (show tabR zs n = (tab zs j, 0) from by rw [HR.out, E, tabOk_all hinv.out]; rfl)
      clear E
      go_wp2_with fail
      go_ret2
      exact ⟨_, by rw [HF.out]; rfl, by rw [HF.out]; exact HOO.out, HBW.out⟩
end Go.Proofs.Ytgmgdjdpmjmmhaa
