/- Differences of an order, degree, first differences: the laws' functions. -/
import Derived.IntWalk
import Derived.Test.YtgmgdjdpmjmmhaaDifB
namespace Go.Proofs.Ytgmgdjdpmjmmhaa
open Go.ChangeShapes Go.WideShapes Go.ChangeAt Go.RowKit
theorem fitsV {zs : List Int} (h : valB zs = true) : ∀ j, bdd 1000000000000000000 (difN zs j) := fun j => difN_fits (valB_parts h).2.2 (valB_parts h).1 j
def difR (zs : List Int) (n : Int) : List Int × Int := if valB zs then (if inB n 0 (zs.length - 1) then (difN zs n.toNat, 0) else ([], 2)) else ([], 1)
theorem difR_len (zs : List Int) (n : Int) : (difR zs n).1.length ≤ 1000 := by
  unfold difR
  split
  · rename_i h
    have := (valB_parts h).2.2
    split
    · rw [difN_len]; omega
    · simp
  · simp
set_option maxHeartbeats 400000 in
theorem impl_DifferencesOf {B : Nat} {v : Value} {zs : List Int} (n : Int) (w : World) (h : Own w B v zs) :
    Calls Try.prog 19 #[v, .int .i64 n] w (RetOwnI w (difR zs n).1 (difR zs n).2) := by
  have HO := Lib.hid h
  obtain ⟨a, cap, rfl, hm, -⟩ := own_form h
  clear h
  cases hv : valB zs
  · rw [show difR zs n = ([], 1) from by simp [difR, hv]]
    go_enter Try.func19, Try.ntmps19
    go_wp2_with fail
    refine (impl_areValues _ HO.out).mono ?_; rintro e w' ⟨rfl, rfl⟩; rw [hv]
    go_wp2_with fail
    go_ret2
    exact ⟨_, rfl, own_nil, Below.refl _ _⟩
  obtain ⟨hb, hl1, hl⟩ := valB_parts hv
  have HBD := Lib.hid (fitsV hv); have HBB := Lib.hid hb; clear hb
  cases hn : inB n 0 (zs.length - 1)
  · rw [show difR zs n = ([], 2) from by simp [difR, hv, hn]]
    go_enter Try.func19, Try.ntmps19
    go_wp2_with fail
    refine (impl_areValues _ HO.out).mono ?_; rintro e w' ⟨rfl, rfl⟩; rw [hv]
    go_wp2_with fail
    refine (impl_between _ _ _ _).mono ?_; rintro e w' ⟨rfl, rfl⟩; rw [hn]
    go_wp2_with fail
    go_ret2
    exact ⟨_, rfl, own_nil, Below.refl _ _⟩
  obtain ⟨n0, n1⟩ := inB_iff.1 hn
  rw [show difR zs n = (difN zs n.toNat, 0) from by simp [difR, hv, hn]]
  go_enter Try.func19, Try.ntmps19
  go_wp2_with fail
  refine (impl_areValues _ HO.out).mono ?_; rintro e w' ⟨rfl, rfl⟩; rw [hv]
  go_wp2_with fail
  refine (impl_between _ _ _ _).mono ?_; rintro e w' ⟨rfl, rfl⟩; rw [hn]
  go_wp2_with fail
  refine (impl_differences _ _ HO.out n0 (by omega) hl HBD.out).mono ?_; rintro e w1 ⟨v1, rfl, o1, b1⟩
  have O1 := Lib.hid o1; have B1 := Lib.hid b1; clear o1 b1
  go_wp2_with fail
  go_ret2
  exact ⟨_, rfl, O1.out, B1.out⟩
set_option maxHeartbeats 400000 in
theorem spec_DifferencesOf {B : Nat} {v : Value} {zs : List Int} (n : Int) (w : World) (h : Own w B v zs) :
    Calls Try.prog 18 #[v, .int .i64 n] w (RetOwnI w (difR zs n).1 (difR zs n).2) := by
  have HO := Lib.hid h
  obtain ⟨a, cap, rfl, hm, -⟩ := own_form h
  clear h
  cases hv : valB zs
  · rw [show difR zs n = ([], 1) from by simp [difR, hv]]
    go_enter Try.func18, Try.ntmps18
    go_wp2_with fail
    refine (spec_l15Values _ HO.out).mono ?_; rintro e w' ⟨rfl, rfl⟩; rw [hv]
    go_wp2_with fail
    go_ret2
    exact ⟨_, rfl, own_nil, Below.refl _ _⟩
  obtain ⟨hb, hl1, hl⟩ := valB_parts hv
  have HBD := Lib.hid (fitsV hv); have HBB := Lib.hid hb; clear hb
  cases hn : inB n 0 (zs.length - 1)
  · rw [show difR zs n = ([], 2) from by simp [difR, hv, hn]]
    go_enter Try.func18, Try.ntmps18
    go_wp2_with fail
    refine (spec_l15Values _ HO.out).mono ?_; rintro e w' ⟨rfl, rfl⟩; rw [hv]
    go_wp2_with fail
    refine (spec_l00In _ _ _ _).mono ?_; rintro e w' ⟨rfl, rfl⟩; rw [hn]
    go_wp2_with fail
    go_ret2
    exact ⟨_, rfl, own_nil, Below.refl _ _⟩
  obtain ⟨n0, n1⟩ := inB_iff.1 hn
  rw [show difR zs n = (difN zs n.toNat, 0) from by simp [difR, hv, hn]]
  go_enter Try.func18, Try.ntmps18
  go_wp2_with fail
  refine (spec_l15Values _ HO.out).mono ?_; rintro e w' ⟨rfl, rfl⟩; rw [hv]
  go_wp2_with fail
  refine (spec_l00In _ _ _ _).mono ?_; rintro e w' ⟨rfl, rfl⟩; rw [hn]
  go_wp2_with fail
  refine (spec_l15Order _ _ HO.out n0 (by omega) hl HBD.out).mono ?_; rintro e w1 ⟨v1, rfl, o1, b1⟩
  have O1 := Lib.hid o1; have B1 := Lib.hid b1; clear o1 b1
  go_wp2_with fail
  go_ret2
  exact ⟨_, rfl, O1.out, B1.out⟩
def degR (zs : List Int) : Int × Int := if valB zs then ((degOf zs : Int), 0) else (0, 1)
theorem impl_DegreeOf {B : Nat} {v : Value} {zs : List Int} (w : World) (h : Own w B v zs) :
    Calls Try.prog 21 #[v] w (RetV w (.tuple #[.int .i64 (degR zs).1, .int .i64 (degR zs).2])) := by
  have HO := Lib.hid h; clear h
  cases hv : valB zs
  · rw [show degR zs = (0, 1) from by simp [degR, hv]]
    go_enter Try.func21, Try.ntmps21
    go_wp2_with fail
    refine (impl_areValues _ HO.out).mono ?_; rintro e w' ⟨rfl, rfl⟩; rw [hv]
    go_wp2_with fail
    go_ret2
    exact ⟨rfl, Below.refl _ _⟩
  obtain ⟨hb, hl1, hl⟩ := valB_parts hv
  have HBD := Lib.hid (fitsV hv); clear hb
  rw [show degR zs = ((degOf zs : Int), 0) from by simp [degR, hv]]
  go_enter Try.func21, Try.ntmps21
  go_wp2_with fail
  refine (impl_areValues _ HO.out).mono ?_; rintro e w' ⟨rfl, rfl⟩; rw [hv]
  go_wp2_with fail
  refine (impl_degreeOf _ HO.out hl1 hl HBD.out).mono ?_; rintro e w1 ⟨rfl, b1⟩
  have B1 := Lib.hid b1; clear b1
  go_wp2_with fail
  go_ret2
  exact ⟨rfl, B1.out⟩
theorem spec_DegreeOf {B : Nat} {v : Value} {zs : List Int} (w : World) (h : Own w B v zs) :
    Calls Try.prog 20 #[v] w (RetV w (.tuple #[.int .i64 (degR zs).1, .int .i64 (degR zs).2])) := by
  have HO := Lib.hid h; clear h
  cases hv : valB zs
  · rw [show degR zs = (0, 1) from by simp [degR, hv]]
    go_enter Try.func20, Try.ntmps20
    go_wp2_with fail
    refine (spec_l15Values _ HO.out).mono ?_; rintro e w' ⟨rfl, rfl⟩; rw [hv]
    go_wp2_with fail
    go_ret2
    exact ⟨rfl, Below.refl _ _⟩
  obtain ⟨hb, hl1, hl⟩ := valB_parts hv
  have HBD := Lib.hid (fitsV hv); clear hb
  rw [show degR zs = ((degOf zs : Int), 0) from by simp [degR, hv]]
  go_enter Try.func20, Try.ntmps20
  go_wp2_with fail
  refine (spec_l15Values _ HO.out).mono ?_; rintro e w' ⟨rfl, rfl⟩; rw [hv]
  go_wp2_with fail
  refine (spec_l15Degree _ HO.out hl1 hl HBD.out).mono ?_; rintro e w1 ⟨rfl, b1⟩
  have B1 := Lib.hid b1; clear b1
  go_wp2_with fail
  go_ret2
  exact ⟨rfl, B1.out⟩
def lead (zs : List Int) (m : Nat) : List Int := (List.range m).map fun k : Nat => nth (difN zs k) 0
theorem lead_succ (zs : List Int) (m : Nat) : lead zs (m + 1) = lead zs m ++ [nth (difN zs m) 0] := by simp [lead, List.range_succ]
theorem lead_len (zs : List Int) (m : Nat) : (lead zs m).length = m := by simp [lead]
set_option maxHeartbeats 1000000 in
theorem impl_leading {B : Nat} {v : Value} {zs : List Int} (m : Nat) (w : World) (h : Own w B v zs) (h1 : m ≤ zs.length) (hl : zs.length ≤ 30) (hb : ∀ j, bdd 1000000000000000000 (difN zs j)) :
    Calls Try.prog 53 #[v, .int .i64 m] w (RetOwn w (lead zs m)) := by
  have HO := Lib.hid h; have HBD := Lib.hid hb; clear h hb
  go_enter Try.func53, Try.ntmps53
  go_wp2_with fail
  go_loopw [5, 6, 10] (fun o x i wr => ∃ j : Nat, j ≤ m ∧ i = .int .i64 j ∧ Own wr 0 x (difN zs j) ∧ Own wr w.heap.size o (lead zs j) ∧ Below w.heap.size w wr ∧ w.heap.size ≤ wr.heap.size ∧ Apart x o) (fun _ _ i _ => (100 - intOf i).toNat)
  case atStart => exact ⟨0, Nat.zero_le _, rfl, own_base (own_alloc HO.out _) (Nat.zero_le _), own_empty _ _ (Nat.le_refl _), (Below.refl _ _).alloc (Nat.le_refl _) _, by simp, fun k hk e => by have := (own_block_lt HO.out k hk).2; simp [Value.ownBlock] at e; omega⟩
  case round =>
    obtain ⟨j, hj, rfl, hx, ho, hbw, hs, hap⟩ := hrel
    have HX := Lib.hid hx; have HOO := Lib.hid ho; have HBW := Lib.hid hbw; have HAP := Lib.hid hap; clear hx ho hbw hap
    by_cases hlt : j < m
    · obtain ⟨a, cap, e, hm, hc⟩ := own_form HX.out
      have HE := Lib.hid (lead_succ zs j)
      have hl2 : (difN zs j).length = zs.length - j := difN_len zs j
      obtain ⟨g, e2, q⟩ := hc 0 (by omega)
      have HL := Lib.hid hl2
      have hpos : 0 < (difN zs j).length := by omega
      have hle : (difN zs j).length ≤ 30 := by omega
      clear hc hl2
      subst e2
      have HEX := Lib.hid e
      subst e
      clear HEX
      go_wp2_with (at_builtin; refine wp_app rfl _ _ rfl _ _ (own_alloc HOO.out _) rfl rfl (by simp; rfl) (by rw [lead_len]; omega) (by simp; omega) ?_; intro v' w2 ho' hg')
      obtain ⟨hb', hs'⟩ := app_below HBW.out HOO.out hg' (Nat.le_refl _) hs
      have HX2 := Lib.hid (apart_grown (own_alloc HX.out _) hg' HAP.out)
      have HO2 := Lib.hid ho'; have HB2 := Lib.hid hb'; clear ho' hb' hg'
      refine (impl_lessBefore _ HX2.out hle (HBD.out j)).mono ?_; rintro e w3 ⟨v3, rfl, o3, b3⟩
      have HX3 := Lib.hid o3; have HO3 := Lib.hid (own_keep b3 HO2.out); have HB3 := Lib.hid (HB2.out.trans (b3.mono hs')); have HS3 := Nat.le_trans hs' b3.size
      have HAP3 := Lib.hid (apart_new HO2.out o3 (Nat.le_refl _))
      clear o3 b3
      go_wp2_with fail
      go_roundw
      case rel => exact ⟨j + 1, by omega, by go_num, own_base HX3.out (Nat.zero_le _), by rw [HE.out]; exact HO3.out, HB3.out, HS3, HAP3.out⟩
      case measure => first | (simp [intOf]; done) | (simp [intOf]; omega)
    · have E := Lib.hid (show m = j from by omega)
      go_wp2
      go_ret
      exact ⟨_, rfl, by rw [E.out]; exact HOO.out, HBW.out⟩
set_option maxHeartbeats 1000000 in
theorem spec_l15First {B : Nat} {v : Value} {zs : List Int} (m : Nat) (w : World) (h : Own w B v zs) (h1 : m ≤ zs.length) (hl : zs.length ≤ 30) (hb : ∀ j, bdd 1000000000000000000 (difN zs j)) :
    Calls Try.prog 51 #[v, .int .i64 m] w (RetOwn w (lead zs m)) := by
  have HO := Lib.hid h; have HBD := Lib.hid hb; clear h hb
  go_enter Try.func51, Try.ntmps51
  go_wp2_with fail
  refine (spec_l00Own _ (own_alloc HO.out _) (by omega)).mono ?_; rintro e w1 ⟨v1, rfl, o1, b1⟩
  have O1 := Lib.hid o1; have OE := Lib.hid (own_keep b1 (own_empty w w.heap.size (Nat.le_refl _))); have B1 := Lib.hid (((Below.refl w.heap.size w).alloc (Nat.le_refl _) _).trans (b1.mono (by simp)))
  have S1 : w.heap.size ≤ w1.heap.size := by have := b1.size; simp at this; omega
  clear o1 b1
  go_wp2_with fail
  go_loopw [5, 6, 7] (fun o x i wr => ∃ j : Nat, j ≤ m ∧ i = .int .i64 j ∧ Own wr 0 x (difN zs j) ∧ Own wr w.heap.size o (lead zs j) ∧ Below w.heap.size w wr ∧ w.heap.size ≤ wr.heap.size ∧ Apart x o) (fun _ _ i _ => (100 - intOf i).toNat)
  case atStart => exact ⟨0, Nat.zero_le _, rfl, own_base O1.out (Nat.zero_le _), OE.out, B1.out, S1, apart_new (own_empty w w.heap.size (Nat.le_refl _)) O1.out (Nat.le_refl _)⟩
  case round =>
    obtain ⟨j, hj, rfl, hx, ho, hbw, hs, hap⟩ := hrel
    have HX := Lib.hid hx; have HOO := Lib.hid ho; have HBW := Lib.hid hbw; have HAP := Lib.hid hap; clear hx ho hbw hap
    by_cases hlt : j < m
    · obtain ⟨a, cap, e, hm, hc⟩ := own_form HX.out
      have HE := Lib.hid (lead_succ zs j)
      have hl2 : (difN zs j).length = zs.length - j := difN_len zs j
      obtain ⟨g, e2, q⟩ := hc 0 (by omega)
      have HL := Lib.hid hl2
      have hpos : 0 < (difN zs j).length := by omega
      have hle : (difN zs j).length ≤ 30 := by omega
      clear hc hl2
      subst e2
      have HEX := Lib.hid e
      subst e
      clear HEX
      go_wp2_with (at_builtin; refine wp_app rfl _ _ rfl _ _ (own_alloc HOO.out _) rfl rfl (by simp; rfl) (by rw [lead_len]; omega) (by simp; omega) ?_; intro v' w2 ho' hg')
      obtain ⟨hb', hs'⟩ := app_below HBW.out HOO.out hg' (Nat.le_refl _) hs
      have HX2 := Lib.hid (apart_grown (own_alloc HX.out _) hg' HAP.out)
      have HO2 := Lib.hid ho'; have HB2 := Lib.hid hb'; clear ho' hb' hg'
      refine (spec_l15Next _ HX2.out hle (HBD.out j)).mono ?_; rintro e w3 ⟨v3, rfl, o3, b3⟩
      have HX3 := Lib.hid o3; have HO3 := Lib.hid (own_keep b3 HO2.out); have HB3 := Lib.hid (HB2.out.trans (b3.mono hs')); have HS3 := Nat.le_trans hs' b3.size
      have HAP3 := Lib.hid (apart_new HO2.out o3 (Nat.le_refl _))
      clear o3 b3
      go_wp2_with fail
      go_roundw
      case rel => exact ⟨j + 1, by omega, by go_num, own_base HX3.out (Nat.zero_le _), by rw [HE.out]; exact HO3.out, HB3.out, HS3, HAP3.out⟩
      case measure => first | (simp [intOf]; done) | (simp [intOf]; omega)
    · have E := Lib.hid (show m = j from by omega)
      go_wp2
      go_ret
      exact ⟨_, rfl, by rw [E.out]; exact HOO.out, HBW.out⟩
def newtR (zs : List Int) : List Int × Int := if valB zs then (if coefB (lead zs (degOf zs + 1)) then (lead zs (degOf zs + 1), 0) else ([], 5)) else ([], 1)
theorem newtR_len (zs : List Int) : (newtR zs).1.length ≤ 1000 := by
  unfold newtR
  split
  · split
    · rename_i h; have := (coefB_parts h).2.2; show (lead zs _).length ≤ _; omega
    · simp
  · simp
theorem spec_l15Full {B : Nat} {v : Value} {zs : List Int} (w : World) (h : Own w B v zs) :
    Calls Try.prog 50 #[v] w fun e w' => e = .returned (.tuple #[if coefB zs then v else .slice none 0 0, .int .i64 (if coefB zs then 0 else 5)]) ∧ w = w' := by
  have HO := Lib.hid h; clear h
  cases hc : coefB zs
  all_goals
    go_enter Try.func50, Try.ntmps50
    go_wp2_with fail
    refine (spec_l15Coefs _ HO.out).mono ?_; rintro e w' ⟨rfl, rfl⟩; rw [hc]
    go_wp2_with fail
    go_ret2
    exact ⟨rfl, rfl⟩
set_option maxHeartbeats 400000 in
theorem impl_NewtonOf {B : Nat} {v : Value} {zs : List Int} (w : World) (h : Own w B v zs) :
    Calls Try.prog 29 #[v] w (RetOwnI w (newtR zs).1 (newtR zs).2) := by
  have HO := Lib.hid h; clear h
  cases hv : valB zs
  · rw [show newtR zs = ([], 1) from by simp [newtR, hv]]
    go_enter Try.func29, Try.ntmps29
    go_wp2_with fail
    refine (impl_areValues _ HO.out).mono ?_; rintro e w' ⟨rfl, rfl⟩; rw [hv]
    go_wp2_with fail
    go_ret2
    exact ⟨_, rfl, own_nil, Below.refl _ _⟩
  obtain ⟨hb, hl1, hl⟩ := valB_parts hv
  have HBD := Lib.hid (fitsV hv); clear hb
  have HN := Lib.hid (show newtR zs = (if coefB (lead zs (degOf zs + 1)) then (lead zs (degOf zs + 1), 0) else ([], 5)) from by simp [newtR, hv])
  have hd := degOf_lt hl1 hl
  have K := Lib.hid (fun wx (o : Own wx 0 v zs) => show Calls Try.prog 53 #[v, .int .i64 ((degOf zs : Int) + 1)] wx (RetOwn wx (lead zs (degOf zs + 1))) from impl_leading (degOf zs + 1) wx o (by omega) hl HBD.out)
  cases hc : coefB (lead zs (degOf zs + 1))
  · have HR := Lib.hid (show newtR zs = ([], 5) from by rw [HN.out, hc]; rfl)
    rw [HR.out]
    go_enter Try.func29, Try.ntmps29
    go_wp2_with fail
    refine (impl_areValues _ HO.out).mono ?_; rintro e w' ⟨rfl, rfl⟩; rw [hv]
    go_wp2_with fail
    refine (impl_degreeOf _ HO.out hl1 hl HBD.out).mono ?_; rintro e w1 ⟨rfl, b1⟩
    have B1 := Lib.hid b1; have HO1 := Lib.hid (own_base (own_keep b1 HO.out) (Nat.zero_le _)); clear b1
    go_wp2_with fail
    refine (K.out _ HO1.out).mono ?_; rintro e w2 ⟨v2, rfl, o2, b2⟩
    have O2 := Lib.hid o2; have B2 := Lib.hid (Below.trans_size B1.out b2); clear o2 b2
    go_wp2_with fail
    refine (impl_areCoefs _ O2.out).mono ?_; rintro e w' ⟨rfl, rfl⟩; rw [hc]
    go_wp2_with fail
    go_ret2
    exact ⟨_, rfl, own_nil, B2.out⟩
  · have HR := Lib.hid (show newtR zs = (lead zs (degOf zs + 1), 0) from by rw [HN.out, hc]; rfl)
    rw [HR.out]
    go_enter Try.func29, Try.ntmps29
    go_wp2_with fail
    refine (impl_areValues _ HO.out).mono ?_; rintro e w' ⟨rfl, rfl⟩; rw [hv]
    go_wp2_with fail
    refine (impl_degreeOf _ HO.out hl1 hl HBD.out).mono ?_; rintro e w1 ⟨rfl, b1⟩
    have B1 := Lib.hid b1; have HO1 := Lib.hid (own_base (own_keep b1 HO.out) (Nat.zero_le _)); clear b1
    go_wp2_with fail
    refine (K.out _ HO1.out).mono ?_; rintro e w2 ⟨v2, rfl, o2, b2⟩
    have O2 := Lib.hid (own_base o2 B1.out.size); have B2 := Lib.hid (Below.trans_size B1.out b2); clear o2 b2
    go_wp2_with fail
    refine (impl_areCoefs _ O2.out).mono ?_; rintro e w' ⟨rfl, rfl⟩; rw [hc]
    go_wp2_with fail
    go_ret2
    exact ⟨_, rfl, O2.out, B2.out⟩
set_option maxHeartbeats 400000 in
theorem spec_NewtonOf {B : Nat} {v : Value} {zs : List Int} (w : World) (h : Own w B v zs) :
    Calls Try.prog 28 #[v] w (RetOwnI w (newtR zs).1 (newtR zs).2) := by
  have HO := Lib.hid h; clear h
  cases hv : valB zs
  · rw [show newtR zs = ([], 1) from by simp [newtR, hv]]
    go_enter Try.func28, Try.ntmps28
    go_wp2_with fail
    refine (spec_l15Values _ HO.out).mono ?_; rintro e w' ⟨rfl, rfl⟩; rw [hv]
    go_wp2_with fail
    go_ret2
    exact ⟨_, rfl, own_nil, Below.refl _ _⟩
  obtain ⟨hb, hl1, hl⟩ := valB_parts hv
  have HBD := Lib.hid (fitsV hv); clear hb
  have HN := Lib.hid (show newtR zs = (if coefB (lead zs (degOf zs + 1)) then (lead zs (degOf zs + 1), 0) else ([], 5)) from by simp [newtR, hv])
  have hd := degOf_lt hl1 hl
  have K := Lib.hid (fun wx (o : Own wx 0 v zs) => show Calls Try.prog 51 #[v, .int .i64 ((degOf zs : Int) + 1)] wx (RetOwn wx (lead zs (degOf zs + 1))) from spec_l15First (degOf zs + 1) wx o (by omega) hl HBD.out)
  cases hc : coefB (lead zs (degOf zs + 1))
  · have HR := Lib.hid (show newtR zs = ([], 5) from by rw [HN.out, hc]; rfl)
    rw [HR.out]
    go_enter Try.func28, Try.ntmps28
    go_wp2_with fail
    refine (spec_l15Values _ HO.out).mono ?_; rintro e w' ⟨rfl, rfl⟩; rw [hv]
    go_wp2_with fail
    refine (spec_l15Degree _ HO.out hl1 hl HBD.out).mono ?_; rintro e w1 ⟨rfl, b1⟩
    have B1 := Lib.hid b1; have HO1 := Lib.hid (own_base (own_keep b1 HO.out) (Nat.zero_le _)); clear b1
    go_wp2_with fail
    refine (K.out _ HO1.out).mono ?_; rintro e w2 ⟨v2, rfl, o2, b2⟩
    have O2 := Lib.hid o2; have B2 := Lib.hid (Below.trans_size B1.out b2); clear o2 b2
    go_wp2_with fail
    refine (spec_l15Full _ O2.out).mono ?_; rintro e w' ⟨rfl, rfl⟩; rw [hc]
    go_wp2_with fail
    go_ret2
    exact ⟨_, rfl, own_nil, B2.out⟩
  · have HR := Lib.hid (show newtR zs = (lead zs (degOf zs + 1), 0) from by rw [HN.out, hc]; rfl)
    rw [HR.out]
    go_enter Try.func28, Try.ntmps28
    go_wp2_with fail
    refine (spec_l15Values _ HO.out).mono ?_; rintro e w' ⟨rfl, rfl⟩; rw [hv]
    go_wp2_with fail
    refine (spec_l15Degree _ HO.out hl1 hl HBD.out).mono ?_; rintro e w1 ⟨rfl, b1⟩
    have B1 := Lib.hid b1; have HO1 := Lib.hid (own_base (own_keep b1 HO.out) (Nat.zero_le _)); clear b1
    go_wp2_with fail
    refine (K.out _ HO1.out).mono ?_; rintro e w2 ⟨v2, rfl, o2, b2⟩
    have O2 := Lib.hid (own_base o2 B1.out.size); have B2 := Lib.hid (Below.trans_size B1.out b2); clear o2 b2
    go_wp2_with fail
    refine (spec_l15Full _ O2.out).mono ?_; rintro e w' ⟨rfl, rfl⟩; rw [hc]
    go_wp2_with fail
    go_ret2
    exact ⟨_, rfl, O2.out, B2.out⟩
end Go.Proofs.Ytgmgdjdpmjmmhaa
