/- The repair of one entry of a table: pieces of both packages. -/
import Derived.IntWalk
import Derived.Deep.RegionLaw
import Derived.Deep.QuietTactic
import Derived.BigQuiet
import Derived.Test.YtkhjmokjbiepgaaWreP
import Derived.Test.YtkhjmokjbiepgaaDifC
import Derived.Test.YtkhjmokjbiepgaaBin
namespace Go.Proofs.Ytkhjmokjbiepgaa
open Go.ChangeShapes Go.WideShapes Go.ChangeAt Go.RowKit
theorem all_isZ {l : List Int} : l.all isZ = true ↔ ∀ i, i < l.length → nth l i = 0 := by
  rw [List.all_eq_true]
  constructor
  · intro h i hi
    have a := h _ (List.getElem_mem hi)
    unfold isZ at a
    have b : l[i] = 0 := by simpa using a
    unfold nth; rw [List.getD_eq_getElem?_getD, List.getElem?_eq_getElem hi]; exact b
  · intro h x hx
    obtain ⟨i, hi, rfl⟩ := List.getElem_of_mem hx
    have a := h i hi
    unfold nth at a; rw [List.getD_eq_getElem?_getD, List.getElem?_eq_getElem hi] at a
    unfold isZ
    have b : l[i] = 0 := a
    simp [b]
theorem fixed_ok {zs : List Int} {o j : Nat} (hj : j < zs.length) : (difN (zs.set j (repV zs o j)) o).all isZ = repOk zs o j := by
  rw [Bool.eq_iff_iff, all_isZ, repOk_iff, difN_len, List.length_set]
  constructor
  · intro h i hi
    rw [← rep_lin _ hj (by omega)]; exact h i hi
  · intro h i hi
    rw [rep_lin _ hj (by omega)]; exact h i hi
/-- The call returns a number and whether there is one; nothing that was there has turned. -/
def RetRep (w : World) (ok : Bool) (x : Int) (e : Ending) (w' : World) : Prop := ∃ y, e = .returned (.tuple #[.int .i64 y, .bool ok]) ∧ (ok = true → y = x) ∧ Below w.heap.size w w'
set_option maxHeartbeats 400000 in
theorem spec_l15OrderB {B : Nat} {v : Value} {zs : List Int} (n : Int) (w : World) (h : Own w B v zs) (h0 : 0 ≤ n) (h1 : n ≤ 40) (hl : zs.length ≤ 30) (hb : ∀ j : Nat, (j : Int) < n → bdd 1000000000000000000 (difN zs j)) :
    Calls Try.prog 66 #[v, .int .i64 n] w (RetOwn w (difN zs n.toNat)) := by
  have HO := Lib.hid h; have HBD := Lib.hid hb; clear h hb
  go_enter Try.func66, Try.ntmps66
  go_wp2_with fail
  refine (spec_l00Own _ HO.out (by omega)).mono ?_; rintro e w1 ⟨v1, rfl, o1, b1⟩
  have O1 := Lib.hid o1; have B1 := Lib.hid b1; clear o1 b1
  have S1 := B1.out.size
  go_wp2_with fail
  go_loopw [1, 5] (fun i o wr => ∃ j : Nat, (j : Int) ≤ n ∧ i = .int .i64 (n - j) ∧ Own wr w.heap.size o (difN zs j) ∧ Below w.heap.size w wr ∧ w.heap.size ≤ wr.heap.size) (fun i _ _ => (intOf i).toNat)
  case atStart => exact ⟨0, by omega, by first | rfl | simp, O1.out, B1.out, S1⟩
  case round =>
    obtain ⟨j, hj, rfl, ho, hbw, hs⟩ := hrel
    have HO2 := Lib.hid ho; have HB2 := Lib.hid hbw; clear ho hbw
    by_cases hlt : (j : Int) < n
    · go_wp2_with fail
      refine (spec_l15Next _ HO2.out (by rw [difN_len]; omega) (HBD.out j hlt)).mono ?_; rintro e w2 ⟨v2, rfl, o2, b2⟩
      have O2 := Lib.hid (own_base o2 hs); have B2 := Lib.hid (HB2.out.trans (b2.mono hs)); have S2 := Nat.le_trans hs b2.size; clear o2 b2
      go_wp2_with fail
      go_roundw
      case rel => exact ⟨j + 1, by omega, by first | go_num | (congr 1; omega), O2.out, B2.out, S2⟩
      case measure => first | (simp [intOf]; done) | (simp [intOf]; omega)
    · have E := Lib.hid (show n.toNat = j from by omega)
      go_wp2
      go_ret
      exact ⟨_, rfl, by rw [E.out]; exact HO2.out, HB2.out⟩
set_option maxHeartbeats 400000 in
theorem spec_l15HasB {B : Nat} {v : Value} {zs : List Int} (n : Int) (w : World) (h : Own w B v zs) (h0 : 0 ≤ n) (h1 : n ≤ 35) (hl : zs.length ≤ 30) (hs : n + 1 < (zs.length : Int)) (hb : ∀ j : Nat, (j : Int) < n + 1 → bdd 1000000000000000000 (difN zs j)) :
    Calls Try.prog 38 #[v, .int .i64 n] w (RetV w (.bool ((difN zs (n + 1).toNat).all isZ))) := by
  have HO := Lib.hid h; have HBD := Lib.hid hb
  obtain ⟨a, cap, rfl, hm, -⟩ := own_form h
  clear h hb
  go_enter Try.func38, Try.ntmps38
  go_wp2_with fail
  refine (spec_l15OrderB _ _ HO.out (by omega) (by omega) hl HBD.out).mono ?_; rintro e w1 ⟨v1, rfl, o1, b1⟩
  have O1 := Lib.hid o1; have B1 := Lib.hid b1; clear o1 b1
  go_wp2_with fail
  refine (spec_l15Zero _ O1.out).mono ?_; rintro e w2 ⟨rfl, rfl⟩
  go_wp2_with fail
  go_ret
  exact ⟨congrArg (fun b => Ending.returned (.bool b)) (show (decide ((zs.length : Int) ≤ n + 1) || (difN zs (n + 1).toNat).all isZ) = _ from by rw [decide_eq_false (by omega), Bool.false_or]), B1.out⟩
end Go.Proofs.Ytkhjmokjbiepgaa
