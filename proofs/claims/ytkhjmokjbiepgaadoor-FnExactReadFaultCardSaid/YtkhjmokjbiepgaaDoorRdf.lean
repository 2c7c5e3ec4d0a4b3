/- ReadFault of both packages. -/
import Derived.IntWalk
import Derived.Deep.QuietTactic
import Derived.BigQuiet
import Derived.Test.YtkhjmokjbiepgaaDoorCut
import Derived.Test.YtkhjmokjbiepgaaDoorFlx
namespace Go.Proofs.YtkhjmokjbiepgaaDoor
open Go.ChangeShapes Go.WideShapes Go.ChangeAt Go.RowKit
theorem tw_at : ∀ (l : List UInt8) (j : Nat), j < (l.takeWhile (fun c => decide (¬ c = 32))).length → ¬ l.getD j 0 = 32 := by
  intro l
  induction l with
  | nil => intro j h; simp at h
  | cons c l ih =>
    intro j h
    by_cases hc : c = 32
    · subst hc; simp at h
    · rw [List.takeWhile_cons, if_pos (by simpa using hc), List.length_cons] at h
      cases j with
      | zero => simpa using hc
      | succ j => simpa using ih j (by omega)
theorem tw_end : ∀ l : List UInt8, (l.takeWhile (fun c => decide (¬ c = 32))).length < l.length → l.getD (l.takeWhile (fun c => decide (¬ c = 32))).length 0 = 32 := by
  intro l
  induction l with
  | nil => intro h; simp at h
  | cons c l ih =>
    intro h
    by_cases hc : c = 32
    · subst hc; simp
    · rw [List.takeWhile_cons, if_pos (by simpa using hc)] at h ⊢
      rw [List.length_cons, List.length_cons] at h
      simpa using ih (by omega)
def pn (s : ByteArray) : Nat := (s.data.toList.takeWhile (fun c => decide (¬ c = 32))).length
theorem pn_le (s : ByteArray) : pn s ≤ s.size := by
  have h := (List.takeWhile_sublist (p := fun c : UInt8 => decide (¬ c = 32)) (l := s.data.toList)).length_le
  rw [Array.length_toList] at h; exact h
theorem pn_at {s : ByteArray} {j : Nat} (h : j < pn s) : ¬ bt s j = 32 := tw_at _ _ h
theorem pn_end {s : ByteArray} (h : pn s < s.size) : bt s (pn s) = 32 := tw_end _ (by rw [Array.length_toList]; exact h)
def nmB (s : ByteArray) : ByteArray := s.extract 0 (pn s)
def lvB (s : ByteArray) : ByteArray := s.extract (pn s + 1) s.size
def kindL (a : List UInt8) : Int := if a = fwL 1 then 1 else if a = fwL 2 then 2 else if a = fwL 3 then 3 else 0
def rfC (s : ByteArray) : Bool := decide (pn s < s.size) && numB (lvB s).data.toList
def rfO (s : ByteArray) : Bool := rfC s && (inB (numV (lvB s).data.toList) 0 15 && decide (¬ kindL (nmB s).toList = 0))
def rfK (s : ByteArray) : Int := if rfO s then kindL (nmB s).toList else 0
def rfN (s : ByteArray) : Int := if rfO s then numV (lvB s).data.toList else 0
theorem kindL_of {k : Int} {a : List UInt8} (h0 : 1 ≤ k) (h1 : k ≤ 3) (h : fwL k = a) : kindL a = k := by
  subst h
  obtain rfl | rfl | rfl : k = 1 ∨ k = 2 ∨ k = 3 := by omega
  all_goals decide
theorem kindL_no {a : List UInt8} (h : ∀ k : Int, 1 ≤ k → k ≤ 3 → ¬ fwL k = a) : kindL a = 0 := by
  unfold kindL
  rw [if_neg (fun e => h 1 (by omega) (by omega) e.symm), if_neg (fun e => h 2 (by omega) (by omega) e.symm), if_neg (fun e => h 3 (by omega) (by omega) e.symm)]
theorem rf_hit {s : ByteArray} {k : Int} (hc : rfC s = true) (hn : inB (numV (lvB s).data.toList) 0 15 = true) (h0 : 1 ≤ k) (h1 : k ≤ 3) (h : fwL k = (nmB s).toList) : rfO s = true ∧ rfK s = k ∧ rfN s = numV (lvB s).data.toList := by
  have hk := kindL_of h0 h1 h
  have ho : rfO s = true := by unfold rfO; rw [hc, hn, hk, decide_eq_true (by omega)]; rfl
  exact ⟨ho, by unfold rfK; rw [ho, if_pos rfl, hk], by unfold rfN; rw [ho, if_pos rfl]⟩
theorem rf_no {s : ByteArray} (ho : rfO s = false) : rfK s = 0 ∧ rfN s = 0 := ⟨by unfold rfK; rw [ho]; rfl, by unfold rfN; rw [ho]; rfl⟩
theorem rf_c {s : ByteArray} (h : rfC s = false) : rfO s = false := by unfold rfO; rw [h]; rfl
theorem rf_n {s : ByteArray} (h : inB (numV (lvB s).data.toList) 0 15 = false) : rfO s = false := by unfold rfO; rw [h, Bool.false_and, Bool.and_false]
theorem rf_k {s : ByteArray} (h : ∀ k : Int, 1 ≤ k → k ≤ 3 → ¬ fwL k = (nmB s).toList) : rfO s = false := by
  unfold rfO; rw [kindL_no h, decide_eq_false (by omega), Bool.and_false, Bool.and_false]
theorem stS_none {s : ByteArray} : ∀ k, (∀ j, j < k → ¬ bt s j = 32) → stS s k = ([], 0)
  | 0, _ => rfl
  | k + 1, h => by
    show (if bt s k = 32 then ((stS s k).1 ++ [s.extract (stS s k).2 k], k + 1) else stS s k) = _
    rw [if_neg (h k (by omega)), stS_none k (fun j hj => h j (by omega))]
theorem stS_one {s : ByteArray} {p : Nat} (hp : bt s p = 32) (h0 : ∀ j, j < p → ¬ bt s j = 32) : ∀ k, p < k → (∀ j, p < j → j < k → ¬ bt s j = 32) → stS s k = ([s.extract 0 p], p + 1)
  | 0, h, _ => by omega
  | k + 1, h, h1 => by
    show (if bt s k = 32 then ((stS s k).1 ++ [s.extract (stS s k).2 k], k + 1) else stS s k) = _
    by_cases e : k = p
    · subst e; rw [if_pos hp, stS_none k h0]; rfl
    · rw [if_neg (h1 k (by omega) (by omega)), stS_one hp h0 k (by omega) (fun j a b => h1 j a (by omega))]
theorem stS_mono (s : ByteArray) (k : Nat) : ∀ d, (stS s k).1.length ≤ (stS s (k + d)).1.length
  | 0 => Nat.le_refl _
  | d + 1 => by
    have := stS_mono s k d
    show _ ≤ (if bt s (k + d) = 32 then ((stS s (k + d)).1 ++ [s.extract (stS s (k + d)).2 (k + d)], k + d + 1) else stS s (k + d)).1.length
    split
    · simp; omega
    · exact this
theorem stS_hit {s : ByteArray} {k : Nat} (h : bt s k = 32) : (stS s (k + 1)).1.length = (stS s k).1.length + 1 := by
  show (if bt s k = 32 then ((stS s k).1 ++ [s.extract (stS s k).2 k], k + 1) else stS s k).1.length = _
  rw [if_pos h]; simp
theorem bt_mem {s : ByteArray} {p q : Nat} (h : p ≤ q) (hq : q < s.size) (e : bt s q = 32) : (32 : UInt8) ∈ (s.extract p s.size).data.toList := by
  have h2 : q < s.data.toList.length := by rw [Array.length_toList]; exact hq
  rw [ByteArray.data_extract, Array.toList_extract, List.extract_eq_take_drop, List.take_of_length_le (by rw [List.length_drop, Array.length_toList]; exact Nat.le_refl _)]
  have : s.data.toList[q] = 32 := by unfold bt at e; rw [List.getD, List.getElem?_eq_getElem h2] at e; exact e
  rw [← this, List.mem_iff_getElem]
  exact ⟨q - p, by rw [List.length_drop]; omega, by rw [List.getElem_drop]; congr 1; omega⟩
theorem numB_blank {l : List UInt8} (h : (32 : UInt8) ∈ l) : numB l = false := by
  apply numB_dig
  have hm : (32 : UInt8) ∈ digL l := by
    unfold digL
    split
    · rename_i hmi
      cases l with
      | nil => simp at h
      | cons c r =>
        have hc : c.toNat = 45 := by simpa [minusB] using hmi
        rcases List.mem_cons.1 h with e | e
        · exfalso; rw [← e] at hc; revert hc; decide
        · simpa using e
    · exact h
  rw [Bool.eq_false_iff]
  intro e
  rw [List.all_eq_true] at e
  have := e _ hm
  revert this; decide
theorem split_none {s : ByteArray} (h : ¬ pn s < s.size) : (splitL s).length = 1 := by
  have e : pn s = s.size := by have := pn_le s; omega
  unfold splitL
  rw [stS_none s.size (fun j hj => pn_at (by omega))]; rfl
theorem split_two {s : ByteArray} (h : pn s < s.size) (h2 : ∀ j, pn s < j → j < s.size → ¬ bt s j = 32) : splitL s = [nmB s, lvB s] := by
  unfold splitL
  rw [stS_one (pn_end h) (fun j hj => pn_at hj) s.size h h2]; rfl
theorem split_many {s : ByteArray} {q : Nat} (h : pn s < s.size) (h1 : pn s < q) (h2 : q < s.size) (h3 : bt s q = 32) : 3 ≤ (splitL s).length := by
  have a := stS_hit (pn_end h)
  have b := stS_mono s (pn s + 1) (q - (pn s + 1))
  rw [show pn s + 1 + (q - (pn s + 1)) = q by omega] at b
  have c := stS_hit h3
  have d := stS_mono s (q + 1) (s.size - (q + 1))
  rw [show q + 1 + (s.size - (q + 1)) = s.size by omega] at d
  unfold splitL
  rw [List.length_append, List.length_singleton]
  omega
theorem lv_size (s : ByteArray) (h : s.size ≤ 1048576) : (lvB s).size ≤ 1048576 := by unfold lvB; rw [ByteArray.size_extract]; omega
theorem ret_rf {a b c d : Int} {x y : Bool} (h : a = c) (h2 : b = d) (h3 : x = y) : Ending.returned (.tuple #[.agg #[.int .i64 a, .int .i64 b], .bool x]) = .returned (.tuple #[.agg #[.int .i64 c, .int .i64 d], .bool y]) := by rw [h, h2, h3]
set_option maxHeartbeats 4000000 in
set_option maxRecDepth 100000 in
theorem spec_ReadFault (s : ByteArray) (w : World) (hs : s.size ≤ 1048576) :
    Calls Tryd.prog 7 #[.string s] w (RetV w (.tuple #[.agg #[.int .i64 (rfK s), .int .i64 (rfN s)], .bool (rfO s)])) := by
  have HSS := Lib.hid hs; clear hs
  by_cases h2 : (splitL s).length = 2
  rotate_left
  · have HO := Lib.hid (show rfO s = false from by
      apply rf_c
      by_cases hp : pn s < s.size
      · by_cases hq : ∃ q, pn s < q ∧ q < s.size ∧ bt s q = 32
        · obtain ⟨q, q1, q2, q3⟩ := hq
          have hb : numB (lvB s).data.toList = false := numB_blank (bt_mem (show pn s + 1 ≤ q by omega) q2 q3)
          unfold rfC
          rw [hb, Bool.and_false]
        · exfalso
          apply h2
          rw [split_two hp (fun j a b e => hq ⟨j, a, b, e⟩)]; rfl
      · unfold rfC; rw [decide_eq_false hp]; rfl)
    have hne : (((splitL s).length : Int) != 2) = true := by simp; omega
    clear h2
    go_enter Tryd.func7, Tryd.ntmps7
    go_wp2_with fail
    refine (spec_l01Split s _ HSS.out).mono ?_; rintro e w1 ⟨v1, rfl, o1, b1⟩
    obtain ⟨y1, bw, s1, -⟩ := blk1 b1
    have c0 := cell_blk y1 0; have c1 := cell_blk y1 1; have f0 := frozen_blk y1 0; have f1 := frozen_blk y1 1
    have BW := Lib.hid bw
    obtain ⟨g, cap, rfl, -, -, -, -⟩ := owns_at o1 (by unfold splitL; simp)
    clear o1 b1 bw y1
    go_wp2_with fail
    refine bodyPost_ret (v := .tuple #[.agg #[.int .i64 0, .int .i64 0], .bool false]) (by simp [results, Tryd.results7, go_sem, *]) rfl ?_
    exact ⟨ret_rf (rf_no HO.out).1.symm (rf_no HO.out).2.symm HO.out.symm, by first | exact (BW.out.setCell (by simp) _).setCell (by simp) _ | exact BW.out⟩
  have hp : pn s < s.size := by
    apply Classical.byContradiction
    intro h; have := split_none h; omega
  have hone : ∀ j, pn s < j → j < s.size → ¬ bt s j = 32 := fun j a b e => by have := split_many hp a b e; omega
  have HSP := Lib.hid (split_two hp hone)
  have HRC := Lib.hid (show rfC s = numB (lvB s).data.toList from by unfold rfC; rw [decide_eq_true hp, Bool.true_and])
  clear h2 hp hone
  go_enter Tryd.func7, Tryd.ntmps7
  go_wp2_with fail
  refine (spec_l01Split s _ HSS.out).mono ?_; rintro e w1 ⟨v1, rfl, o1, b1⟩
  rw [HSP.out] at o1
  obtain ⟨y1, bw, s1, -⟩ := blk1 b1
  have Y1 := Lib.hid y1
  have BW := Lib.hid bw
  obtain ⟨g, cap, hv, gl, hcap, hcm, hcc⟩ := owns_at o1 (by simp)
  obtain rfl : v1 = .slice (some ⟨g, 0, none⟩) 2 cap := hv
  have n0 : w1.cell? ⟨g, 0, none⟩ = some (.string (nmB s)) := hcc 0 (by simp)
  have n1 : w1.cell? ⟨g, 1, none⟩ = some (.string (lvB s)) := hcc 1 (by simp)
  clear hcc hcap hcm o1 b1 bw y1
  have HL := Lib.hid (lv_size s HSS.out)
  go_wp2_with fail
  refine (spec_l01Number (lvB s) _ HL.out).mono ?_; rintro e w2 ⟨rfl, b2⟩
  have y2 := (b2.block _ (Array.getElem?_eq_some_iff.1 Y1.out).1).trans Y1.out
  have c0 := cell_blk y2 0; have c1 := cell_blk y2 1; have f0 := frozen_blk y2 0; have f1 := frozen_blk y2 1
  have n0' := (b2.cell gl).trans n0
  have BW2 := Lib.hid (Below.trans_size BW.out b2); have s2 := b2.size
  have gl2 : g < w2.heap.size := by omega
  clear n0 n1 b2 y2
  have HN := Lib.hid (fun h => rf_n (s := s) h)
  have HHIT := Lib.hid (fun k => rf_hit (s := s) (k := k))
  generalize hnv : numV (lvB s).data.toList = nv at *
  have HNV := Lib.hid hnv; clear hnv
  cases hnb : numB (lvB s).data.toList
  · have HO := Lib.hid (rf_c (HRC.out.trans hnb))
    go_wp2_with fail
    go_loopw [7] (fun kk wr => ∃ k n : Nat, k ≤ 4 ∧ kk = .int .i64 k ∧ wr = w2.drewN n) (fun kk _ => (100 - intOf kk).toNat)
    case atStart => exact ⟨1, 0, by omega, rfl, rfl⟩
    case round =>
      obtain ⟨k, n, hk, rfl, rfl⟩ := hrel
      by_cases hlt : k < 4
      · cases hq : (fwL (k : Int) == (nmB s).toList)
        all_goals
          go_wp2_with fail
          go_quiet ((go_at_call 25; first | exact quiet_same (spec_l08Word _ _) | exact quiet_same2 (spec_l08Word _ _)))
          go_wp2_with fail
          go_roundw
          case rel => exact ⟨k + 1, _, by omega, by go_num, by first | rfl | skip⟩
          case measure => simp [intOf]; omega
      · go_wp2_with fail
        refine bodyPost_ret (v := .tuple #[.agg #[.int .i64 0, .int .i64 0], .bool false]) (by simp [results, Tryd.results7, go_sem, *]) rfl ?_
        exact ⟨ret_rf (rf_no HO.out).1.symm (rf_no HO.out).2.symm HO.out.symm, ((Below.trans_size BW2.out (below_drewN w2 n)).setCell (by simp) _).setCell (by simp) _⟩
  · have HC := Lib.hid (HRC.out.trans hnb)
    cases hin : inB nv 0 15
    · have HO := Lib.hid (HN.out hin)
      have HIN := Lib.hid hin; clear hin
      go_wp2_with fail
      go_loopw [7] (fun kk wr => ∃ k n : Nat, k ≤ 4 ∧ kk = .int .i64 k ∧ wr = w2.drewN n) (fun kk _ => (100 - intOf kk).toNat)
      case atStart => exact ⟨1, 0, by omega, rfl, rfl⟩
      case round =>
        obtain ⟨k, n, hk, rfl, rfl⟩ := hrel
        by_cases hlt : k < 4
        · cases hq : (fwL (k : Int) == (nmB s).toList)
          all_goals
            go_wp2_with fail
            go_quiet (first | (go_at_call 25; first | exact quiet_same (spec_l08Word _ _) | exact quiet_same2 (spec_l08Word _ _)) | (go_at_call 26; have h := spec_l00In nv 0 15; rw [HIN.out] at h; first | exact quiet_same (h _) | exact quiet_same2 (h _)))
            go_wp2_with fail
            go_roundw
            case rel => exact ⟨k + 1, _, by omega, by go_num, by first | rfl | skip⟩
            case measure => simp [intOf]; omega
        · go_wp2_with fail
          refine bodyPost_ret (v := .tuple #[.agg #[.int .i64 0, .int .i64 0], .bool false]) (by simp [results, Tryd.results7, go_sem, *]) rfl ?_
          exact ⟨ret_rf (rf_no HO.out).1.symm (rf_no HO.out).2.symm HO.out.symm, ((Below.trans_size BW2.out (below_drewN w2 n)).setCell (by simp) _).setCell (by simp) _⟩
    · have HIN := Lib.hid hin; clear hin
      go_wp2_with fail
      go_loopw [7] (fun kk wr => ∃ k n : Nat, 1 ≤ k ∧ k ≤ 4 ∧ kk = .int .i64 k ∧ Hid (∀ j : Nat, 1 ≤ j → j < k → ¬ fwL (j : Int) = (nmB s).toList) ∧ wr = w2.drewN n) (fun kk _ => (100 - intOf kk).toNat)
      case atStart => exact ⟨1, 0, by omega, by omega, rfl, fun j a b => by omega, rfl⟩
      case round =>
        obtain ⟨k, n, hk1, hk, rfl, hno, rfl⟩ := hrel
        by_cases hlt : k < 4
        · cases hq : (fwL (k : Int) == (nmB s).toList)
          · have HNO := Lib.hid (show ∀ j : Nat, 1 ≤ j → j < k + 1 → ¬ fwL (j : Int) = (nmB s).toList from fun j a b => by
              rcases Nat.lt_succ_iff_lt_or_eq.1 b with h | rfl
              · exact hno.out j a h
              · simpa using hq)
            clear hno
            go_wp2_with fail
            go_quiet ((go_at_call 25; first | exact quiet_same (spec_l08Word _ _) | exact quiet_same2 (spec_l08Word _ _)))
            go_wp2_with fail
            go_roundw
            case rel => exact ⟨k + 1, _, by omega, by omega, by go_num, HNO.out, by first | rfl | skip⟩
            case measure => simp [intOf]; omega
          · have HH := Lib.hid (HHIT.out (k : Int) HC.out HIN.out (by omega) (by omega) (by simpa using hq))
            clear hno
            go_wp2_with fail
            go_quiet (first | (go_at_call 25; first | exact quiet_same (spec_l08Word _ _) | exact quiet_same2 (spec_l08Word _ _)) | (go_at_call 26; have h := spec_l00In nv 0 15; rw [HIN.out] at h; first | exact quiet_same (h _) | exact quiet_same2 (h _)))
            go_wp2_with fail
            refine bodyPost_ret (v := .tuple #[.agg #[.int .i64 k, .int .i64 nv], .bool true]) (by simp [results, Tryd.results7, go_sem, *]) rfl ?_
            exact ⟨ret_rf HH.out.2.1.symm HH.out.2.2.symm HH.out.1.symm, ((Below.trans_size BW2.out (by first | exact below_drewN w2 _ | exact Below.trans_size (below_drewN w2 _) (below_drewN _ _))).setCell (by simp) _).setCell (by simp) _⟩
        · have HO := Lib.hid (rf_k (s := s) (fun j a b e => by
            obtain ⟨m, rfl⟩ := Int.eq_ofNat_of_zero_le (show 0 ≤ j by omega)
            exact hno.out m (by omega) (by omega) e))
          clear hno
          go_wp2_with fail
          refine bodyPost_ret (v := .tuple #[.agg #[.int .i64 0, .int .i64 0], .bool false]) (by simp [results, Tryd.results7, go_sem, *]) rfl ?_
          exact ⟨ret_rf (rf_no HO.out).1.symm (rf_no HO.out).2.symm HO.out.symm, ((Below.trans_size BW2.out (below_drewN w2 n)).setCell (by simp) _).setCell (by simp) _⟩
end Go.Proofs.YtkhjmokjbiepgaaDoor
