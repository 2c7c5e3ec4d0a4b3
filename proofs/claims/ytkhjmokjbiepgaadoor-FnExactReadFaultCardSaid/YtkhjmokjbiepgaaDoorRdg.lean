/- ReadFault of the package. -/
import Derived.IntWalk
import Derived.Test.YtkhjmokjbiepgaaDoorRdf
namespace Go.Proofs.YtkhjmokjbiepgaaDoor
open Go.ChangeShapes Go.WideShapes Go.ChangeAt Go.RowKit
theorem names_atN {k : Nat} (h : k < 4) : (#[Value.string ⟨(fwL 0).toArray⟩, .string ⟨(fwL 1).toArray⟩, .string ⟨(fwL 2).toArray⟩, .string ⟨(fwL 3).toArray⟩] : Array Value)[k]? = some (.string ⟨(fwL (k : Int)).toArray⟩) := by
  obtain rfl | rfl | rfl | rfl : k = 0 ∨ k = 1 ∨ k = 2 ∨ k = 3 := by omega
  all_goals rfl
theorem impl_cut_yes (s : ByteArray) (w : World) (hs : s.size ≤ 1048576) (hp : pn s < s.size) :
    Calls Tryd.prog 27 #[.string s, .string ⟨#[32]⟩] w (RetV w (.tuple #[.string (nmB s), .string (lvB s), .bool true])) :=
  impl_cut_at s (pn s) w hs hp (pn_end hp) (fun _ h => pn_at h)
theorem impl_cut_out (s : ByteArray) (w : World) (hs : s.size ≤ 1048576) (hp : ¬ pn s < s.size) :
    Calls Tryd.prog 27 #[.string s, .string ⟨#[32]⟩] w (RetV w (.tuple #[.string s, .string ⟨#[]⟩, .bool false])) :=
  impl_cut_no s w hs (fun _ h => pn_at (by omega))
set_option maxHeartbeats 4000000 in
set_option maxRecDepth 100000 in
theorem impl_ReadFault (s : ByteArray) (w : World) (hs : s.size ≤ 1048576) (hT : TabW w) :
    Calls Tryd.prog 8 #[.string s] w (RetV w (.tuple #[.agg #[.int .i64 (rfK s), .int .i64 (rfN s)], .bool (rfO s)])) := by
  have HSS := Lib.hid hs; have HT := Lib.hid hT; clear hs hT
  by_cases hp : pn s < s.size
  rotate_left
  · have HO := Lib.hid (show rfO s = false from rf_c (by unfold rfC; rw [decide_eq_false hp]; rfl))
    have HP := Lib.hid hp; clear hp
    have HLS := Lib.hid (show (⟨#[]⟩ : ByteArray).size ≤ 1048576 from by decide)
    go_enter Tryd.func8, Tryd.ntmps8
    go_wp2_with fail
    refine (impl_cut_out s _ HSS.out HP.out).mono ?_; rintro e w1 ⟨rfl, b1⟩
    obtain ⟨y1, bw1, s1, -⟩ := blk1 b1
    have Y1 := Lib.hid y1; have B1 := Lib.hid bw1
    clear b1 y1 bw1
    go_wp2_with fail
    refine (impl_ReadDecimal ⟨#[]⟩ _ HLS.out (tab_keep HT.out B1.out)).mono ?_; rintro e w2 ⟨rfl, b2⟩
    have Y2 := Lib.hid ((b2.block _ (Array.getElem?_eq_some_iff.1 Y1.out).1).trans Y1.out)
    have B2 := Lib.hid (Below.trans_size B1.out b2); have s2 := b2.size
    clear b2
    go_wp2_with fail
    refine (impl_faultNames _).mono ?_; rintro e w3 ⟨rfl, hw⟩
    have b3 : Below w2.heap.size w2 w3 := by rw [hw]; exact (Below.refl _ _).alloc (Nat.le_refl _) _
    have y3 : w3.heap[w2.heap.size]? = some (.cells #[.string ⟨(fwL 0).toArray⟩, .string ⟨(fwL 1).toArray⟩, .string ⟨(fwL 2).toArray⟩, .string ⟨(fwL 3).toArray⟩] 9) := by rw [hw]; exact heap_last _ _
    have Y3 := Lib.hid y3
    have Z3 := Lib.hid ((b3.block _ (Array.getElem?_eq_some_iff.1 Y2.out).1).trans Y2.out)
    have B3 := Lib.hid (Below.trans_size B2.out b3)
    have g3 : w2.heap.size < w3.heap.size := (Array.getElem?_eq_some_iff.1 y3).1
    have l3 : w.heap.size < w3.heap.size := by omega
    clear b3 y3 hw
    go_wp2_with fail
    go_loopw [9, 10, 11, 25] (fun _ _ _ ii wr => ∃ k : Nat, k ≤ 4 ∧ ii = .int .i64 k ∧ Below w3.heap.size w3 wr ∧ w3.heap.size ≤ wr.heap.size) (fun _ _ _ ii _ => (100 - intOf ii).toNat)
    case atStart => exact ⟨0, by omega, rfl, Below.refl _ _, Nat.le_refl _⟩
    case round =>
      obtain ⟨k, hk, rfl, hbw, hsz⟩ := hrel
      have HB := Lib.hid hbw
      by_cases hlt : k < 4
      · have nc : wr.cell? ⟨w2.heap.size, k, none⟩ = some (.string ⟨(fwL (k : Int)).toArray⟩) := (hbw.cell g3).trans ((cell_blk Y3.out k).trans (names_atN hlt))
        clear hbw
        go_wp2_with fail
        go_roundw
        case rel => exact ⟨k + 1, by omega, by go_num, HB.out.alloc hsz _, by simp; omega⟩
        case measure => simp [intOf]; omega
      · have zz := (hbw.block _ l3).trans Z3.out
        have c0 := cell_blk zz 0; have c1 := cell_blk zz 1; have f0 := frozen_blk zz 0; have f1 := frozen_blk zz 1
        clear hbw zz
        go_wp2_with fail
        refine bodyPost_ret (v := .tuple #[.agg #[.int .i64 0, .int .i64 0], .bool false]) (by simp [results, Tryd.results8, go_sem, *]) rfl ?_
        exact ⟨ret_rf (rf_no HO.out).1.symm (rf_no HO.out).2.symm HO.out.symm, ((Below.trans_size B3.out HB.out).setCell (by simp) _).setCell (by simp) _⟩
  have HP := Lib.hid hp
  have HLS := Lib.hid (lv_size s HSS.out)
  have HRC := Lib.hid (show rfC s = numB (lvB s).data.toList from by unfold rfC; rw [decide_eq_true hp, Bool.true_and])
  have HN := Lib.hid (fun h => rf_n (s := s) h)
  have HHIT := Lib.hid (fun k => rf_hit (s := s) (k := k))
  clear hp
  go_enter Tryd.func8, Tryd.ntmps8
  go_wp2_with fail
  refine (impl_cut_yes s _ HSS.out HP.out).mono ?_; rintro e w1 ⟨rfl, b1⟩
  obtain ⟨y1, bw1, s1, -⟩ := blk1 b1
  have Y1 := Lib.hid y1; have B1 := Lib.hid bw1
  clear b1 y1 bw1
  go_wp2_with fail
  refine (impl_ReadDecimal (lvB s) _ HLS.out (tab_keep HT.out B1.out)).mono ?_; rintro e w2 ⟨rfl, b2⟩
  have Y2 := Lib.hid ((b2.block _ (Array.getElem?_eq_some_iff.1 Y1.out).1).trans Y1.out)
  have B2 := Lib.hid (Below.trans_size B1.out b2); have s2 := b2.size
  clear b2
  go_wp2_with fail
  refine (impl_faultNames _).mono ?_; rintro e w3 ⟨rfl, hw⟩
  have b3 : Below w2.heap.size w2 w3 := by rw [hw]; exact (Below.refl _ _).alloc (Nat.le_refl _) _
  have y3 : w3.heap[w2.heap.size]? = some (.cells #[.string ⟨(fwL 0).toArray⟩, .string ⟨(fwL 1).toArray⟩, .string ⟨(fwL 2).toArray⟩, .string ⟨(fwL 3).toArray⟩] 9) := by rw [hw]; exact heap_last _ _
  have Y3 := Lib.hid y3
  have Z3 := Lib.hid ((b3.block _ (Array.getElem?_eq_some_iff.1 Y2.out).1).trans Y2.out)
  have B3 := Lib.hid (Below.trans_size B2.out b3)
  have g3 : w2.heap.size < w3.heap.size := (Array.getElem?_eq_some_iff.1 y3).1
  have l3 : w.heap.size < w3.heap.size := by omega
  clear b3 y3 hw
  generalize hnv : numV (lvB s).data.toList = nv at *
  have HNV := Lib.hid hnv; clear hnv
  cases hnb : numB (lvB s).data.toList
  · have HO := Lib.hid (rf_c (HRC.out.trans hnb))
    clear hnb
    go_wp2_with fail
    go_loopw [9, 10, 11, 25] (fun _ _ _ ii wr => ∃ k : Nat, k ≤ 4 ∧ ii = .int .i64 k ∧ Below w3.heap.size w3 wr ∧ w3.heap.size ≤ wr.heap.size) (fun _ _ _ ii _ => (100 - intOf ii).toNat)
    case atStart => exact ⟨0, by omega, rfl, Below.refl _ _, Nat.le_refl _⟩
    case round =>
      obtain ⟨k, hk, rfl, hbw, hsz⟩ := hrel
      have HB := Lib.hid hbw
      by_cases hlt : k < 4
      · have nc : wr.cell? ⟨w2.heap.size, k, none⟩ = some (.string ⟨(fwL (k : Int)).toArray⟩) := (hbw.cell g3).trans ((cell_blk Y3.out k).trans (names_atN hlt))
        clear hbw
        go_wp2_with fail
        go_roundw
        case rel => exact ⟨k + 1, by omega, by go_num, HB.out.alloc hsz _, by simp; omega⟩
        case measure => simp [intOf]; omega
      · have zz := (hbw.block _ l3).trans Z3.out
        have c0 := cell_blk zz 0; have c1 := cell_blk zz 1; have f0 := frozen_blk zz 0; have f1 := frozen_blk zz 1
        clear hbw zz
        go_wp2_with fail
        refine bodyPost_ret (v := .tuple #[.agg #[.int .i64 0, .int .i64 0], .bool false]) (by simp [results, Tryd.results8, go_sem, *]) rfl ?_
        exact ⟨ret_rf (rf_no HO.out).1.symm (rf_no HO.out).2.symm HO.out.symm, ((Below.trans_size B3.out HB.out).setCell (by simp) _).setCell (by simp) _⟩
  have HC := Lib.hid (HRC.out.trans hnb)
  clear hnb
  go_wp2_with fail
  go_loopw [9, 10, 11, 25] (fun _ _ _ ii wr => ∃ k : Nat, k ≤ 4 ∧ ii = .int .i64 k ∧ Hid (∀ j : Nat, 1 ≤ j → j < k → fwL (j : Int) = (nmB s).toList → inB nv 0 15 = false) ∧ Below w3.heap.size w3 wr ∧ w3.heap.size ≤ wr.heap.size) (fun _ _ _ ii _ => (100 - intOf ii).toNat)
  case atStart => exact ⟨0, by omega, rfl, fun j a b => by omega, Below.refl _ _, Nat.le_refl _⟩
  case round =>
    obtain ⟨k, hk, rfl, hno, hbw, hsz⟩ := hrel
    have HB := Lib.hid hbw
    by_cases hlt : k < 4
    · have nc : wr.cell? ⟨w2.heap.size, k, none⟩ = some (.string ⟨(fwL (k : Int)).toArray⟩) := (hbw.cell g3).trans ((cell_blk Y3.out k).trans (names_atN hlt))
      have zz := Lib.hid ((hbw.block _ l3).trans Z3.out)
      clear hbw
      cases hq : (fwL (k : Int) == (nmB s).toList)
      · have HNO := Lib.hid (show ∀ j : Nat, 1 ≤ j → j < k + 1 → fwL (j : Int) = (nmB s).toList → inB nv 0 15 = false from fun j a b e => by
          rcases Nat.lt_succ_iff_lt_or_eq.1 b with h | rfl
          · exact hno.out j a h e
          · exact absurd e (by simpa using hq))
        clear hno
        go_wp2_with fail
        go_roundw
        case rel => exact ⟨k + 1, by omega, by go_num, HNO.out, HB.out.alloc hsz _, by simp; omega⟩
        case measure => simp [intOf]; omega
      · have HQ := Lib.hid (show fwL (k : Int) = (nmB s).toList from by simpa using hq)
        have F := Lib.hid (fun wx => impl_isFault 16 (k : Int) nv wx (by omega) (by omega))
        cases hf : (inB (k : Int) 1 3 && inB nv 0 (16 - 1))
        · have HF := Lib.hid hf
          have HNO := Lib.hid (show ∀ j : Nat, 1 ≤ j → j < k + 1 → fwL (j : Int) = (nmB s).toList → inB nv 0 15 = false from fun j a b e => by
            rcases Nat.lt_succ_iff_lt_or_eq.1 b with h | rfl
            · exact hno.out j a h e
            · rw [inB_true (by omega) (by omega), Bool.true_and] at hf; exact hf)
          clear hno hf
          go_wp2_with fail
          refine (F.out _).mono ?_; rintro e w4 ⟨rfl, b4⟩; rw [HF.out]
          obtain ⟨-, bw4, s4, -⟩ := blk1 b4
          have B4 := Lib.hid (Below.trans HB.out (bw4.mono hsz))
          clear b4 bw4 nc
          go_wp2_with fail
          go_roundw
          case rel => exact ⟨k + 1, by omega, by go_num, HNO.out, B4.out, by omega⟩
          case measure => simp [intOf]; omega
        · have HF := Lib.hid hf
          rw [Bool.and_eq_true] at hf
          have hk3 := inB_iff.1 hf.1
          have HH := Lib.hid (HHIT.out (k : Int) HC.out hf.2 hk3.1 hk3.2 HQ.out)
          clear hno hf hk3
          go_wp2_with fail
          refine (F.out _).mono ?_; rintro e w4 ⟨rfl, b4⟩; rw [HF.out]
          obtain ⟨y4, bw4, s4, -⟩ := blk1 b4
          have z4 := (bw4.block _ (by omega)).trans zz.out
          have q0 := cell_blk y4 0; have q1 := cell_blk y4 1
          have c0 := cell_blk z4 0; have c1 := cell_blk z4 1; have f0 := frozen_blk z4 0; have f1 := frozen_blk z4 1
          have B4 := Lib.hid (Below.trans_size B3.out (Below.trans HB.out (bw4.mono hsz)))
          clear b4 bw4 nc y4 z4
          go_wp2_with fail
          refine bodyPost_ret (v := .tuple #[.agg #[.int .i64 k, .int .i64 nv], .bool true]) (by simp [results, Tryd.results8, go_sem, *]) rfl ?_
          exact ⟨ret_rf HH.out.2.1.symm HH.out.2.2.symm HH.out.1.symm, (B4.out.setCell (by simp) _).setCell (by simp) _⟩
    · have HO := Lib.hid (show rfO s = false from by
        cases hin : inB nv 0 15
        · exact HN.out hin
        · exact rf_k (fun j a b e => by
            obtain ⟨m, rfl⟩ := Int.eq_ofNat_of_zero_le (show 0 ≤ j by omega)
            have := hno.out m (by omega) (by omega) e
            rw [hin] at this; cases this))
      have zz := (hbw.block _ l3).trans Z3.out
      have c0 := cell_blk zz 0; have c1 := cell_blk zz 1; have f0 := frozen_blk zz 0; have f1 := frozen_blk zz 1
      clear hbw zz hno
      go_wp2_with fail
      refine bodyPost_ret (v := .tuple #[.agg #[.int .i64 0, .int .i64 0], .bool false]) (by simp [results, Tryd.results8, go_sem, *]) rfl ?_
      exact ⟨ret_rf (rf_no HO.out).1.symm (rf_no HO.out).2.symm HO.out.symm, ((Below.trans_size B3.out HB.out).setCell (by simp) _).setCell (by simp) _⟩
end Go.Proofs.YtkhjmokjbiepgaaDoor
