/- The law FnExactAddTurns returns true for every input, and its arguments read afterwards as they read before: no condition. -/
import Derived.Test.YtkhjmokjbiepgaaTad2
import Derived.Test.YtkhjmokjbiepgaaTad3
import Derived.OpenShut
import Derived.ShutString
import Derived.ChangeOld
import Derived.Below
import Derived.Lib.SmallJoins
import Derived.Deep.RegionHeld3
import Derived.Deep.Cut
import Derived.Deep.CutRange
import Derived.Deep.CutBlock
namespace Go.Proofs.Ytkhjmokjbiepgaa.fnExactAddTurns
open Go.ChangeShapes Go.WideShapes Go.ChangeAt Go.RowKit
open Go.ChangeMaps (open_string shut_string)
set_option linter.unusedVariables false

theorem own : ownKnob Try.prog.godebug = none := by kernel_rfl
theorem laidOut : laidOutB Try.prog = true := by kernel_rfl

theorem carryA {w w' : World} {A O : Obj} {n : Nat} (b : Below (w.alloc A).heap.size (w.alloc A) w') (h : w.heap[n]? = some O) : w'.heap[n]? = some O := by
  have hn : n < w.heap.size := (Array.getElem?_eq_some_iff.1 h).1
  rw [b.block n (by simp; omega), Below.heap_alloc _ _ _ hn]; exact h
theorem carryB {w w' : World} {O : Obj} {n : Nat} (b : Below w.heap.size w w') (h : w.heap[n]? = some O) : w'.heap[n]? = some O := by
  have hn : n < w.heap.size := (Array.getElem?_eq_some_iff.1 h).1
  rw [b.block n hn]; exact h
theorem carryG {w w' : World} {O o : Obj} {n : Nat} {row : Option Nat} (hg : (w.alloc o).grownBy w' row) (h : w.heap[n]? = some O) (hne : some n ≠ row) : w'.heap[n]? = some O := by
  have hn : n < w.heap.size := (Array.getElem?_eq_some_iff.1 h).1
  rw [hg.block n (by simp; omega) hne, Below.heap_alloc _ _ _ hn]; exact h
theorem laws_markTurnDigits2 {B : Nat} {v : Value} {zs : List Int} (b : Int) (w : World) (k : Int) (h1 : Own w B v zs) (h0 : 0 ≤ k) (hk : k ≤ 1000000000) (hl : zs.length ≤ 1000000000) :
    Calls Try.prog 12 #[.agg #[.int .i64 b, v], .int .i64 k] w fun e w' => e = .returned (.int .i64 (k + zs.length)) ∧ ∃ o, (w.alloc o).grownBy w' v.ownBlock ∧ Own w' B v (marks k zs.length) := by
  have H1 := Lib.hid h1
  obtain ⟨a1, c1, rfl, -, -⟩ := own_form h1
  clear h1
  go_enter Try.func12, Try.ntmps12
  go_wp2_with fail
  refine (laws_markInt64S _ k (own_alloc H1.out _) h0 hk hl).mono ?_; rintro e w1 ⟨rfl, o1, g1⟩
  have G1 := Lib.hid g1; have O1 := Lib.hid o1; clear o1 g1
  go_wp2_with fail
  go_ret
  exact ⟨rfl, _, G1.out, O1.out⟩
theorem laws_heldTurnDigits {B : Nat} {v : Value} (b : Int) (w : World) (k : Int) (n : Nat) (h1 : Own w B v (marks k n)) (h0 : 0 ≤ k) (hk : k ≤ 1000000000) (hl : n ≤ 1000000000) :
    Calls Try.prog 13 #[.agg #[.int .i64 b, v], .int .i64 k] w (RetV w (.int .i64 (k + n))) := by
  have H1 := Lib.hid h1
  obtain ⟨a1, c1, rfl, -, -⟩ := own_form h1
  clear h1
  go_enter Try.func13, Try.ntmps13
  go_wp2_with fail
  refine (laws_heldInt64S _ k n (own_alloc H1.out _) h0 hk hl).mono ?_; rintro e w1 ⟨rfl, rfl⟩
  go_wp2_with fail
  go_ret
  exact ⟨rfl, (Below.refl _ _).alloc (Nat.le_refl _) _⟩

theorem blkd1 {w w1 : World} {A : Obj} (b : Below (w.alloc A).drew.heap.size (w.alloc A).drew w1) : w1.heap[w.heap.size]? = some A ∧ Below w.heap.size w w1 ∧ w.heap.size + 1 ≤ w1.heap.size := by
  obtain ⟨y, bw, hs, -⟩ := blk1 (w := w.drew) (A := A) b
  exact ⟨y, (Below.refl w.heap.size w).drew.trans bw, hs⟩
theorem len_addL (a b : Int) (xs ys : List Int) : (addL a b xs ys).length ≤ 40 := by
  unfold addL
  split
  · rename_i h
    unfold addC at h
    split at h
    · split at h
      · split at h
        · rename_i hv; exact (validT_parts hv).2.1
        · cases h
      · cases h
    · cases h
  · simp
set_option maxHeartbeats 4000000 in
set_option maxRecDepth 100000 in
theorem walk (n0 : Int) (a0 : Option Addr) (len0 cap0 : Nat) (z0 : List Int) (n1 : Int) (a1 : Option Addr) (len1 cap1 : Nat) (z1 : List Int) (w : World) (w0 : IsRow .i64 w a0 len0 cap0 z0) (w1 : IsRow .i64 w a1 len1 cap1 z1) :
    Calls Try.prog 3 #[.agg #[.int .i64 n0, .slice a0 len0 cap0], .agg #[.int .i64 n1, .slice a1 len1 cap1]] w fun e w' => e = .returned (.bool true) ∧ Below w.heap.size w w' := by
  have l0 := w0.len_le
  have W0 := Lib.hid w0; clear w0
  have l1 := w1.len_le
  have W1 := Lib.hid w1; clear w1
  by_cases g0 : len0 ≤ 1048576
  rotate_left
  · go_enter Try.func3, Try.ntmps3
    go_wp2_with fail
    refine (laws_szTurnDigits _ _ _ _ _ _ l0 (by omega) (by omega)).mono ?_; rintro e w1 ⟨rfl, b1⟩
    rw [if_neg (show ¬ (len0 : Int) ≤ 1048576 by omega)]
    obtain ⟨y1_0, y1_1, bw1, -, -⟩ := blk2 b1
    have A1 := Lib.hid y1_0; clear y1_0
    have C1 := Lib.hid y1_1; clear y1_1
    have B1 := Lib.hid (Below.trans_size (Below.refl w.heap.size w) bw1)
    have s1 : w.heap.size ≤ w1.heap.size := B1.out.size; have t1 : w.heap.size + 2 ≤ w1.heap.size := (by have := b1.size; first | omega | (simp at this; omega) | exact this)
    clear b1 bw1
    have pA0 : w1.cell? ⟨w.heap.size, 0, none⟩ = some (.int .i64 n0) := cell_blk A1.out 0; have pA1 : w1.cell? ⟨w.heap.size, 1, none⟩ = some (.slice a0 len0 cap0) := cell_blk A1.out 1; have hA := (Array.getElem?_eq_some_iff.1 A1.out).1
    have pC0 : w1.cell? ⟨w.heap.size + 1, 0, none⟩ = some (.int .i64 n1) := cell_blk C1.out 0; have pC1 : w1.cell? ⟨w.heap.size + 1, 1, none⟩ = some (.slice a1 len1 cap1) := cell_blk C1.out 1; have hC := (Array.getElem?_eq_some_iff.1 C1.out).1
    go_wp2_with fail
    go_ret
    exact ⟨rfl, B1.out⟩
  by_cases g1 : len0 + len1 ≤ 1048576
  rotate_left
  · go_enter Try.func3, Try.ntmps3
    go_wp2_with fail
    refine (laws_szTurnDigits _ _ _ _ _ _ l0 (by omega) (by omega)).mono ?_; rintro e w1 ⟨rfl, b1⟩
    rw [if_pos (show (len0 : Int) ≤ 1048576 by omega)]
    obtain ⟨y1_0, y1_1, bw1, -, -⟩ := blk2 b1
    have A1 := Lib.hid y1_0; clear y1_0
    have C1 := Lib.hid y1_1; clear y1_1
    have B1 := Lib.hid (Below.trans_size (Below.refl w.heap.size w) bw1)
    have s1 : w.heap.size ≤ w1.heap.size := B1.out.size; have t1 : w.heap.size + 2 ≤ w1.heap.size := (by have := b1.size; first | omega | (simp at this; omega) | exact this)
    clear b1 bw1
    have pA0 : w1.cell? ⟨w.heap.size, 0, none⟩ = some (.int .i64 n0) := cell_blk A1.out 0; have pA1 : w1.cell? ⟨w.heap.size, 1, none⟩ = some (.slice a0 len0 cap0) := cell_blk A1.out 1; have hA := (Array.getElem?_eq_some_iff.1 A1.out).1
    have pC0 : w1.cell? ⟨w.heap.size + 1, 0, none⟩ = some (.int .i64 n1) := cell_blk C1.out 0; have pC1 : w1.cell? ⟨w.heap.size + 1, 1, none⟩ = some (.slice a1 len1 cap1) := cell_blk C1.out 1; have hC := (Array.getElem?_eq_some_iff.1 C1.out).1
    go_wp2_with fail
    refine (laws_szTurnDigits _ _ _ _ _ _ l1 (by omega) (by omega)).mono ?_; rintro e w2 ⟨rfl, b2⟩
    rw [if_neg (show ¬ (len1 : Int) ≤ 1048576 - (len0 : Int) by omega)]
    have bw2 : Below w1.heap.size w1 w2 := b2
    have A2 := Lib.hid (carryB bw2 A1.out)
    have C2 := Lib.hid (carryB bw2 C1.out)
    have B2 := Lib.hid (Below.trans_size B1.out bw2)
    have s2 : w.heap.size ≤ w2.heap.size := B2.out.size; have t2 : w1.heap.size ≤ w2.heap.size := (by have := b2.size; first | omega | (simp at this; omega) | exact this)
    clear b2 bw2
    clear pA0 pA1 hA pC0 pC1 hC
    have pA0 : w2.cell? ⟨w.heap.size, 0, none⟩ = some (.int .i64 n0) := cell_blk A2.out 0; have pA1 : w2.cell? ⟨w.heap.size, 1, none⟩ = some (.slice a0 len0 cap0) := cell_blk A2.out 1; have hA := (Array.getElem?_eq_some_iff.1 A2.out).1
    have pC0 : w2.cell? ⟨w.heap.size + 1, 0, none⟩ = some (.int .i64 n1) := cell_blk C2.out 0; have pC1 : w2.cell? ⟨w.heap.size + 1, 1, none⟩ = some (.slice a1 len1 cap1) := cell_blk C2.out 1; have hC := (Array.getElem?_eq_some_iff.1 C2.out).1
    go_wp2_with fail
    go_ret
    exact ⟨rfl, B2.out⟩
  have hz0 : (z0.take len0).length ≤ 1048576 := by rw [List.length_take]; omega
  have hz1 : (z1.take len1).length ≤ 1048576 := by rw [List.length_take]; omega
  have hzz : (z0.take len0).length + (z1.take len1).length ≤ 1048576 := by rw [List.length_take, List.length_take]; omega
  generalize hZ0 : z0.take len0 = Z0 at *; have HZ0 := Lib.hid hZ0; clear hZ0
  generalize hZ1 : z1.take len1 = Z1 at *; have HZ1 := Lib.hid hZ1; clear hZ1
  have hLn := len_addL n0 n1 Z0 Z1
  have S := Lib.hid (fun (B1 B2 : Nat) (u v : Value) (wx : World) (h1 : Own wx B1 u Z0) (h2 : Own wx B2 v Z1) => spec_AddTurns n0 n1 wx h1 h2 hz0 hz1)
  have I := Lib.hid (fun (B1 B2 : Nat) (u v : Value) (wx : World) (h1 : Own wx B1 u Z0) (h2 : Own wx B2 v Z1) => impl_AddTurns n0 n1 wx h1 h2 hz0 hz1)
  generalize addL n0 n1 Z0 Z1 = L at S I hLn
  generalize addB n0 n1 Z0 Z1 = bb at S I
  generalize addC n0 n1 Z0 Z1 = cc at S I
  go_enter Try.func3, Try.ntmps3
  go_wp2_with fail
  refine (laws_szTurnDigits _ _ _ _ _ _ l0 (by omega) (by omega)).mono ?_; rintro e w1 ⟨rfl, b1⟩
  rw [if_pos (show (len0 : Int) ≤ 1048576 by omega)]
  obtain ⟨y1_0, y1_1, bw1, -, -⟩ := blk2 b1
  have A1 := Lib.hid y1_0; clear y1_0
  have C1 := Lib.hid y1_1; clear y1_1
  have B1 := Lib.hid (Below.trans_size (Below.refl w.heap.size w) bw1)
  have s1 : w.heap.size ≤ w1.heap.size := B1.out.size; have t1 : w.heap.size + 2 ≤ w1.heap.size := (by have := b1.size; first | omega | (simp at this; omega) | exact this)
  clear b1 bw1
  have pA0 : w1.cell? ⟨w.heap.size, 0, none⟩ = some (.int .i64 n0) := cell_blk A1.out 0; have pA1 : w1.cell? ⟨w.heap.size, 1, none⟩ = some (.slice a0 len0 cap0) := cell_blk A1.out 1; have hA := (Array.getElem?_eq_some_iff.1 A1.out).1
  have pC0 : w1.cell? ⟨w.heap.size + 1, 0, none⟩ = some (.int .i64 n1) := cell_blk C1.out 0; have pC1 : w1.cell? ⟨w.heap.size + 1, 1, none⟩ = some (.slice a1 len1 cap1) := cell_blk C1.out 1; have hC := (Array.getElem?_eq_some_iff.1 C1.out).1
  go_wp2_with fail
  refine (laws_szTurnDigits _ _ _ _ _ _ l1 (by omega) (by omega)).mono ?_; rintro e w2 ⟨rfl, b2⟩
  rw [if_pos (show (len1 : Int) ≤ 1048576 - (len0 : Int) by omega)]
  have bw2 : Below w1.heap.size w1 w2 := b2
  have A2 := Lib.hid (carryB bw2 A1.out)
  have C2 := Lib.hid (carryB bw2 C1.out)
  have B2 := Lib.hid (Below.trans_size B1.out bw2)
  have s2 : w.heap.size ≤ w2.heap.size := B2.out.size; have t2 : w1.heap.size ≤ w2.heap.size := (by have := b2.size; first | omega | (simp at this; omega) | exact this)
  clear b2 bw2
  clear pA0 pA1 hA pC0 pC1 hC
  have pA0 : w2.cell? ⟨w.heap.size, 0, none⟩ = some (.int .i64 n0) := cell_blk A2.out 0; have pA1 : w2.cell? ⟨w.heap.size, 1, none⟩ = some (.slice a0 len0 cap0) := cell_blk A2.out 1; have hA := (Array.getElem?_eq_some_iff.1 A2.out).1
  have pC0 : w2.cell? ⟨w.heap.size + 1, 0, none⟩ = some (.int .i64 n1) := cell_blk C2.out 0; have pC1 : w2.cell? ⟨w.heap.size + 1, 1, none⟩ = some (.slice a1 len1 cap1) := cell_blk C2.out 1; have hC := (Array.getElem?_eq_some_iff.1 C2.out).1
  go_upto_region 8 with fail
  go_cut [6, 7] from 17 to 118 (fun pa pc wx => ∃ (gw : Nat) (vw : Value), pa = .pointer (some ⟨gw, 0, none⟩) ∧ pc = .int .i64 cc ∧ Own wx w2.heap.size vw L ∧ wx.heap[gw]? = some (.cells #[.int .i64 bb, vw] 26) ∧ w2.heap.size ≤ gw ∧ some gw ≠ vw.ownBlock ∧ Below w2.heap.size w2 wx)
  case first =>
    go_region_held3 (fun w' => w'.cell? ⟨w.heap.size, 0, none⟩ = some (.int .i64 n0) ∧ w'.cell? ⟨w.heap.size, 1, none⟩ = some (.slice a0 len0 cap0) ∧ w'.cell? ⟨w.heap.size + 1, 0, none⟩ = some (.int .i64 n1) ∧ w'.cell? ⟨w.heap.size + 1, 1, none⟩ = some (.slice a1 len1 cap1)) (first | (refine ⟨?_, ?_, ?_, ?_⟩ <;> assumption) | go_keep) (first | (go_at_call 8; (with_reducible refine (S.out _ _ _ _ _ (own_alloc P4.out _) (own_alloc Q4.out _)).mono ?_); rintro e w5 ⟨v5, rfl, o5, b5⟩; obtain ⟨yy, bw, st5, -⟩ := blk1 b5; have YY5 := Lib.hid yy; have YB := Lib.hid (show w2.heap.size ≤ w4.heap.size by omega); clear yy; have bz := Below.trans_size BZ4.out bw; have zA0 := (bz.cell (p := ⟨w.heap.size, 0, none⟩) hA).trans pA0; have zA1 := (bz.cell (p := ⟨w.heap.size, 1, none⟩) hA).trans pA1; have zC0 := (bz.cell (p := ⟨w.heap.size + 1, 0, none⟩) hC).trans pC0; have zC1 := (bz.cell (p := ⟨w.heap.size + 1, 1, none⟩) hC).trans pC1; have BZ5 := Lib.hid bz; have sz5 : w2.heap.size ≤ w5.heap.size := bz.size; have NV := Lib.hid (show ∀ g : Nat, g < w4.heap.size + 1 → v5.ownBlock ≠ some g from fun g hg h => by have := own_block_lt o5 g h; (try simp at this); omega); have NW := Lib.hid (show some w5.heap.size ≠ v5.ownBlock from fun h => by have := (own_block_lt o5 _ h.symm).2; omega); have R5 := Lib.hid (own_base o5 (show w2.heap.size ≤ _ by first | omega | (simp; omega))); have neAw4 := (show ¬ w.heap.size = w4.heap.size by omega); have nfAw4 := (show ¬ w4.heap.size = w.heap.size by omega); have neCw4 := (show ¬ w.heap.size + 1 = w4.heap.size by omega); have nfCw4 := (show ¬ w4.heap.size = w.heap.size + 1 by omega); have d0 := cell_blk YY5.out 0; have d1 := cell_blk YY5.out 1; have f0 := frozen_blk YY5.out 0; have f1 := frozen_blk YY5.out 1; have gY := (Array.getElem?_eq_some_iff.1 YY5.out).1; obtain ⟨q5, c5, rfl, -, -⟩ := own_form o5; clear o5 b5 bw bz) | (go_at_call 8; (with_reducible refine (S.out _ _ _ _ _ P4.out Q4.out).mono ?_); rintro e w5 ⟨v5, rfl, o5, b5⟩; have bw := (b5); have st5 : w4.heap.size ≤ w5.heap.size := bw.size; have bz := Below.trans_size BZ4.out bw; have zA0 := (bz.cell (p := ⟨w.heap.size, 0, none⟩) hA).trans pA0; have zA1 := (bz.cell (p := ⟨w.heap.size, 1, none⟩) hA).trans pA1; have zC0 := (bz.cell (p := ⟨w.heap.size + 1, 0, none⟩) hC).trans pC0; have zC1 := (bz.cell (p := ⟨w.heap.size + 1, 1, none⟩) hC).trans pC1; have BZ5 := Lib.hid bz; have sz5 : w2.heap.size ≤ w5.heap.size := bz.size; have YY5 := Lib.hid (carryB bw YY4.out); have NV := Lib.hid (show ∀ g : Nat, g < w4.heap.size → v5.ownBlock ≠ some g from fun g hg h => by have := own_block_lt o5 g h; (try simp at this); omega); have NW := Lib.hid (show some w5.heap.size ≠ v5.ownBlock from fun h => by have := (own_block_lt o5 _ h.symm).2; omega); have R5 := Lib.hid (own_base o5 (show w2.heap.size ≤ _ by first | omega | (simp; omega))); have neAw2 := (show ¬ w.heap.size = w2.heap.size by omega); have nfAw2 := (show ¬ w2.heap.size = w.heap.size by omega); have neAw3 := (show ¬ w.heap.size = w3.heap.size by omega); have nfAw3 := (show ¬ w3.heap.size = w.heap.size by omega); have neCw2 := (show ¬ w.heap.size + 1 = w2.heap.size by omega); have nfCw2 := (show ¬ w2.heap.size = w.heap.size + 1 by omega); have neCw3 := (show ¬ w.heap.size + 1 = w3.heap.size by omega); have nfCw3 := (show ¬ w3.heap.size = w.heap.size + 1 by omega); have d0 := cell_blk YY5.out 0; have d1 := cell_blk YY5.out 1; have f0 := frozen_blk YY5.out 0; have f1 := frozen_blk YY5.out 1; have gY := (Array.getElem?_eq_some_iff.1 YY5.out).1; obtain ⟨q5, c5, rfl, -, -⟩ := own_form o5; clear o5 b5 bw bz) | (go_at_call 8; (with_reducible refine (S.out _ _ _ _ _ P4.out Q4.out).mono ?_); rintro e w5 ⟨v5, rfl, o5, b5⟩; have bw := (b5); have st5 : w4.heap.size ≤ w5.heap.size := bw.size; have bz := Below.trans_size BZ4.out bw; have zA0 := (bz.cell (p := ⟨w.heap.size, 0, none⟩) hA).trans pA0; have zA1 := (bz.cell (p := ⟨w.heap.size, 1, none⟩) hA).trans pA1; have zC0 := (bz.cell (p := ⟨w.heap.size + 1, 0, none⟩) hC).trans pC0; have zC1 := (bz.cell (p := ⟨w.heap.size + 1, 1, none⟩) hC).trans pC1; have BZ5 := Lib.hid bz; have sz5 : w2.heap.size ≤ w5.heap.size := bz.size; have NV := Lib.hid (show ∀ g : Nat, g < w4.heap.size → v5.ownBlock ≠ some g from fun g hg h => by have := own_block_lt o5 g h; (try simp at this); omega); have NW := Lib.hid (show some w5.heap.size ≠ v5.ownBlock from fun h => by have := (own_block_lt o5 _ h.symm).2; omega); have R5 := Lib.hid (own_base o5 (show w2.heap.size ≤ _ by first | omega | (simp; omega))); obtain ⟨q5, c5, rfl, -, -⟩ := own_form o5; clear o5 b5 bw bz) | (go_at_call 9; (with_reducible refine (laws_toTurnDigits _ a1 len1 cap1 z1 _ (W1.out.below (Below.alloc (Below.trans_size B2.out BZ3.out) (Below.trans_size B2.out BZ3.out).size _)) (by omega)).mono ?_); rintro e w4 ⟨v4, rfl, o4, b4⟩; rw [HZ1.out] at o4; obtain ⟨yy, bw, st4, -⟩ := blk1 b4; have YY4 := Lib.hid yy; have YB := Lib.hid (show w2.heap.size ≤ w3.heap.size by omega); clear yy; have bz := Below.trans_size BZ3.out bw; have zA0 := (bz.cell (p := ⟨w.heap.size, 0, none⟩) hA).trans pA0; have zA1 := (bz.cell (p := ⟨w.heap.size, 1, none⟩) hA).trans pA1; have zC0 := (bz.cell (p := ⟨w.heap.size + 1, 0, none⟩) hC).trans pC0; have zC1 := (bz.cell (p := ⟨w.heap.size + 1, 1, none⟩) hC).trans pC1; have BZ4 := Lib.hid bz; have sz4 : w2.heap.size ≤ w4.heap.size := bz.size; have P4 := Lib.hid (own_keep b4 (own_alloc P3.out _)); have Q4 := Lib.hid o4; clear o4 b4 bw bz) | (go_at_call 9; (with_reducible refine (laws_toTurnDigits _ a1 len1 cap1 z1 _ (W1.out.below (Below.trans_size B2.out BZ3.out)) (by omega)).mono ?_); rintro e w4 ⟨v4, rfl, o4, b4⟩; rw [HZ1.out] at o4; have bw := (b4); have st4 : w3.heap.size ≤ w4.heap.size := bw.size; have bz := Below.trans_size BZ3.out bw; have zA0 := (bz.cell (p := ⟨w.heap.size, 0, none⟩) hA).trans pA0; have zA1 := (bz.cell (p := ⟨w.heap.size, 1, none⟩) hA).trans pA1; have zC0 := (bz.cell (p := ⟨w.heap.size + 1, 0, none⟩) hC).trans pC0; have zC1 := (bz.cell (p := ⟨w.heap.size + 1, 1, none⟩) hC).trans pC1; have BZ4 := Lib.hid bz; have sz4 : w2.heap.size ≤ w4.heap.size := bz.size; have YY4 := Lib.hid (carryB bw YY3.out); have P4 := Lib.hid (own_keep b4 P3.out); have Q4 := Lib.hid o4; clear o4 b4 bw bz) | (go_at_call 9; (with_reducible refine (laws_toTurnDigits _ a1 len1 cap1 z1 _ (W1.out.below (Below.trans_size B2.out BZ3.out)) (by omega)).mono ?_); rintro e w4 ⟨v4, rfl, o4, b4⟩; rw [HZ1.out] at o4; have bw := (b4); have st4 : w3.heap.size ≤ w4.heap.size := bw.size; have bz := Below.trans_size BZ3.out bw; have zA0 := (bz.cell (p := ⟨w.heap.size, 0, none⟩) hA).trans pA0; have zA1 := (bz.cell (p := ⟨w.heap.size, 1, none⟩) hA).trans pA1; have zC0 := (bz.cell (p := ⟨w.heap.size + 1, 0, none⟩) hC).trans pC0; have zC1 := (bz.cell (p := ⟨w.heap.size + 1, 1, none⟩) hC).trans pC1; have BZ4 := Lib.hid bz; have sz4 : w2.heap.size ≤ w4.heap.size := bz.size; have P4 := Lib.hid (own_keep b4 P3.out); have Q4 := Lib.hid o4; clear o4 b4 bw bz) | (go_at_call 9; (with_reducible refine (laws_toTurnDigits _ a0 len0 cap0 z0 _ (W0.out.below ((B2.out.alloc B2.out.size _).drew)) (by omega)).mono ?_); rintro e w3 ⟨v3, rfl, o3, b3⟩; rw [HZ0.out] at o3; obtain ⟨yy, bw, st3⟩ := blkd1 (w := w2) (A := (.cells #[.int .i64 0, .slice none 0 0] 26)) b3; have YY3 := Lib.hid yy; have YB := Lib.hid (show w2.heap.size ≤ w2.heap.size by omega); clear yy; have bz := bw; have zA0 := (bz.cell (p := ⟨w.heap.size, 0, none⟩) hA).trans pA0; have zA1 := (bz.cell (p := ⟨w.heap.size, 1, none⟩) hA).trans pA1; have zC0 := (bz.cell (p := ⟨w.heap.size + 1, 0, none⟩) hC).trans pC0; have zC1 := (bz.cell (p := ⟨w.heap.size + 1, 1, none⟩) hC).trans pC1; have BZ3 := Lib.hid bz; have sz3 : w2.heap.size ≤ w3.heap.size := bz.size; have P3 := Lib.hid o3; clear o3 b3 bw bz; skip) | (go_at_call 9; (with_reducible refine (laws_toTurnDigits _ a0 len0 cap0 z0 _ (W0.out.below (B2.out.drew)) (by omega)).mono ?_); rintro e w3 ⟨v3, rfl, o3, b3⟩; rw [HZ0.out] at o3; have bw := (Below.trans_size (Below.refl w2.heap.size w2).drew b3); have st3 : w2.heap.size ≤ w3.heap.size := bw.size; have bz := bw; have zA0 := (bz.cell (p := ⟨w.heap.size, 0, none⟩) hA).trans pA0; have zA1 := (bz.cell (p := ⟨w.heap.size, 1, none⟩) hA).trans pA1; have zC0 := (bz.cell (p := ⟨w.heap.size + 1, 0, none⟩) hC).trans pC0; have zC1 := (bz.cell (p := ⟨w.heap.size + 1, 1, none⟩) hC).trans pC1; have BZ3 := Lib.hid bz; have sz3 : w2.heap.size ≤ w3.heap.size := bz.size; have P3 := Lib.hid o3; clear o3 b3 bw bz; skip))
    all_goals (
    go_wp2_with fail
    go_meet
    case rel =>
      first
        | exact ⟨_, _, rfl, rfl, own_alloc R5.out _, heap_last _ _, sz5, NW.out, BZ5.out.alloc BZ5.out.size _⟩
        | exact ⟨_, _, rfl, rfl, own_setCell_ne (own_setCell_ne R5.out (NV.out _ (by omega))) (NV.out _ (by omega)), setCell_blk (setCell0_blk YY5.out _) _, YB.out, fun e => NV.out _ (by omega) e.symm, (BZ5.out.setCell YB.out _).setCell YB.out _⟩)
  case rest =>
    obtain ⟨gM, v3, rfl, rfl, o3, y3, hg3, n3, b3⟩ := hcut
    generalize wc = w3 at *
    have A3 := Lib.hid (carryB b3 A2.out)
    have C3 := Lib.hid (carryB b3 C2.out)
    have NEA_R := Lib.hid (show some (w.heap.size) ≠ v3.ownBlock from fun h => by have := (own_block_lt o3 _ h.symm).1; omega)
    have NEC_R := Lib.hid (show some (w.heap.size + 1) ≠ v3.ownBlock from fun h => by have := (own_block_lt o3 _ h.symm).1; omega)
    have M3 := Lib.hid y3; have NEM_R := Lib.hid n3
    have LBM := Lib.hid hg3
    have B3 := Lib.hid (Below.trans_size B2.out b3); have s3 : w.heap.size ≤ w3.heap.size := B3.out.size; have t3 : w2.heap.size ≤ w3.heap.size := b3.size
    have R3 := Lib.hid o3
    obtain ⟨q3, c3, rfl, -, -⟩ := own_form o3
    clear o3 y3 n3 b3
    clear pA0 pA1 hA pC0 pC1 hC
    have pA0 : w3.cell? ⟨w.heap.size, 0, none⟩ = some (.int .i64 n0) := cell_blk A3.out 0; have pA1 : w3.cell? ⟨w.heap.size, 1, none⟩ = some (.slice a0 len0 cap0) := cell_blk A3.out 1; have hA := (Array.getElem?_eq_some_iff.1 A3.out).1
    have pC0 : w3.cell? ⟨w.heap.size + 1, 0, none⟩ = some (.int .i64 n1) := cell_blk C3.out 0; have pC1 : w3.cell? ⟨w.heap.size + 1, 1, none⟩ = some (.slice a1 len1 cap1) := cell_blk C3.out 1; have hC := (Array.getElem?_eq_some_iff.1 C3.out).1
    have pM0 : w3.cell? ⟨gM, 0, none⟩ = some (.int .i64 bb) := cell_blk M3.out 0; have pM1 : w3.cell? ⟨gM, 1, none⟩ = some (.slice q3 L.length c3) := cell_blk M3.out 1; have hM := (Array.getElem?_eq_some_iff.1 M3.out).1
    go_wp2_with fail
    refine (laws_toTurnDigits _ a0 len0 cap0 z0 _ (W0.out.below B3.out) (by omega)).mono ?_; rintro e w4 ⟨v4, rfl, o4, b4⟩
    rw [HZ0.out] at o4
    have APX_R := Lib.hid (apart_new R3.out o4 (Nat.le_refl _))
    have R4 := Lib.hid (own_keep b4 R3.out)
    have bw4 : Below w3.heap.size w3 w4 := b4
    have A4 := Lib.hid (carryB bw4 A3.out)
    have C4 := Lib.hid (carryB bw4 C3.out)
    have M4 := Lib.hid (carryB bw4 M3.out)
    have B4 := Lib.hid (Below.trans_size B3.out bw4)
    have s4 : w.heap.size ≤ w4.heap.size := B4.out.size; have t4 : w3.heap.size ≤ w4.heap.size := (by have := b4.size; first | omega | (simp at this; omega) | exact this)
    have X4 := Lib.hid (own_base o4 (show w3.heap.size ≤ _ by simp))
    have NEA_X := Lib.hid (show some (w.heap.size) ≠ v4.ownBlock from fun h => by have := (own_block_lt o4 _ h.symm).1; (try simp at this); omega)
    have NEC_X := Lib.hid (show some (w.heap.size + 1) ≠ v4.ownBlock from fun h => by have := (own_block_lt o4 _ h.symm).1; (try simp at this); omega)
    have NEM_X := Lib.hid (show some (gM) ≠ v4.ownBlock from fun h => by have := (own_block_lt o4 _ h.symm).1; (try simp at this); omega)
    clear b4 bw4
    obtain ⟨q4, c4, rfl, -, -⟩ := own_form o4; clear o4
    clear pA0 pA1 hA pC0 pC1 hC pM0 pM1 hM
    have pA0 : w4.cell? ⟨w.heap.size, 0, none⟩ = some (.int .i64 n0) := cell_blk A4.out 0; have pA1 : w4.cell? ⟨w.heap.size, 1, none⟩ = some (.slice a0 len0 cap0) := cell_blk A4.out 1; have hA := (Array.getElem?_eq_some_iff.1 A4.out).1
    have pC0 : w4.cell? ⟨w.heap.size + 1, 0, none⟩ = some (.int .i64 n1) := cell_blk C4.out 0; have pC1 : w4.cell? ⟨w.heap.size + 1, 1, none⟩ = some (.slice a1 len1 cap1) := cell_blk C4.out 1; have hC := (Array.getElem?_eq_some_iff.1 C4.out).1
    have pM0 : w4.cell? ⟨gM, 0, none⟩ = some (.int .i64 bb) := cell_blk M4.out 0; have pM1 : w4.cell? ⟨gM, 1, none⟩ = some (.slice q3 L.length c3) := cell_blk M4.out 1; have hM := (Array.getElem?_eq_some_iff.1 M4.out).1
    have NEU_R := Lib.hid (show some (w4.heap.size) ≠ (Value.slice q3 L.length c3).ownBlock from fun h => by have := (own_block_lt R4.out _ h.symm).2; omega)
    have NEU_X := Lib.hid (show some (w4.heap.size) ≠ (Value.slice q4 Z0.length c4).ownBlock from fun h => by have := (own_block_lt X4.out _ h.symm).2; omega)
    go_wp2_with fail
    refine (laws_toTurnDigits _ a1 len1 cap1 z1 _ (W1.out.below (Below.alloc B4.out B4.out.size _)) (by omega)).mono ?_; rintro e w5 ⟨v5, rfl, o5, b5⟩
    rw [HZ1.out] at o5
    have APY_R := Lib.hid (apart_new (own_alloc R4.out _) o5 (Nat.le_refl _))
    have APY_X := Lib.hid (apart_new (own_alloc X4.out _) o5 (Nat.le_refl _))
    have R5 := Lib.hid (own_keep b5 (own_alloc R4.out _))
    have X5 := Lib.hid (own_keep b5 (own_alloc X4.out _))
    obtain ⟨y5_0, bw5, -, -⟩ := blk1 b5
    have A5 := Lib.hid (carryB bw5 A4.out)
    have C5 := Lib.hid (carryB bw5 C4.out)
    have M5 := Lib.hid (carryB bw5 M4.out)
    have U5 := Lib.hid y5_0; clear y5_0
    have B5 := Lib.hid (Below.trans_size B4.out bw5)
    have s5 : w.heap.size ≤ w5.heap.size := B5.out.size; have t5 : w4.heap.size + 1 ≤ w5.heap.size := (by have := b5.size; first | omega | (simp at this; omega) | exact this)
    have Y5 := Lib.hid (own_base o5 (show w4.heap.size ≤ _ by simp))
    have NEA_Y := Lib.hid (show some (w.heap.size) ≠ v5.ownBlock from fun h => by have := (own_block_lt o5 _ h.symm).1; (try simp at this); omega)
    have NEC_Y := Lib.hid (show some (w.heap.size + 1) ≠ v5.ownBlock from fun h => by have := (own_block_lt o5 _ h.symm).1; (try simp at this); omega)
    have NEM_Y := Lib.hid (show some (gM) ≠ v5.ownBlock from fun h => by have := (own_block_lt o5 _ h.symm).1; (try simp at this); omega)
    have NEU_Y := Lib.hid (show some (w4.heap.size) ≠ v5.ownBlock from fun h => by have := (own_block_lt o5 _ h.symm).1; (try simp at this); omega)
    clear b5 bw5
    obtain ⟨q5, c5, rfl, -, -⟩ := own_form o5; clear o5
    clear pA0 pA1 hA pC0 pC1 hC pM0 pM1 hM
    have pA0 : w5.cell? ⟨w.heap.size, 0, none⟩ = some (.int .i64 n0) := cell_blk A5.out 0; have pA1 : w5.cell? ⟨w.heap.size, 1, none⟩ = some (.slice a0 len0 cap0) := cell_blk A5.out 1; have hA := (Array.getElem?_eq_some_iff.1 A5.out).1
    have pC0 : w5.cell? ⟨w.heap.size + 1, 0, none⟩ = some (.int .i64 n1) := cell_blk C5.out 0; have pC1 : w5.cell? ⟨w.heap.size + 1, 1, none⟩ = some (.slice a1 len1 cap1) := cell_blk C5.out 1; have hC := (Array.getElem?_eq_some_iff.1 C5.out).1
    have pM0 : w5.cell? ⟨gM, 0, none⟩ = some (.int .i64 bb) := cell_blk M5.out 0; have pM1 : w5.cell? ⟨gM, 1, none⟩ = some (.slice q3 L.length c3) := cell_blk M5.out 1; have hM := (Array.getElem?_eq_some_iff.1 M5.out).1
    have pU0 : w5.cell? ⟨w4.heap.size, 0, none⟩ = some (.int .i64 n0) := cell_blk U5.out 0; have pU1 : w5.cell? ⟨w4.heap.size, 1, none⟩ = some (.slice q4 Z0.length c4) := cell_blk U5.out 1; have hU := (Array.getElem?_eq_some_iff.1 U5.out).1
    have NEV_R := Lib.hid (show some (w5.heap.size) ≠ (Value.slice q3 L.length c3).ownBlock from fun h => by have := (own_block_lt R5.out _ h.symm).2; omega)
    have NEV_X := Lib.hid (show some (w5.heap.size) ≠ (Value.slice q4 Z0.length c4).ownBlock from fun h => by have := (own_block_lt X5.out _ h.symm).2; omega)
    have NEV_Y := Lib.hid (show some (w5.heap.size) ≠ (Value.slice q5 Z1.length c5).ownBlock from fun h => by have := (own_block_lt Y5.out _ h.symm).2; omega)
    go_wp2_with fail
    refine (I.out _ _ _ _ _ (own_alloc X5.out _) (own_alloc Y5.out _)).mono ?_; rintro e w6 ⟨v6, rfl, o6, b6⟩
    have APG_R := Lib.hid (apart_new (own_alloc R5.out _) o6 (Nat.le_refl _))
    have APG_X := Lib.hid (apart_new (own_alloc X5.out _) o6 (Nat.le_refl _))
    have APG_Y := Lib.hid (apart_new (own_alloc Y5.out _) o6 (Nat.le_refl _))
    have R6 := Lib.hid (own_keep b6 (own_alloc R5.out _))
    have X6 := Lib.hid (own_keep b6 (own_alloc X5.out _))
    have Y6 := Lib.hid (own_keep b6 (own_alloc Y5.out _))
    obtain ⟨y6_0, bw6, -, -⟩ := blk1 b6
    have A6 := Lib.hid (carryB bw6 A5.out)
    have C6 := Lib.hid (carryB bw6 C5.out)
    have M6 := Lib.hid (carryB bw6 M5.out)
    have U6 := Lib.hid (carryB bw6 U5.out)
    have V6 := Lib.hid y6_0; clear y6_0
    have B6 := Lib.hid (Below.trans_size B5.out bw6)
    have s6 : w.heap.size ≤ w6.heap.size := B6.out.size; have t6 : w5.heap.size + 1 ≤ w6.heap.size := (by have := b6.size; first | omega | (simp at this; omega) | exact this)
    have G6 := Lib.hid (own_base o6 (show w5.heap.size ≤ _ by simp))
    have NEA_G := Lib.hid (show some (w.heap.size) ≠ v6.ownBlock from fun h => by have := (own_block_lt o6 _ h.symm).1; (try simp at this); omega)
    have NEC_G := Lib.hid (show some (w.heap.size + 1) ≠ v6.ownBlock from fun h => by have := (own_block_lt o6 _ h.symm).1; (try simp at this); omega)
    have NEM_G := Lib.hid (show some (gM) ≠ v6.ownBlock from fun h => by have := (own_block_lt o6 _ h.symm).1; (try simp at this); omega)
    have NEU_G := Lib.hid (show some (w4.heap.size) ≠ v6.ownBlock from fun h => by have := (own_block_lt o6 _ h.symm).1; (try simp at this); omega)
    have NEV_G := Lib.hid (show some (w5.heap.size) ≠ v6.ownBlock from fun h => by have := (own_block_lt o6 _ h.symm).1; (try simp at this); omega)
    clear b6 bw6
    obtain ⟨q6, c6, rfl, -, -⟩ := own_form o6; clear o6
    clear pA0 pA1 hA pC0 pC1 hC pM0 pM1 hM pU0 pU1 hU
    have pA0 : w6.cell? ⟨w.heap.size, 0, none⟩ = some (.int .i64 n0) := cell_blk A6.out 0; have pA1 : w6.cell? ⟨w.heap.size, 1, none⟩ = some (.slice a0 len0 cap0) := cell_blk A6.out 1; have hA := (Array.getElem?_eq_some_iff.1 A6.out).1
    have pC0 : w6.cell? ⟨w.heap.size + 1, 0, none⟩ = some (.int .i64 n1) := cell_blk C6.out 0; have pC1 : w6.cell? ⟨w.heap.size + 1, 1, none⟩ = some (.slice a1 len1 cap1) := cell_blk C6.out 1; have hC := (Array.getElem?_eq_some_iff.1 C6.out).1
    have pM0 : w6.cell? ⟨gM, 0, none⟩ = some (.int .i64 bb) := cell_blk M6.out 0; have pM1 : w6.cell? ⟨gM, 1, none⟩ = some (.slice q3 L.length c3) := cell_blk M6.out 1; have hM := (Array.getElem?_eq_some_iff.1 M6.out).1
    have pU0 : w6.cell? ⟨w4.heap.size, 0, none⟩ = some (.int .i64 n0) := cell_blk U6.out 0; have pU1 : w6.cell? ⟨w4.heap.size, 1, none⟩ = some (.slice q4 Z0.length c4) := cell_blk U6.out 1; have hU := (Array.getElem?_eq_some_iff.1 U6.out).1
    have pV0 : w6.cell? ⟨w5.heap.size, 0, none⟩ = some (.int .i64 n1) := cell_blk V6.out 0; have pV1 : w6.cell? ⟨w5.heap.size, 1, none⟩ = some (.slice q5 Z1.length c5) := cell_blk V6.out 1; have hV := (Array.getElem?_eq_some_iff.1 V6.out).1
    have NEN_R := Lib.hid (show some (w6.heap.size) ≠ (Value.slice q3 L.length c3).ownBlock from fun h => by have := (own_block_lt R6.out _ h.symm).2; omega)
    have NEN_X := Lib.hid (show some (w6.heap.size) ≠ (Value.slice q4 Z0.length c4).ownBlock from fun h => by have := (own_block_lt X6.out _ h.symm).2; omega)
    have NEN_Y := Lib.hid (show some (w6.heap.size) ≠ (Value.slice q5 Z1.length c5).ownBlock from fun h => by have := (own_block_lt Y6.out _ h.symm).2; omega)
    have NEN_G := Lib.hid (show some (w6.heap.size) ≠ (Value.slice q6 L.length c6).ownBlock from fun h => by have := (own_block_lt G6.out _ h.symm).2; omega)
    go_wp2_with fail
    refine (laws_eqTurnDigits _ _ (own_alloc G6.out _) (own_alloc R6.out _)).mono ?_; rintro e w7 ⟨rfl, b7⟩
    have R7 := Lib.hid (own_keep b7 (own_alloc R6.out _))
    have X7 := Lib.hid (own_keep b7 (own_alloc X6.out _))
    have Y7 := Lib.hid (own_keep b7 (own_alloc Y6.out _))
    have G7 := Lib.hid (own_keep b7 (own_alloc G6.out _))
    obtain ⟨y7_0, bw7, -, -⟩ := blk1 b7
    have A7 := Lib.hid (carryB bw7 A6.out)
    have C7 := Lib.hid (carryB bw7 C6.out)
    have M7 := Lib.hid (carryB bw7 M6.out)
    have U7 := Lib.hid (carryB bw7 U6.out)
    have V7 := Lib.hid (carryB bw7 V6.out)
    have N7 := Lib.hid y7_0; clear y7_0
    have B7 := Lib.hid (Below.trans_size B6.out bw7)
    have s7 : w.heap.size ≤ w7.heap.size := B7.out.size; have t7 : w6.heap.size + 1 ≤ w7.heap.size := (by have := b7.size; first | omega | (simp at this; omega) | exact this)
    clear b7 bw7
    clear pA0 pA1 hA pC0 pC1 hC pM0 pM1 hM pU0 pU1 hU pV0 pV1 hV
    have pA0 : w7.cell? ⟨w.heap.size, 0, none⟩ = some (.int .i64 n0) := cell_blk A7.out 0; have pA1 : w7.cell? ⟨w.heap.size, 1, none⟩ = some (.slice a0 len0 cap0) := cell_blk A7.out 1; have hA := (Array.getElem?_eq_some_iff.1 A7.out).1
    have pC0 : w7.cell? ⟨w.heap.size + 1, 0, none⟩ = some (.int .i64 n1) := cell_blk C7.out 0; have pC1 : w7.cell? ⟨w.heap.size + 1, 1, none⟩ = some (.slice a1 len1 cap1) := cell_blk C7.out 1; have hC := (Array.getElem?_eq_some_iff.1 C7.out).1
    have pM0 : w7.cell? ⟨gM, 0, none⟩ = some (.int .i64 bb) := cell_blk M7.out 0; have pM1 : w7.cell? ⟨gM, 1, none⟩ = some (.slice q3 L.length c3) := cell_blk M7.out 1; have hM := (Array.getElem?_eq_some_iff.1 M7.out).1
    have pU0 : w7.cell? ⟨w4.heap.size, 0, none⟩ = some (.int .i64 n0) := cell_blk U7.out 0; have pU1 : w7.cell? ⟨w4.heap.size, 1, none⟩ = some (.slice q4 Z0.length c4) := cell_blk U7.out 1; have hU := (Array.getElem?_eq_some_iff.1 U7.out).1
    have pV0 : w7.cell? ⟨w5.heap.size, 0, none⟩ = some (.int .i64 n1) := cell_blk V7.out 0; have pV1 : w7.cell? ⟨w5.heap.size, 1, none⟩ = some (.slice q5 Z1.length c5) := cell_blk V7.out 1; have hV := (Array.getElem?_eq_some_iff.1 V7.out).1
    have pN0 : w7.cell? ⟨w6.heap.size, 0, none⟩ = some (.int .i64 bb) := cell_blk N7.out 0; have pN1 : w7.cell? ⟨w6.heap.size, 1, none⟩ = some (.slice q6 L.length c6) := cell_blk N7.out 1; have hN := (Array.getElem?_eq_some_iff.1 N7.out).1
    go_wp2_with fail
    go_region_held3 (fun w' => w'.cell? ⟨w.heap.size, 0, none⟩ = some (.int .i64 n0) ∧ w'.cell? ⟨w.heap.size, 1, none⟩ = some (.slice a0 len0 cap0) ∧ w'.cell? ⟨w.heap.size + 1, 0, none⟩ = some (.int .i64 n1) ∧ w'.cell? ⟨w.heap.size + 1, 1, none⟩ = some (.slice a1 len1 cap1) ∧ w'.cell? ⟨gM, 0, none⟩ = some (.int .i64 bb) ∧ w'.cell? ⟨gM, 1, none⟩ = some (.slice q3 L.length c3) ∧ w'.cell? ⟨w4.heap.size, 0, none⟩ = some (.int .i64 n0) ∧ w'.cell? ⟨w4.heap.size, 1, none⟩ = some (.slice q4 Z0.length c4) ∧ w'.cell? ⟨w5.heap.size, 0, none⟩ = some (.int .i64 n1) ∧ w'.cell? ⟨w5.heap.size, 1, none⟩ = some (.slice q5 Z1.length c5) ∧ w'.cell? ⟨w6.heap.size, 0, none⟩ = some (.int .i64 bb) ∧ w'.cell? ⟨w6.heap.size, 1, none⟩ = some (.slice q6 L.length c6)) (first | exact ⟨pA0, pA1, pC0, pC1, pM0, pM1, pU0, pU1, pV0, pV1, pN0, pN1⟩ | go_keep) (first | (go_at_call 11; (with_reducible refine (laws_eqTurnDigits _ _ X8.out T8.out).mono ?_); rintro e w9 ⟨rfl, b9⟩; have R9 := Lib.hid (own_keep b9 R8.out); have X9 := Lib.hid (own_keep b9 X8.out); have Y9 := Lib.hid (own_keep b9 Y8.out); have G9 := Lib.hid (own_keep b9 G8.out); have T9 := Lib.hid (own_keep b9 T8.out); have bw9 : Below w8.heap.size w8 w9 := b9; have A9 := Lib.hid (carryB bw9 A8.out); have C9 := Lib.hid (carryB bw9 C8.out); have M9 := Lib.hid (carryB bw9 M8.out); have U9 := Lib.hid (carryB bw9 U8.out); have V9 := Lib.hid (carryB bw9 V8.out); have N9 := Lib.hid (carryB bw9 N8.out); have B9 := Lib.hid (Below.trans_size B8.out bw9); have s9 : w.heap.size ≤ w9.heap.size := B9.out.size; have t9 : w8.heap.size ≤ w9.heap.size := (by have := b9.size; first | omega | (simp at this; omega) | exact this); clear b9 bw9; clear pA0 pA1 hA pC0 pC1 hC pM0 pM1 hM pU0 pU1 hU pV0 pV1 hV pN0 pN1 hN; have pA0 : w9.cell? ⟨w.heap.size, 0, none⟩ = some (.int .i64 n0) := cell_blk A9.out 0; have pA1 : w9.cell? ⟨w.heap.size, 1, none⟩ = some (.slice a0 len0 cap0) := cell_blk A9.out 1; have hA := (Array.getElem?_eq_some_iff.1 A9.out).1; have pC0 : w9.cell? ⟨w.heap.size + 1, 0, none⟩ = some (.int .i64 n1) := cell_blk C9.out 0; have pC1 : w9.cell? ⟨w.heap.size + 1, 1, none⟩ = some (.slice a1 len1 cap1) := cell_blk C9.out 1; have hC := (Array.getElem?_eq_some_iff.1 C9.out).1; have pM0 : w9.cell? ⟨gM, 0, none⟩ = some (.int .i64 bb) := cell_blk M9.out 0; have pM1 : w9.cell? ⟨gM, 1, none⟩ = some (.slice q3 L.length c3) := cell_blk M9.out 1; have hM := (Array.getElem?_eq_some_iff.1 M9.out).1; have pU0 : w9.cell? ⟨w4.heap.size, 0, none⟩ = some (.int .i64 n0) := cell_blk U9.out 0; have pU1 : w9.cell? ⟨w4.heap.size, 1, none⟩ = some (.slice q4 Z0.length c4) := cell_blk U9.out 1; have hU := (Array.getElem?_eq_some_iff.1 U9.out).1; have pV0 : w9.cell? ⟨w5.heap.size, 0, none⟩ = some (.int .i64 n1) := cell_blk V9.out 0; have pV1 : w9.cell? ⟨w5.heap.size, 1, none⟩ = some (.slice q5 Z1.length c5) := cell_blk V9.out 1; have hV := (Array.getElem?_eq_some_iff.1 V9.out).1; have pN0 : w9.cell? ⟨w6.heap.size, 0, none⟩ = some (.int .i64 bb) := cell_blk N9.out 0; have pN1 : w9.cell? ⟨w6.heap.size, 1, none⟩ = some (.slice q6 L.length c6) := cell_blk N9.out 1; have hN := (Array.getElem?_eq_some_iff.1 N9.out).1) | (go_at_call 9; (with_reducible refine (laws_toTurnDigits _ a0 len0 cap0 z0 _ (W0.out.below B7.out.drew) (by omega)).mono ?_); rintro e w8 ⟨v8, rfl, o8, b8⟩; rw [HZ0.out] at o8; have APT_R := Lib.hid (apart_new (own_drew R7.out) o8 (Nat.le_refl _)); have APT_X := Lib.hid (apart_new (own_drew X7.out) o8 (Nat.le_refl _)); have APT_Y := Lib.hid (apart_new (own_drew Y7.out) o8 (Nat.le_refl _)); have APT_G := Lib.hid (apart_new (own_drew G7.out) o8 (Nat.le_refl _)); have R8 := Lib.hid (own_keep b8 (own_drew R7.out)); have X8 := Lib.hid (own_keep b8 (own_drew X7.out)); have Y8 := Lib.hid (own_keep b8 (own_drew Y7.out)); have G8 := Lib.hid (own_keep b8 (own_drew G7.out)); have bw8 : Below w7.heap.size w7 w8 := (Below.refl w7.heap.size w7).drew.trans b8; have A8 := Lib.hid (carryB bw8 A7.out); have C8 := Lib.hid (carryB bw8 C7.out); have M8 := Lib.hid (carryB bw8 M7.out); have U8 := Lib.hid (carryB bw8 U7.out); have V8 := Lib.hid (carryB bw8 V7.out); have N8 := Lib.hid (carryB bw8 N7.out); have B8 := Lib.hid (Below.trans_size B7.out bw8); have s8 : w.heap.size ≤ w8.heap.size := B8.out.size; have t8 : w7.heap.size ≤ w8.heap.size := (by have := b8.size; first | omega | (simp at this; omega) | exact this); have T8 := Lib.hid (own_base o8 (show w7.heap.size ≤ _ by simp)); have NEA_T := Lib.hid (show some (w.heap.size) ≠ v8.ownBlock from fun h => by have := (own_block_lt o8 _ h.symm).1; (try simp at this); omega); have NEC_T := Lib.hid (show some (w.heap.size + 1) ≠ v8.ownBlock from fun h => by have := (own_block_lt o8 _ h.symm).1; (try simp at this); omega); have NEM_T := Lib.hid (show some (gM) ≠ v8.ownBlock from fun h => by have := (own_block_lt o8 _ h.symm).1; (try simp at this); omega); have NEU_T := Lib.hid (show some (w4.heap.size) ≠ v8.ownBlock from fun h => by have := (own_block_lt o8 _ h.symm).1; (try simp at this); omega); have NEV_T := Lib.hid (show some (w5.heap.size) ≠ v8.ownBlock from fun h => by have := (own_block_lt o8 _ h.symm).1; (try simp at this); omega); have NEN_T := Lib.hid (show some (w6.heap.size) ≠ v8.ownBlock from fun h => by have := (own_block_lt o8 _ h.symm).1; (try simp at this); omega); clear b8 bw8; obtain ⟨q8, c8, rfl, -, -⟩ := own_form o8; clear o8; clear pA0 pA1 hA pC0 pC1 hC pM0 pM1 hM pU0 pU1 hU pV0 pV1 hV pN0 pN1 hN; have pA0 : w8.cell? ⟨w.heap.size, 0, none⟩ = some (.int .i64 n0) := cell_blk A8.out 0; have pA1 : w8.cell? ⟨w.heap.size, 1, none⟩ = some (.slice a0 len0 cap0) := cell_blk A8.out 1; have hA := (Array.getElem?_eq_some_iff.1 A8.out).1; have pC0 : w8.cell? ⟨w.heap.size + 1, 0, none⟩ = some (.int .i64 n1) := cell_blk C8.out 0; have pC1 : w8.cell? ⟨w.heap.size + 1, 1, none⟩ = some (.slice a1 len1 cap1) := cell_blk C8.out 1; have hC := (Array.getElem?_eq_some_iff.1 C8.out).1; have pM0 : w8.cell? ⟨gM, 0, none⟩ = some (.int .i64 bb) := cell_blk M8.out 0; have pM1 : w8.cell? ⟨gM, 1, none⟩ = some (.slice q3 L.length c3) := cell_blk M8.out 1; have hM := (Array.getElem?_eq_some_iff.1 M8.out).1; have pU0 : w8.cell? ⟨w4.heap.size, 0, none⟩ = some (.int .i64 n0) := cell_blk U8.out 0; have pU1 : w8.cell? ⟨w4.heap.size, 1, none⟩ = some (.slice q4 Z0.length c4) := cell_blk U8.out 1; have hU := (Array.getElem?_eq_some_iff.1 U8.out).1; have pV0 : w8.cell? ⟨w5.heap.size, 0, none⟩ = some (.int .i64 n1) := cell_blk V8.out 0; have pV1 : w8.cell? ⟨w5.heap.size, 1, none⟩ = some (.slice q5 Z1.length c5) := cell_blk V8.out 1; have hV := (Array.getElem?_eq_some_iff.1 V8.out).1; have pN0 : w8.cell? ⟨w6.heap.size, 0, none⟩ = some (.int .i64 bb) := cell_blk N8.out 0; have pN1 : w8.cell? ⟨w6.heap.size, 1, none⟩ = some (.slice q6 L.length c6) := cell_blk N8.out 1; have hN := (Array.getElem?_eq_some_iff.1 N8.out).1))
    clear pA0 pA1 hA pC0 pC1 hC pM0 pM1 hM pU0 pU1 hU pV0 pV1 hV pN0 pN1 hN
    have pA0 : w9.cell? ⟨w.heap.size, 0, none⟩ = some (.int .i64 n0) := cell_blk A9.out 0; have pA1 : w9.cell? ⟨w.heap.size, 1, none⟩ = some (.slice a0 len0 cap0) := cell_blk A9.out 1; have hA := (Array.getElem?_eq_some_iff.1 A9.out).1
    have pC0 : w9.cell? ⟨w.heap.size + 1, 0, none⟩ = some (.int .i64 n1) := cell_blk C9.out 0; have pC1 : w9.cell? ⟨w.heap.size + 1, 1, none⟩ = some (.slice a1 len1 cap1) := cell_blk C9.out 1; have hC := (Array.getElem?_eq_some_iff.1 C9.out).1
    have pM0 : w9.cell? ⟨gM, 0, none⟩ = some (.int .i64 bb) := cell_blk M9.out 0; have pM1 : w9.cell? ⟨gM, 1, none⟩ = some (.slice q3 L.length c3) := cell_blk M9.out 1; have hM := (Array.getElem?_eq_some_iff.1 M9.out).1
    have pU0 : w9.cell? ⟨w4.heap.size, 0, none⟩ = some (.int .i64 n0) := cell_blk U9.out 0; have pU1 : w9.cell? ⟨w4.heap.size, 1, none⟩ = some (.slice q4 Z0.length c4) := cell_blk U9.out 1; have hU := (Array.getElem?_eq_some_iff.1 U9.out).1
    have pV0 : w9.cell? ⟨w5.heap.size, 0, none⟩ = some (.int .i64 n1) := cell_blk V9.out 0; have pV1 : w9.cell? ⟨w5.heap.size, 1, none⟩ = some (.slice q5 Z1.length c5) := cell_blk V9.out 1; have hV := (Array.getElem?_eq_some_iff.1 V9.out).1
    have pN0 : w9.cell? ⟨w6.heap.size, 0, none⟩ = some (.int .i64 bb) := cell_blk N9.out 0; have pN1 : w9.cell? ⟨w6.heap.size, 1, none⟩ = some (.slice q6 L.length c6) := cell_blk N9.out 1; have hN := (Array.getElem?_eq_some_iff.1 N9.out).1
    go_wp2_with fail
    go_region_held3 (fun w' => w'.cell? ⟨w.heap.size, 0, none⟩ = some (.int .i64 n0) ∧ w'.cell? ⟨w.heap.size, 1, none⟩ = some (.slice a0 len0 cap0) ∧ w'.cell? ⟨w.heap.size + 1, 0, none⟩ = some (.int .i64 n1) ∧ w'.cell? ⟨w.heap.size + 1, 1, none⟩ = some (.slice a1 len1 cap1) ∧ w'.cell? ⟨gM, 0, none⟩ = some (.int .i64 bb) ∧ w'.cell? ⟨gM, 1, none⟩ = some (.slice q3 L.length c3) ∧ w'.cell? ⟨w4.heap.size, 0, none⟩ = some (.int .i64 n0) ∧ w'.cell? ⟨w4.heap.size, 1, none⟩ = some (.slice q4 Z0.length c4) ∧ w'.cell? ⟨w5.heap.size, 0, none⟩ = some (.int .i64 n1) ∧ w'.cell? ⟨w5.heap.size, 1, none⟩ = some (.slice q5 Z1.length c5) ∧ w'.cell? ⟨w6.heap.size, 0, none⟩ = some (.int .i64 bb) ∧ w'.cell? ⟨w6.heap.size, 1, none⟩ = some (.slice q6 L.length c6)) (first | exact ⟨pA0, pA1, pC0, pC1, pM0, pM1, pU0, pU1, pV0, pV1, pN0, pN1⟩ | go_keep) (first | (go_at_call 11; (with_reducible refine (laws_eqTurnDigits _ _ Y10.out T10.out).mono ?_); rintro e w11 ⟨rfl, b11⟩; have R11 := Lib.hid (own_keep b11 R10.out); have X11 := Lib.hid (own_keep b11 X10.out); have Y11 := Lib.hid (own_keep b11 Y10.out); have G11 := Lib.hid (own_keep b11 G10.out); have T11 := Lib.hid (own_keep b11 T10.out); have bw11 : Below w10.heap.size w10 w11 := b11; have A11 := Lib.hid (carryB bw11 A10.out); have C11 := Lib.hid (carryB bw11 C10.out); have M11 := Lib.hid (carryB bw11 M10.out); have U11 := Lib.hid (carryB bw11 U10.out); have V11 := Lib.hid (carryB bw11 V10.out); have N11 := Lib.hid (carryB bw11 N10.out); have B11 := Lib.hid (Below.trans_size B10.out bw11); have s11 : w.heap.size ≤ w11.heap.size := B11.out.size; have t11 : w10.heap.size ≤ w11.heap.size := (by have := b11.size; first | omega | (simp at this; omega) | exact this); clear b11 bw11; clear pA0 pA1 hA pC0 pC1 hC pM0 pM1 hM pU0 pU1 hU pV0 pV1 hV pN0 pN1 hN; have pA0 : w11.cell? ⟨w.heap.size, 0, none⟩ = some (.int .i64 n0) := cell_blk A11.out 0; have pA1 : w11.cell? ⟨w.heap.size, 1, none⟩ = some (.slice a0 len0 cap0) := cell_blk A11.out 1; have hA := (Array.getElem?_eq_some_iff.1 A11.out).1; have pC0 : w11.cell? ⟨w.heap.size + 1, 0, none⟩ = some (.int .i64 n1) := cell_blk C11.out 0; have pC1 : w11.cell? ⟨w.heap.size + 1, 1, none⟩ = some (.slice a1 len1 cap1) := cell_blk C11.out 1; have hC := (Array.getElem?_eq_some_iff.1 C11.out).1; have pM0 : w11.cell? ⟨gM, 0, none⟩ = some (.int .i64 bb) := cell_blk M11.out 0; have pM1 : w11.cell? ⟨gM, 1, none⟩ = some (.slice q3 L.length c3) := cell_blk M11.out 1; have hM := (Array.getElem?_eq_some_iff.1 M11.out).1; have pU0 : w11.cell? ⟨w4.heap.size, 0, none⟩ = some (.int .i64 n0) := cell_blk U11.out 0; have pU1 : w11.cell? ⟨w4.heap.size, 1, none⟩ = some (.slice q4 Z0.length c4) := cell_blk U11.out 1; have hU := (Array.getElem?_eq_some_iff.1 U11.out).1; have pV0 : w11.cell? ⟨w5.heap.size, 0, none⟩ = some (.int .i64 n1) := cell_blk V11.out 0; have pV1 : w11.cell? ⟨w5.heap.size, 1, none⟩ = some (.slice q5 Z1.length c5) := cell_blk V11.out 1; have hV := (Array.getElem?_eq_some_iff.1 V11.out).1; have pN0 : w11.cell? ⟨w6.heap.size, 0, none⟩ = some (.int .i64 bb) := cell_blk N11.out 0; have pN1 : w11.cell? ⟨w6.heap.size, 1, none⟩ = some (.slice q6 L.length c6) := cell_blk N11.out 1; have hN := (Array.getElem?_eq_some_iff.1 N11.out).1) | (go_at_call 9; (with_reducible refine (laws_toTurnDigits _ a1 len1 cap1 z1 _ (W1.out.below B9.out.drew) (by omega)).mono ?_); rintro e w10 ⟨v10, rfl, o10, b10⟩; rw [HZ1.out] at o10; have APT_R := Lib.hid (apart_new (own_drew R9.out) o10 (Nat.le_refl _)); have APT_X := Lib.hid (apart_new (own_drew X9.out) o10 (Nat.le_refl _)); have APT_Y := Lib.hid (apart_new (own_drew Y9.out) o10 (Nat.le_refl _)); have APT_G := Lib.hid (apart_new (own_drew G9.out) o10 (Nat.le_refl _)); have R10 := Lib.hid (own_keep b10 (own_drew R9.out)); have X10 := Lib.hid (own_keep b10 (own_drew X9.out)); have Y10 := Lib.hid (own_keep b10 (own_drew Y9.out)); have G10 := Lib.hid (own_keep b10 (own_drew G9.out)); have bw10 : Below w9.heap.size w9 w10 := (Below.refl w9.heap.size w9).drew.trans b10; have A10 := Lib.hid (carryB bw10 A9.out); have C10 := Lib.hid (carryB bw10 C9.out); have M10 := Lib.hid (carryB bw10 M9.out); have U10 := Lib.hid (carryB bw10 U9.out); have V10 := Lib.hid (carryB bw10 V9.out); have N10 := Lib.hid (carryB bw10 N9.out); have B10 := Lib.hid (Below.trans_size B9.out bw10); have s10 : w.heap.size ≤ w10.heap.size := B10.out.size; have t10 : w9.heap.size ≤ w10.heap.size := (by have := b10.size; first | omega | (simp at this; omega) | exact this); have T10 := Lib.hid (own_base o10 (show w9.heap.size ≤ _ by simp)); have NEA_T := Lib.hid (show some (w.heap.size) ≠ v10.ownBlock from fun h => by have := (own_block_lt o10 _ h.symm).1; (try simp at this); omega); have NEC_T := Lib.hid (show some (w.heap.size + 1) ≠ v10.ownBlock from fun h => by have := (own_block_lt o10 _ h.symm).1; (try simp at this); omega); have NEM_T := Lib.hid (show some (gM) ≠ v10.ownBlock from fun h => by have := (own_block_lt o10 _ h.symm).1; (try simp at this); omega); have NEU_T := Lib.hid (show some (w4.heap.size) ≠ v10.ownBlock from fun h => by have := (own_block_lt o10 _ h.symm).1; (try simp at this); omega); have NEV_T := Lib.hid (show some (w5.heap.size) ≠ v10.ownBlock from fun h => by have := (own_block_lt o10 _ h.symm).1; (try simp at this); omega); have NEN_T := Lib.hid (show some (w6.heap.size) ≠ v10.ownBlock from fun h => by have := (own_block_lt o10 _ h.symm).1; (try simp at this); omega); clear b10 bw10; obtain ⟨q10, c10, rfl, -, -⟩ := own_form o10; clear o10; clear pA0 pA1 hA pC0 pC1 hC pM0 pM1 hM pU0 pU1 hU pV0 pV1 hV pN0 pN1 hN; have pA0 : w10.cell? ⟨w.heap.size, 0, none⟩ = some (.int .i64 n0) := cell_blk A10.out 0; have pA1 : w10.cell? ⟨w.heap.size, 1, none⟩ = some (.slice a0 len0 cap0) := cell_blk A10.out 1; have hA := (Array.getElem?_eq_some_iff.1 A10.out).1; have pC0 : w10.cell? ⟨w.heap.size + 1, 0, none⟩ = some (.int .i64 n1) := cell_blk C10.out 0; have pC1 : w10.cell? ⟨w.heap.size + 1, 1, none⟩ = some (.slice a1 len1 cap1) := cell_blk C10.out 1; have hC := (Array.getElem?_eq_some_iff.1 C10.out).1; have pM0 : w10.cell? ⟨gM, 0, none⟩ = some (.int .i64 bb) := cell_blk M10.out 0; have pM1 : w10.cell? ⟨gM, 1, none⟩ = some (.slice q3 L.length c3) := cell_blk M10.out 1; have hM := (Array.getElem?_eq_some_iff.1 M10.out).1; have pU0 : w10.cell? ⟨w4.heap.size, 0, none⟩ = some (.int .i64 n0) := cell_blk U10.out 0; have pU1 : w10.cell? ⟨w4.heap.size, 1, none⟩ = some (.slice q4 Z0.length c4) := cell_blk U10.out 1; have hU := (Array.getElem?_eq_some_iff.1 U10.out).1; have pV0 : w10.cell? ⟨w5.heap.size, 0, none⟩ = some (.int .i64 n1) := cell_blk V10.out 0; have pV1 : w10.cell? ⟨w5.heap.size, 1, none⟩ = some (.slice q5 Z1.length c5) := cell_blk V10.out 1; have hV := (Array.getElem?_eq_some_iff.1 V10.out).1; have pN0 : w10.cell? ⟨w6.heap.size, 0, none⟩ = some (.int .i64 bb) := cell_blk N10.out 0; have pN1 : w10.cell? ⟨w6.heap.size, 1, none⟩ = some (.slice q6 L.length c6) := cell_blk N10.out 1; have hN := (Array.getElem?_eq_some_iff.1 N10.out).1))
    clear pA0 pA1 hA pC0 pC1 hC pM0 pM1 hM pU0 pU1 hU pV0 pV1 hV pN0 pN1 hN
    have pA0 : w11.cell? ⟨w.heap.size, 0, none⟩ = some (.int .i64 n0) := cell_blk A11.out 0; have pA1 : w11.cell? ⟨w.heap.size, 1, none⟩ = some (.slice a0 len0 cap0) := cell_blk A11.out 1; have hA := (Array.getElem?_eq_some_iff.1 A11.out).1
    have pC0 : w11.cell? ⟨w.heap.size + 1, 0, none⟩ = some (.int .i64 n1) := cell_blk C11.out 0; have pC1 : w11.cell? ⟨w.heap.size + 1, 1, none⟩ = some (.slice a1 len1 cap1) := cell_blk C11.out 1; have hC := (Array.getElem?_eq_some_iff.1 C11.out).1
    have pM0 : w11.cell? ⟨gM, 0, none⟩ = some (.int .i64 bb) := cell_blk M11.out 0; have pM1 : w11.cell? ⟨gM, 1, none⟩ = some (.slice q3 L.length c3) := cell_blk M11.out 1; have hM := (Array.getElem?_eq_some_iff.1 M11.out).1
    have pU0 : w11.cell? ⟨w4.heap.size, 0, none⟩ = some (.int .i64 n0) := cell_blk U11.out 0; have pU1 : w11.cell? ⟨w4.heap.size, 1, none⟩ = some (.slice q4 Z0.length c4) := cell_blk U11.out 1; have hU := (Array.getElem?_eq_some_iff.1 U11.out).1
    have pV0 : w11.cell? ⟨w5.heap.size, 0, none⟩ = some (.int .i64 n1) := cell_blk V11.out 0; have pV1 : w11.cell? ⟨w5.heap.size, 1, none⟩ = some (.slice q5 Z1.length c5) := cell_blk V11.out 1; have hV := (Array.getElem?_eq_some_iff.1 V11.out).1
    have pN0 : w11.cell? ⟨w6.heap.size, 0, none⟩ = some (.int .i64 bb) := cell_blk N11.out 0; have pN1 : w11.cell? ⟨w6.heap.size, 1, none⟩ = some (.slice q6 L.length c6) := cell_blk N11.out 1; have hN := (Array.getElem?_eq_some_iff.1 N11.out).1
    go_wp2_with fail
    refine (laws_markTurnDigits2 _ _ (1) X11.out (by omega) (by omega) (by omega)).mono ?_; rintro e w12 ⟨rfl, z12, g12, o12⟩
    have R12 := Lib.hid (apart_grown (own_alloc R11.out z12) g12 (APX_R.out.symm))
    have Y12 := Lib.hid (apart_grown (own_alloc Y11.out z12) g12 APY_X.out)
    have G12 := Lib.hid (apart_grown (own_alloc G11.out z12) g12 APG_X.out)
    have A12 := Lib.hid (carryG g12 A11.out NEA_X.out)
    have C12 := Lib.hid (carryG g12 C11.out NEC_X.out)
    have M12 := Lib.hid (carryG g12 M11.out NEM_X.out)
    have U12 := Lib.hid (carryG g12 U11.out NEU_X.out)
    have V12 := Lib.hid (carryG g12 V11.out NEV_X.out)
    have N12 := Lib.hid (carryG g12 N11.out NEN_X.out)
    have B12 := Lib.hid (grown_below (B11.out.alloc B11.out.size z12) (own_alloc X11.out z12) g12 (by omega) (B11.out.alloc B11.out.size z12).size)
    have t12 : w11.heap.size ≤ w12.heap.size := by have := g12.size; simp only [World.size_alloc] at this; omega
    have s12 : w.heap.size ≤ w12.heap.size := B12.out.size
    have X12 := Lib.hid o12; clear o12 g12
    clear pA0 pA1 hA pC0 pC1 hC pM0 pM1 hM pU0 pU1 hU pV0 pV1 hV pN0 pN1 hN
    have pA0 : w12.cell? ⟨w.heap.size, 0, none⟩ = some (.int .i64 n0) := cell_blk A12.out 0; have pA1 : w12.cell? ⟨w.heap.size, 1, none⟩ = some (.slice a0 len0 cap0) := cell_blk A12.out 1; have hA := (Array.getElem?_eq_some_iff.1 A12.out).1
    have pC0 : w12.cell? ⟨w.heap.size + 1, 0, none⟩ = some (.int .i64 n1) := cell_blk C12.out 0; have pC1 : w12.cell? ⟨w.heap.size + 1, 1, none⟩ = some (.slice a1 len1 cap1) := cell_blk C12.out 1; have hC := (Array.getElem?_eq_some_iff.1 C12.out).1
    have pM0 : w12.cell? ⟨gM, 0, none⟩ = some (.int .i64 bb) := cell_blk M12.out 0; have pM1 : w12.cell? ⟨gM, 1, none⟩ = some (.slice q3 L.length c3) := cell_blk M12.out 1; have hM := (Array.getElem?_eq_some_iff.1 M12.out).1
    have pU0 : w12.cell? ⟨w4.heap.size, 0, none⟩ = some (.int .i64 n0) := cell_blk U12.out 0; have pU1 : w12.cell? ⟨w4.heap.size, 1, none⟩ = some (.slice q4 Z0.length c4) := cell_blk U12.out 1; have hU := (Array.getElem?_eq_some_iff.1 U12.out).1
    have pV0 : w12.cell? ⟨w5.heap.size, 0, none⟩ = some (.int .i64 n1) := cell_blk V12.out 0; have pV1 : w12.cell? ⟨w5.heap.size, 1, none⟩ = some (.slice q5 Z1.length c5) := cell_blk V12.out 1; have hV := (Array.getElem?_eq_some_iff.1 V12.out).1
    have pN0 : w12.cell? ⟨w6.heap.size, 0, none⟩ = some (.int .i64 bb) := cell_blk N12.out 0; have pN1 : w12.cell? ⟨w6.heap.size, 1, none⟩ = some (.slice q6 L.length c6) := cell_blk N12.out 1; have hN := (Array.getElem?_eq_some_iff.1 N12.out).1
    clear pA0 pA1 hA pC0 pC1 hC pM0 pM1 hM pU0 pU1 hU pV0 pV1 hV pN0 pN1 hN
    have pA0 : w12.cell? ⟨w.heap.size, 0, none⟩ = some (.int .i64 n0) := cell_blk A12.out 0; have pA1 : w12.cell? ⟨w.heap.size, 1, none⟩ = some (.slice a0 len0 cap0) := cell_blk A12.out 1; have hA := (Array.getElem?_eq_some_iff.1 A12.out).1
    have pC0 : w12.cell? ⟨w.heap.size + 1, 0, none⟩ = some (.int .i64 n1) := cell_blk C12.out 0; have pC1 : w12.cell? ⟨w.heap.size + 1, 1, none⟩ = some (.slice a1 len1 cap1) := cell_blk C12.out 1; have hC := (Array.getElem?_eq_some_iff.1 C12.out).1
    have pM0 : w12.cell? ⟨gM, 0, none⟩ = some (.int .i64 bb) := cell_blk M12.out 0; have pM1 : w12.cell? ⟨gM, 1, none⟩ = some (.slice q3 L.length c3) := cell_blk M12.out 1; have hM := (Array.getElem?_eq_some_iff.1 M12.out).1
    have pV0 : w12.cell? ⟨w5.heap.size, 0, none⟩ = some (.int .i64 n1) := cell_blk V12.out 0; have pV1 : w12.cell? ⟨w5.heap.size, 1, none⟩ = some (.slice q5 Z1.length c5) := cell_blk V12.out 1; have hV := (Array.getElem?_eq_some_iff.1 V12.out).1
    have pN0 : w12.cell? ⟨w6.heap.size, 0, none⟩ = some (.int .i64 bb) := cell_blk N12.out 0; have pN1 : w12.cell? ⟨w6.heap.size, 1, none⟩ = some (.slice q6 L.length c6) := cell_blk N12.out 1; have hN := (Array.getElem?_eq_some_iff.1 N12.out).1
    go_wp2_with fail
    refine (laws_markTurnDigits2 _ _ (1 + (Z0.length : Int)) Y12.out (by omega) (by omega) (by omega)).mono ?_; rintro e w13 ⟨rfl, z13, g13, o13⟩
    have R13 := Lib.hid (apart_grown (own_alloc R12.out z13) g13 (APY_R.out.symm))
    have G13 := Lib.hid (apart_grown (own_alloc G12.out z13) g13 APG_Y.out)
    have A13 := Lib.hid (carryG g13 A12.out NEA_Y.out)
    have C13 := Lib.hid (carryG g13 C12.out NEC_Y.out)
    have M13 := Lib.hid (carryG g13 M12.out NEM_Y.out)
    have V13 := Lib.hid (carryG g13 V12.out NEV_Y.out)
    have N13 := Lib.hid (carryG g13 N12.out NEN_Y.out)
    have B13 := Lib.hid (grown_below (B12.out.alloc B12.out.size z13) (own_alloc Y12.out z13) g13 (by omega) (B12.out.alloc B12.out.size z13).size)
    have t13 : w12.heap.size ≤ w13.heap.size := by have := g13.size; simp only [World.size_alloc] at this; omega
    have s13 : w.heap.size ≤ w13.heap.size := B13.out.size
    have Y13 := Lib.hid o13; clear o13 g13
    clear pA0 pA1 hA pC0 pC1 hC pM0 pM1 hM pV0 pV1 hV pN0 pN1 hN
    have pA0 : w13.cell? ⟨w.heap.size, 0, none⟩ = some (.int .i64 n0) := cell_blk A13.out 0; have pA1 : w13.cell? ⟨w.heap.size, 1, none⟩ = some (.slice a0 len0 cap0) := cell_blk A13.out 1; have hA := (Array.getElem?_eq_some_iff.1 A13.out).1
    have pC0 : w13.cell? ⟨w.heap.size + 1, 0, none⟩ = some (.int .i64 n1) := cell_blk C13.out 0; have pC1 : w13.cell? ⟨w.heap.size + 1, 1, none⟩ = some (.slice a1 len1 cap1) := cell_blk C13.out 1; have hC := (Array.getElem?_eq_some_iff.1 C13.out).1
    have pM0 : w13.cell? ⟨gM, 0, none⟩ = some (.int .i64 bb) := cell_blk M13.out 0; have pM1 : w13.cell? ⟨gM, 1, none⟩ = some (.slice q3 L.length c3) := cell_blk M13.out 1; have hM := (Array.getElem?_eq_some_iff.1 M13.out).1
    have pV0 : w13.cell? ⟨w5.heap.size, 0, none⟩ = some (.int .i64 n1) := cell_blk V13.out 0; have pV1 : w13.cell? ⟨w5.heap.size, 1, none⟩ = some (.slice q5 Z1.length c5) := cell_blk V13.out 1; have hV := (Array.getElem?_eq_some_iff.1 V13.out).1
    have pN0 : w13.cell? ⟨w6.heap.size, 0, none⟩ = some (.int .i64 bb) := cell_blk N13.out 0; have pN1 : w13.cell? ⟨w6.heap.size, 1, none⟩ = some (.slice q6 L.length c6) := cell_blk N13.out 1; have hN := (Array.getElem?_eq_some_iff.1 N13.out).1
    clear pA0 pA1 hA pC0 pC1 hC pM0 pM1 hM pV0 pV1 hV pN0 pN1 hN
    have pA0 : w13.cell? ⟨w.heap.size, 0, none⟩ = some (.int .i64 n0) := cell_blk A13.out 0; have pA1 : w13.cell? ⟨w.heap.size, 1, none⟩ = some (.slice a0 len0 cap0) := cell_blk A13.out 1; have hA := (Array.getElem?_eq_some_iff.1 A13.out).1
    have pC0 : w13.cell? ⟨w.heap.size + 1, 0, none⟩ = some (.int .i64 n1) := cell_blk C13.out 0; have pC1 : w13.cell? ⟨w.heap.size + 1, 1, none⟩ = some (.slice a1 len1 cap1) := cell_blk C13.out 1; have hC := (Array.getElem?_eq_some_iff.1 C13.out).1
    have pM0 : w13.cell? ⟨gM, 0, none⟩ = some (.int .i64 bb) := cell_blk M13.out 0; have pM1 : w13.cell? ⟨gM, 1, none⟩ = some (.slice q3 L.length c3) := cell_blk M13.out 1; have hM := (Array.getElem?_eq_some_iff.1 M13.out).1
    have pN0 : w13.cell? ⟨w6.heap.size, 0, none⟩ = some (.int .i64 bb) := cell_blk N13.out 0; have pN1 : w13.cell? ⟨w6.heap.size, 1, none⟩ = some (.slice q6 L.length c6) := cell_blk N13.out 1; have hN := (Array.getElem?_eq_some_iff.1 N13.out).1
    go_wp2_with fail
    refine (laws_eqTurnDigits _ _ G13.out R13.out).mono ?_; rintro e w14 ⟨rfl, b14⟩
    have R14 := Lib.hid (own_keep b14 R13.out)
    have G14 := Lib.hid (own_keep b14 G13.out)
    have bw14 : Below w13.heap.size w13 w14 := b14
    have A14 := Lib.hid (carryB bw14 A13.out)
    have C14 := Lib.hid (carryB bw14 C13.out)
    have M14 := Lib.hid (carryB bw14 M13.out)
    have N14 := Lib.hid (carryB bw14 N13.out)
    have B14 := Lib.hid (Below.trans_size B13.out bw14)
    have s14 : w.heap.size ≤ w14.heap.size := B14.out.size; have t14 : w13.heap.size ≤ w14.heap.size := (by have := b14.size; first | omega | (simp at this; omega) | exact this)
    clear b14 bw14
    clear pA0 pA1 hA pC0 pC1 hC pM0 pM1 hM pN0 pN1 hN
    have pA0 : w14.cell? ⟨w.heap.size, 0, none⟩ = some (.int .i64 n0) := cell_blk A14.out 0; have pA1 : w14.cell? ⟨w.heap.size, 1, none⟩ = some (.slice a0 len0 cap0) := cell_blk A14.out 1; have hA := (Array.getElem?_eq_some_iff.1 A14.out).1
    have pC0 : w14.cell? ⟨w.heap.size + 1, 0, none⟩ = some (.int .i64 n1) := cell_blk C14.out 0; have pC1 : w14.cell? ⟨w.heap.size + 1, 1, none⟩ = some (.slice a1 len1 cap1) := cell_blk C14.out 1; have hC := (Array.getElem?_eq_some_iff.1 C14.out).1
    have pM0 : w14.cell? ⟨gM, 0, none⟩ = some (.int .i64 bb) := cell_blk M14.out 0; have pM1 : w14.cell? ⟨gM, 1, none⟩ = some (.slice q3 L.length c3) := cell_blk M14.out 1; have hM := (Array.getElem?_eq_some_iff.1 M14.out).1
    have pN0 : w14.cell? ⟨w6.heap.size, 0, none⟩ = some (.int .i64 bb) := cell_blk N14.out 0; have pN1 : w14.cell? ⟨w6.heap.size, 1, none⟩ = some (.slice q6 L.length c6) := cell_blk N14.out 1; have hN := (Array.getElem?_eq_some_iff.1 N14.out).1
    go_wp2_with fail
    refine (laws_markTurnDigits2 _ _ (1) G14.out (by omega) (by omega) (by omega)).mono ?_; rintro e w15 ⟨rfl, z15, g15, o15⟩
    have R15 := Lib.hid (apart_grown (own_alloc R14.out z15) g15 (APG_R.out.symm))
    have A15 := Lib.hid (carryG g15 A14.out NEA_G.out)
    have C15 := Lib.hid (carryG g15 C14.out NEC_G.out)
    have M15 := Lib.hid (carryG g15 M14.out NEM_G.out)
    have N15 := Lib.hid (carryG g15 N14.out NEN_G.out)
    have B15 := Lib.hid (grown_below (B14.out.alloc B14.out.size z15) (own_alloc G14.out z15) g15 (by omega) (B14.out.alloc B14.out.size z15).size)
    have t15 : w14.heap.size ≤ w15.heap.size := by have := g15.size; simp only [World.size_alloc] at this; omega
    have s15 : w.heap.size ≤ w15.heap.size := B15.out.size
    have G15 := Lib.hid o15; clear o15 g15
    clear pA0 pA1 hA pC0 pC1 hC pM0 pM1 hM pN0 pN1 hN
    have pA0 : w15.cell? ⟨w.heap.size, 0, none⟩ = some (.int .i64 n0) := cell_blk A15.out 0; have pA1 : w15.cell? ⟨w.heap.size, 1, none⟩ = some (.slice a0 len0 cap0) := cell_blk A15.out 1; have hA := (Array.getElem?_eq_some_iff.1 A15.out).1
    have pC0 : w15.cell? ⟨w.heap.size + 1, 0, none⟩ = some (.int .i64 n1) := cell_blk C15.out 0; have pC1 : w15.cell? ⟨w.heap.size + 1, 1, none⟩ = some (.slice a1 len1 cap1) := cell_blk C15.out 1; have hC := (Array.getElem?_eq_some_iff.1 C15.out).1
    have pM0 : w15.cell? ⟨gM, 0, none⟩ = some (.int .i64 bb) := cell_blk M15.out 0; have pM1 : w15.cell? ⟨gM, 1, none⟩ = some (.slice q3 L.length c3) := cell_blk M15.out 1; have hM := (Array.getElem?_eq_some_iff.1 M15.out).1
    have pN0 : w15.cell? ⟨w6.heap.size, 0, none⟩ = some (.int .i64 bb) := cell_blk N15.out 0; have pN1 : w15.cell? ⟨w6.heap.size, 1, none⟩ = some (.slice q6 L.length c6) := cell_blk N15.out 1; have hN := (Array.getElem?_eq_some_iff.1 N15.out).1
    go_wp2_with fail
    refine (laws_heldTurnDigits _ _ 1 _ G15.out (by omega) (by omega) (by omega)).mono ?_; rintro e w16 ⟨rfl, b16⟩
    have R16 := Lib.hid (own_keep b16 R15.out)
    have G16 := Lib.hid (own_keep b16 G15.out)
    have bw16 : Below w15.heap.size w15 w16 := b16
    have A16 := Lib.hid (carryB bw16 A15.out)
    have C16 := Lib.hid (carryB bw16 C15.out)
    have M16 := Lib.hid (carryB bw16 M15.out)
    have N16 := Lib.hid (carryB bw16 N15.out)
    have B16 := Lib.hid (Below.trans_size B15.out bw16)
    have s16 : w.heap.size ≤ w16.heap.size := B16.out.size; have t16 : w15.heap.size ≤ w16.heap.size := (by have := b16.size; first | omega | (simp at this; omega) | exact this)
    clear b16 bw16
    clear pA0 pA1 hA pC0 pC1 hC pM0 pM1 hM pN0 pN1 hN
    have pA0 : w16.cell? ⟨w.heap.size, 0, none⟩ = some (.int .i64 n0) := cell_blk A16.out 0; have pA1 : w16.cell? ⟨w.heap.size, 1, none⟩ = some (.slice a0 len0 cap0) := cell_blk A16.out 1; have hA := (Array.getElem?_eq_some_iff.1 A16.out).1
    have pC0 : w16.cell? ⟨w.heap.size + 1, 0, none⟩ = some (.int .i64 n1) := cell_blk C16.out 0; have pC1 : w16.cell? ⟨w.heap.size + 1, 1, none⟩ = some (.slice a1 len1 cap1) := cell_blk C16.out 1; have hC := (Array.getElem?_eq_some_iff.1 C16.out).1
    have pM0 : w16.cell? ⟨gM, 0, none⟩ = some (.int .i64 bb) := cell_blk M16.out 0; have pM1 : w16.cell? ⟨gM, 1, none⟩ = some (.slice q3 L.length c3) := cell_blk M16.out 1; have hM := (Array.getElem?_eq_some_iff.1 M16.out).1
    have pN0 : w16.cell? ⟨w6.heap.size, 0, none⟩ = some (.int .i64 bb) := cell_blk N16.out 0; have pN1 : w16.cell? ⟨w6.heap.size, 1, none⟩ = some (.slice q6 L.length c6) := cell_blk N16.out 1; have hN := (Array.getElem?_eq_some_iff.1 N16.out).1
    go_upto_region 31 with fail
    go_cut [15, 16] from 17 to 118 (fun pa pc wx => ∃ (gw : Nat) (vw : Value), pa = .pointer (some ⟨gw, 0, none⟩) ∧ pc = .int .i64 cc ∧ Own wx w16.heap.size vw L ∧ wx.heap[gw]? = some (.cells #[.int .i64 bb, vw] 26) ∧ w16.heap.size ≤ gw ∧ some gw ≠ vw.ownBlock ∧ Below w16.heap.size w16 wx)
    case first =>
      go_region_held3 (fun w' => w'.cell? ⟨w.heap.size, 0, none⟩ = some (.int .i64 n0) ∧ w'.cell? ⟨w.heap.size, 1, none⟩ = some (.slice a0 len0 cap0) ∧ w'.cell? ⟨w.heap.size + 1, 0, none⟩ = some (.int .i64 n1) ∧ w'.cell? ⟨w.heap.size + 1, 1, none⟩ = some (.slice a1 len1 cap1) ∧ w'.cell? ⟨gM, 0, none⟩ = some (.int .i64 bb) ∧ w'.cell? ⟨gM, 1, none⟩ = some (.slice q3 L.length c3) ∧ w'.cell? ⟨w6.heap.size, 0, none⟩ = some (.int .i64 bb) ∧ w'.cell? ⟨w6.heap.size, 1, none⟩ = some (.slice q6 L.length c6)) (first | (refine ⟨?_, ?_, ?_, ?_, ?_, ?_, ?_, ?_⟩ <;> assumption) | go_keep) (first | (go_at_call 10; (with_reducible refine (I.out _ _ _ _ _ (own_alloc P18.out _) (own_alloc Q18.out _)).mono ?_); rintro e w19 ⟨v19, rfl, o19, b19⟩; obtain ⟨yy, bw, st19, -⟩ := blk1 b19; have YY19 := Lib.hid yy; have YB := Lib.hid (show w16.heap.size ≤ w18.heap.size by omega); clear yy; have bz := Below.trans_size BZ18.out bw; have zA0 := (bz.cell (p := ⟨w.heap.size, 0, none⟩) hA).trans pA0; have zA1 := (bz.cell (p := ⟨w.heap.size, 1, none⟩) hA).trans pA1; have zC0 := (bz.cell (p := ⟨w.heap.size + 1, 0, none⟩) hC).trans pC0; have zC1 := (bz.cell (p := ⟨w.heap.size + 1, 1, none⟩) hC).trans pC1; have zM0 := (bz.cell (p := ⟨gM, 0, none⟩) hM).trans pM0; have zM1 := (bz.cell (p := ⟨gM, 1, none⟩) hM).trans pM1; have zN0 := (bz.cell (p := ⟨w6.heap.size, 0, none⟩) hN).trans pN0; have zN1 := (bz.cell (p := ⟨w6.heap.size, 1, none⟩) hN).trans pN1; have BZ19 := Lib.hid bz; have sz19 : w16.heap.size ≤ w19.heap.size := bz.size; have NV := Lib.hid (show ∀ g : Nat, g < w18.heap.size + 1 → v19.ownBlock ≠ some g from fun g hg h => by have := own_block_lt o19 g h; (try simp at this); omega); have NW := Lib.hid (show some w19.heap.size ≠ v19.ownBlock from fun h => by have := (own_block_lt o19 _ h.symm).2; omega); have R19 := Lib.hid (own_base o19 (show w16.heap.size ≤ _ by first | omega | (simp; omega))); have neAw18 := (show ¬ w.heap.size = w18.heap.size by omega); have nfAw18 := (show ¬ w18.heap.size = w.heap.size by omega); have neCw18 := (show ¬ w.heap.size + 1 = w18.heap.size by omega); have nfCw18 := (show ¬ w18.heap.size = w.heap.size + 1 by omega); have neMw18 := (show ¬ gM = w18.heap.size by omega); have nfMw18 := (show ¬ w18.heap.size = gM by omega); have neNw18 := (show ¬ w6.heap.size = w18.heap.size by omega); have nfNw18 := (show ¬ w18.heap.size = w6.heap.size by omega); have d0 := cell_blk YY19.out 0; have d1 := cell_blk YY19.out 1; have f0 := frozen_blk YY19.out 0; have f1 := frozen_blk YY19.out 1; have gY := (Array.getElem?_eq_some_iff.1 YY19.out).1; obtain ⟨q19, c19, rfl, -, -⟩ := own_form o19; clear o19 b19 bw bz) | (go_at_call 10; (with_reducible refine (I.out _ _ _ _ _ P18.out Q18.out).mono ?_); rintro e w19 ⟨v19, rfl, o19, b19⟩; have bw := (b19); have st19 : w18.heap.size ≤ w19.heap.size := bw.size; have bz := Below.trans_size BZ18.out bw; have zA0 := (bz.cell (p := ⟨w.heap.size, 0, none⟩) hA).trans pA0; have zA1 := (bz.cell (p := ⟨w.heap.size, 1, none⟩) hA).trans pA1; have zC0 := (bz.cell (p := ⟨w.heap.size + 1, 0, none⟩) hC).trans pC0; have zC1 := (bz.cell (p := ⟨w.heap.size + 1, 1, none⟩) hC).trans pC1; have zM0 := (bz.cell (p := ⟨gM, 0, none⟩) hM).trans pM0; have zM1 := (bz.cell (p := ⟨gM, 1, none⟩) hM).trans pM1; have zN0 := (bz.cell (p := ⟨w6.heap.size, 0, none⟩) hN).trans pN0; have zN1 := (bz.cell (p := ⟨w6.heap.size, 1, none⟩) hN).trans pN1; have BZ19 := Lib.hid bz; have sz19 : w16.heap.size ≤ w19.heap.size := bz.size; have YY19 := Lib.hid (carryB bw YY18.out); have NV := Lib.hid (show ∀ g : Nat, g < w18.heap.size → v19.ownBlock ≠ some g from fun g hg h => by have := own_block_lt o19 g h; (try simp at this); omega); have NW := Lib.hid (show some w19.heap.size ≠ v19.ownBlock from fun h => by have := (own_block_lt o19 _ h.symm).2; omega); have R19 := Lib.hid (own_base o19 (show w16.heap.size ≤ _ by first | omega | (simp; omega))); have neAw16 := (show ¬ w.heap.size = w16.heap.size by omega); have nfAw16 := (show ¬ w16.heap.size = w.heap.size by omega); have neAw17 := (show ¬ w.heap.size = w17.heap.size by omega); have nfAw17 := (show ¬ w17.heap.size = w.heap.size by omega); have neCw16 := (show ¬ w.heap.size + 1 = w16.heap.size by omega); have nfCw16 := (show ¬ w16.heap.size = w.heap.size + 1 by omega); have neCw17 := (show ¬ w.heap.size + 1 = w17.heap.size by omega); have nfCw17 := (show ¬ w17.heap.size = w.heap.size + 1 by omega); have neMw16 := (show ¬ gM = w16.heap.size by omega); have nfMw16 := (show ¬ w16.heap.size = gM by omega); have neMw17 := (show ¬ gM = w17.heap.size by omega); have nfMw17 := (show ¬ w17.heap.size = gM by omega); have neNw16 := (show ¬ w6.heap.size = w16.heap.size by omega); have nfNw16 := (show ¬ w16.heap.size = w6.heap.size by omega); have neNw17 := (show ¬ w6.heap.size = w17.heap.size by omega); have nfNw17 := (show ¬ w17.heap.size = w6.heap.size by omega); have d0 := cell_blk YY19.out 0; have d1 := cell_blk YY19.out 1; have f0 := frozen_blk YY19.out 0; have f1 := frozen_blk YY19.out 1; have gY := (Array.getElem?_eq_some_iff.1 YY19.out).1; obtain ⟨q19, c19, rfl, -, -⟩ := own_form o19; clear o19 b19 bw bz) | (go_at_call 10; (with_reducible refine (I.out _ _ _ _ _ P18.out Q18.out).mono ?_); rintro e w19 ⟨v19, rfl, o19, b19⟩; have bw := (b19); have st19 : w18.heap.size ≤ w19.heap.size := bw.size; have bz := Below.trans_size BZ18.out bw; have zA0 := (bz.cell (p := ⟨w.heap.size, 0, none⟩) hA).trans pA0; have zA1 := (bz.cell (p := ⟨w.heap.size, 1, none⟩) hA).trans pA1; have zC0 := (bz.cell (p := ⟨w.heap.size + 1, 0, none⟩) hC).trans pC0; have zC1 := (bz.cell (p := ⟨w.heap.size + 1, 1, none⟩) hC).trans pC1; have zM0 := (bz.cell (p := ⟨gM, 0, none⟩) hM).trans pM0; have zM1 := (bz.cell (p := ⟨gM, 1, none⟩) hM).trans pM1; have zN0 := (bz.cell (p := ⟨w6.heap.size, 0, none⟩) hN).trans pN0; have zN1 := (bz.cell (p := ⟨w6.heap.size, 1, none⟩) hN).trans pN1; have BZ19 := Lib.hid bz; have sz19 : w16.heap.size ≤ w19.heap.size := bz.size; have NV := Lib.hid (show ∀ g : Nat, g < w18.heap.size → v19.ownBlock ≠ some g from fun g hg h => by have := own_block_lt o19 g h; (try simp at this); omega); have NW := Lib.hid (show some w19.heap.size ≠ v19.ownBlock from fun h => by have := (own_block_lt o19 _ h.symm).2; omega); have R19 := Lib.hid (own_base o19 (show w16.heap.size ≤ _ by first | omega | (simp; omega))); obtain ⟨q19, c19, rfl, -, -⟩ := own_form o19; clear o19 b19 bw bz) | (go_at_call 9; (with_reducible refine (laws_toTurnDigits _ a1 len1 cap1 z1 _ (W1.out.below (Below.alloc (Below.trans_size B16.out BZ17.out) (Below.trans_size B16.out BZ17.out).size _)) (by omega)).mono ?_); rintro e w18 ⟨v18, rfl, o18, b18⟩; rw [HZ1.out] at o18; obtain ⟨yy, bw, st18, -⟩ := blk1 b18; have YY18 := Lib.hid yy; have YB := Lib.hid (show w16.heap.size ≤ w17.heap.size by omega); clear yy; have bz := Below.trans_size BZ17.out bw; have zA0 := (bz.cell (p := ⟨w.heap.size, 0, none⟩) hA).trans pA0; have zA1 := (bz.cell (p := ⟨w.heap.size, 1, none⟩) hA).trans pA1; have zC0 := (bz.cell (p := ⟨w.heap.size + 1, 0, none⟩) hC).trans pC0; have zC1 := (bz.cell (p := ⟨w.heap.size + 1, 1, none⟩) hC).trans pC1; have zM0 := (bz.cell (p := ⟨gM, 0, none⟩) hM).trans pM0; have zM1 := (bz.cell (p := ⟨gM, 1, none⟩) hM).trans pM1; have zN0 := (bz.cell (p := ⟨w6.heap.size, 0, none⟩) hN).trans pN0; have zN1 := (bz.cell (p := ⟨w6.heap.size, 1, none⟩) hN).trans pN1; have BZ18 := Lib.hid bz; have sz18 : w16.heap.size ≤ w18.heap.size := bz.size; have P18 := Lib.hid (own_keep b18 (own_alloc P17.out _)); have Q18 := Lib.hid o18; clear o18 b18 bw bz) | (go_at_call 9; (with_reducible refine (laws_toTurnDigits _ a1 len1 cap1 z1 _ (W1.out.below (Below.trans_size B16.out BZ17.out)) (by omega)).mono ?_); rintro e w18 ⟨v18, rfl, o18, b18⟩; rw [HZ1.out] at o18; have bw := (b18); have st18 : w17.heap.size ≤ w18.heap.size := bw.size; have bz := Below.trans_size BZ17.out bw; have zA0 := (bz.cell (p := ⟨w.heap.size, 0, none⟩) hA).trans pA0; have zA1 := (bz.cell (p := ⟨w.heap.size, 1, none⟩) hA).trans pA1; have zC0 := (bz.cell (p := ⟨w.heap.size + 1, 0, none⟩) hC).trans pC0; have zC1 := (bz.cell (p := ⟨w.heap.size + 1, 1, none⟩) hC).trans pC1; have zM0 := (bz.cell (p := ⟨gM, 0, none⟩) hM).trans pM0; have zM1 := (bz.cell (p := ⟨gM, 1, none⟩) hM).trans pM1; have zN0 := (bz.cell (p := ⟨w6.heap.size, 0, none⟩) hN).trans pN0; have zN1 := (bz.cell (p := ⟨w6.heap.size, 1, none⟩) hN).trans pN1; have BZ18 := Lib.hid bz; have sz18 : w16.heap.size ≤ w18.heap.size := bz.size; have YY18 := Lib.hid (carryB bw YY17.out); have P18 := Lib.hid (own_keep b18 P17.out); have Q18 := Lib.hid o18; clear o18 b18 bw bz) | (go_at_call 9; (with_reducible refine (laws_toTurnDigits _ a1 len1 cap1 z1 _ (W1.out.below (Below.trans_size B16.out BZ17.out)) (by omega)).mono ?_); rintro e w18 ⟨v18, rfl, o18, b18⟩; rw [HZ1.out] at o18; have bw := (b18); have st18 : w17.heap.size ≤ w18.heap.size := bw.size; have bz := Below.trans_size BZ17.out bw; have zA0 := (bz.cell (p := ⟨w.heap.size, 0, none⟩) hA).trans pA0; have zA1 := (bz.cell (p := ⟨w.heap.size, 1, none⟩) hA).trans pA1; have zC0 := (bz.cell (p := ⟨w.heap.size + 1, 0, none⟩) hC).trans pC0; have zC1 := (bz.cell (p := ⟨w.heap.size + 1, 1, none⟩) hC).trans pC1; have zM0 := (bz.cell (p := ⟨gM, 0, none⟩) hM).trans pM0; have zM1 := (bz.cell (p := ⟨gM, 1, none⟩) hM).trans pM1; have zN0 := (bz.cell (p := ⟨w6.heap.size, 0, none⟩) hN).trans pN0; have zN1 := (bz.cell (p := ⟨w6.heap.size, 1, none⟩) hN).trans pN1; have BZ18 := Lib.hid bz; have sz18 : w16.heap.size ≤ w18.heap.size := bz.size; have P18 := Lib.hid (own_keep b18 P17.out); have Q18 := Lib.hid o18; clear o18 b18 bw bz) | (go_at_call 9; (with_reducible refine (laws_toTurnDigits _ a0 len0 cap0 z0 _ (W0.out.below ((B16.out.alloc B16.out.size _).drew)) (by omega)).mono ?_); rintro e w17 ⟨v17, rfl, o17, b17⟩; rw [HZ0.out] at o17; obtain ⟨yy, bw, st17⟩ := blkd1 (w := w16) (A := (.cells #[.int .i64 0, .slice none 0 0] 26)) b17; have YY17 := Lib.hid yy; have YB := Lib.hid (show w16.heap.size ≤ w16.heap.size by omega); clear yy; have bz := bw; have zA0 := (bz.cell (p := ⟨w.heap.size, 0, none⟩) hA).trans pA0; have zA1 := (bz.cell (p := ⟨w.heap.size, 1, none⟩) hA).trans pA1; have zC0 := (bz.cell (p := ⟨w.heap.size + 1, 0, none⟩) hC).trans pC0; have zC1 := (bz.cell (p := ⟨w.heap.size + 1, 1, none⟩) hC).trans pC1; have zM0 := (bz.cell (p := ⟨gM, 0, none⟩) hM).trans pM0; have zM1 := (bz.cell (p := ⟨gM, 1, none⟩) hM).trans pM1; have zN0 := (bz.cell (p := ⟨w6.heap.size, 0, none⟩) hN).trans pN0; have zN1 := (bz.cell (p := ⟨w6.heap.size, 1, none⟩) hN).trans pN1; have BZ17 := Lib.hid bz; have sz17 : w16.heap.size ≤ w17.heap.size := bz.size; have P17 := Lib.hid o17; clear o17 b17 bw bz; skip) | (go_at_call 9; (with_reducible refine (laws_toTurnDigits _ a0 len0 cap0 z0 _ (W0.out.below (B16.out.drew)) (by omega)).mono ?_); rintro e w17 ⟨v17, rfl, o17, b17⟩; rw [HZ0.out] at o17; have bw := (Below.trans_size (Below.refl w16.heap.size w16).drew b17); have st17 : w16.heap.size ≤ w17.heap.size := bw.size; have bz := bw; have zA0 := (bz.cell (p := ⟨w.heap.size, 0, none⟩) hA).trans pA0; have zA1 := (bz.cell (p := ⟨w.heap.size, 1, none⟩) hA).trans pA1; have zC0 := (bz.cell (p := ⟨w.heap.size + 1, 0, none⟩) hC).trans pC0; have zC1 := (bz.cell (p := ⟨w.heap.size + 1, 1, none⟩) hC).trans pC1; have zM0 := (bz.cell (p := ⟨gM, 0, none⟩) hM).trans pM0; have zM1 := (bz.cell (p := ⟨gM, 1, none⟩) hM).trans pM1; have zN0 := (bz.cell (p := ⟨w6.heap.size, 0, none⟩) hN).trans pN0; have zN1 := (bz.cell (p := ⟨w6.heap.size, 1, none⟩) hN).trans pN1; have BZ17 := Lib.hid bz; have sz17 : w16.heap.size ≤ w17.heap.size := bz.size; have P17 := Lib.hid o17; clear o17 b17 bw bz; skip))
      all_goals (
      go_wp2_with fail
      go_meet
      case rel =>
        first
          | exact ⟨_, _, rfl, rfl, own_alloc R19.out _, heap_last _ _, sz19, NW.out, BZ19.out.alloc BZ19.out.size _⟩
          | exact ⟨_, _, rfl, rfl, own_setCell_ne (own_setCell_ne R19.out (NV.out _ (by omega))) (NV.out _ (by omega)), setCell_blk (setCell0_blk YY19.out _) _, YB.out, fun e => NV.out _ (by omega) e.symm, (BZ19.out.setCell YB.out _).setCell YB.out _⟩)
    case rest =>
      obtain ⟨gK, v17, rfl, rfl, o17, y17, hg17, n17, b17⟩ := hcut
      generalize wc = w17 at *
      have APH_R := Lib.hid (apart_new R16.out o17 (Nat.le_refl _))
      have APH_G := Lib.hid (apart_new G16.out o17 (Nat.le_refl _))
      have R17 := Lib.hid (own_keep b17 R16.out)
      have G17 := Lib.hid (own_keep b17 G16.out)
      have A17 := Lib.hid (carryB b17 A16.out)
      have C17 := Lib.hid (carryB b17 C16.out)
      have M17 := Lib.hid (carryB b17 M16.out)
      have N17 := Lib.hid (carryB b17 N16.out)
      have NEA_H := Lib.hid (show some (w.heap.size) ≠ v17.ownBlock from fun h => by have := (own_block_lt o17 _ h.symm).1; omega)
      have NEC_H := Lib.hid (show some (w.heap.size + 1) ≠ v17.ownBlock from fun h => by have := (own_block_lt o17 _ h.symm).1; omega)
      have NEM_H := Lib.hid (show some (gM) ≠ v17.ownBlock from fun h => by have := (own_block_lt o17 _ h.symm).1; omega)
      have NEN_H := Lib.hid (show some (w6.heap.size) ≠ v17.ownBlock from fun h => by have := (own_block_lt o17 _ h.symm).1; omega)
      have K17 := Lib.hid y17; have NEK_H := Lib.hid n17
      have LBK := Lib.hid hg17
      have NEK_R := Lib.hid (show some gK ≠ (Value.slice q3 L.length c3).ownBlock from fun h => by have := (own_block_lt R16.out _ h.symm).2; omega)
      have NEK_G := Lib.hid (show some gK ≠ (Value.slice q6 L.length c6).ownBlock from fun h => by have := (own_block_lt G16.out _ h.symm).2; omega)
      have B17 := Lib.hid (Below.trans_size B16.out b17); have s17 : w.heap.size ≤ w17.heap.size := B17.out.size; have t17 : w16.heap.size ≤ w17.heap.size := b17.size
      have H17 := Lib.hid o17
      obtain ⟨q17, c17, rfl, -, -⟩ := own_form o17
      clear o17 y17 n17 b17
      clear pA0 pA1 hA pC0 pC1 hC pM0 pM1 hM pN0 pN1 hN
      have pA0 : w17.cell? ⟨w.heap.size, 0, none⟩ = some (.int .i64 n0) := cell_blk A17.out 0; have pA1 : w17.cell? ⟨w.heap.size, 1, none⟩ = some (.slice a0 len0 cap0) := cell_blk A17.out 1; have hA := (Array.getElem?_eq_some_iff.1 A17.out).1
      have pC0 : w17.cell? ⟨w.heap.size + 1, 0, none⟩ = some (.int .i64 n1) := cell_blk C17.out 0; have pC1 : w17.cell? ⟨w.heap.size + 1, 1, none⟩ = some (.slice a1 len1 cap1) := cell_blk C17.out 1; have hC := (Array.getElem?_eq_some_iff.1 C17.out).1
      have pM0 : w17.cell? ⟨gM, 0, none⟩ = some (.int .i64 bb) := cell_blk M17.out 0; have pM1 : w17.cell? ⟨gM, 1, none⟩ = some (.slice q3 L.length c3) := cell_blk M17.out 1; have hM := (Array.getElem?_eq_some_iff.1 M17.out).1
      have pN0 : w17.cell? ⟨w6.heap.size, 0, none⟩ = some (.int .i64 bb) := cell_blk N17.out 0; have pN1 : w17.cell? ⟨w6.heap.size, 1, none⟩ = some (.slice q6 L.length c6) := cell_blk N17.out 1; have hN := (Array.getElem?_eq_some_iff.1 N17.out).1
      have pK0 : w17.cell? ⟨gK, 0, none⟩ = some (.int .i64 bb) := cell_blk K17.out 0; have pK1 : w17.cell? ⟨gK, 1, none⟩ = some (.slice q17 L.length c17) := cell_blk K17.out 1; have hK := (Array.getElem?_eq_some_iff.1 K17.out).1
      go_wp2_with fail
      refine (laws_eqTurnDigits _ _ H17.out R17.out).mono ?_; rintro e w18 ⟨rfl, b18⟩
      have R18 := Lib.hid (own_keep b18 R17.out)
      have G18 := Lib.hid (own_keep b18 G17.out)
      have H18 := Lib.hid (own_keep b18 H17.out)
      have bw18 : Below w17.heap.size w17 w18 := b18
      have A18 := Lib.hid (carryB bw18 A17.out)
      have C18 := Lib.hid (carryB bw18 C17.out)
      have M18 := Lib.hid (carryB bw18 M17.out)
      have N18 := Lib.hid (carryB bw18 N17.out)
      have K18 := Lib.hid (carryB bw18 K17.out)
      have B18 := Lib.hid (Below.trans_size B17.out bw18)
      have s18 : w.heap.size ≤ w18.heap.size := B18.out.size; have t18 : w17.heap.size ≤ w18.heap.size := (by have := b18.size; first | omega | (simp at this; omega) | exact this)
      clear b18 bw18
      clear pA0 pA1 hA pC0 pC1 hC pM0 pM1 hM pN0 pN1 hN pK0 pK1 hK
      have pA0 : w18.cell? ⟨w.heap.size, 0, none⟩ = some (.int .i64 n0) := cell_blk A18.out 0; have pA1 : w18.cell? ⟨w.heap.size, 1, none⟩ = some (.slice a0 len0 cap0) := cell_blk A18.out 1; have hA := (Array.getElem?_eq_some_iff.1 A18.out).1
      have pC0 : w18.cell? ⟨w.heap.size + 1, 0, none⟩ = some (.int .i64 n1) := cell_blk C18.out 0; have pC1 : w18.cell? ⟨w.heap.size + 1, 1, none⟩ = some (.slice a1 len1 cap1) := cell_blk C18.out 1; have hC := (Array.getElem?_eq_some_iff.1 C18.out).1
      have pM0 : w18.cell? ⟨gM, 0, none⟩ = some (.int .i64 bb) := cell_blk M18.out 0; have pM1 : w18.cell? ⟨gM, 1, none⟩ = some (.slice q3 L.length c3) := cell_blk M18.out 1; have hM := (Array.getElem?_eq_some_iff.1 M18.out).1
      have pN0 : w18.cell? ⟨w6.heap.size, 0, none⟩ = some (.int .i64 bb) := cell_blk N18.out 0; have pN1 : w18.cell? ⟨w6.heap.size, 1, none⟩ = some (.slice q6 L.length c6) := cell_blk N18.out 1; have hN := (Array.getElem?_eq_some_iff.1 N18.out).1
      have pK0 : w18.cell? ⟨gK, 0, none⟩ = some (.int .i64 bb) := cell_blk K18.out 0; have pK1 : w18.cell? ⟨gK, 1, none⟩ = some (.slice q17 L.length c17) := cell_blk K18.out 1; have hK := (Array.getElem?_eq_some_iff.1 K18.out).1
      go_wp2_with fail
      refine (laws_heldTurnDigits _ _ 1 _ G18.out (by omega) (by omega) (by omega)).mono ?_; rintro e w19 ⟨rfl, b19⟩
      have R19 := Lib.hid (own_keep b19 R18.out)
      have G19 := Lib.hid (own_keep b19 G18.out)
      have H19 := Lib.hid (own_keep b19 H18.out)
      have bw19 : Below w18.heap.size w18 w19 := b19
      have A19 := Lib.hid (carryB bw19 A18.out)
      have C19 := Lib.hid (carryB bw19 C18.out)
      have M19 := Lib.hid (carryB bw19 M18.out)
      have N19 := Lib.hid (carryB bw19 N18.out)
      have K19 := Lib.hid (carryB bw19 K18.out)
      have B19 := Lib.hid (Below.trans_size B18.out bw19)
      have s19 : w.heap.size ≤ w19.heap.size := B19.out.size; have t19 : w18.heap.size ≤ w19.heap.size := (by have := b19.size; first | omega | (simp at this; omega) | exact this)
      clear b19 bw19
      clear pA0 pA1 hA pC0 pC1 hC pM0 pM1 hM pN0 pN1 hN pK0 pK1 hK
      have pA0 : w19.cell? ⟨w.heap.size, 0, none⟩ = some (.int .i64 n0) := cell_blk A19.out 0; have pA1 : w19.cell? ⟨w.heap.size, 1, none⟩ = some (.slice a0 len0 cap0) := cell_blk A19.out 1; have hA := (Array.getElem?_eq_some_iff.1 A19.out).1
      have pC0 : w19.cell? ⟨w.heap.size + 1, 0, none⟩ = some (.int .i64 n1) := cell_blk C19.out 0; have pC1 : w19.cell? ⟨w.heap.size + 1, 1, none⟩ = some (.slice a1 len1 cap1) := cell_blk C19.out 1; have hC := (Array.getElem?_eq_some_iff.1 C19.out).1
      have pM0 : w19.cell? ⟨gM, 0, none⟩ = some (.int .i64 bb) := cell_blk M19.out 0; have pM1 : w19.cell? ⟨gM, 1, none⟩ = some (.slice q3 L.length c3) := cell_blk M19.out 1; have hM := (Array.getElem?_eq_some_iff.1 M19.out).1
      have pN0 : w19.cell? ⟨w6.heap.size, 0, none⟩ = some (.int .i64 bb) := cell_blk N19.out 0; have pN1 : w19.cell? ⟨w6.heap.size, 1, none⟩ = some (.slice q6 L.length c6) := cell_blk N19.out 1; have hN := (Array.getElem?_eq_some_iff.1 N19.out).1
      have pK0 : w19.cell? ⟨gK, 0, none⟩ = some (.int .i64 bb) := cell_blk K19.out 0; have pK1 : w19.cell? ⟨gK, 1, none⟩ = some (.slice q17 L.length c17) := cell_blk K19.out 1; have hK := (Array.getElem?_eq_some_iff.1 K19.out).1
      go_wp2_with fail
      go_ret
      exact ⟨rfl, B19.out⟩

set_option maxRecDepth 100000 in
theorem lifted (os : Os) (started : os.Started) (H : Type) (enc : TypeId × Value → H) :
    ReturnsInHanded {} Try.checked os 3 .any (Rows.fnExactAddTurnsSpec.pre6 enc Try.prog Try.f3 Rows.fnExactAddTurnsRow.domain false) (Rows.fnExactAddTurnsSpec.post enc Try.prog Try.f3 false true false false) := by
  refine returnsInHanded_of_change (C := Try.checked) own started (by kernel_rfl) Try.func3
    (ChangeSpec.witness6 (enc := enc) (C := Try.checked) false ⟨#[], #[.agg #[.int .i64 0, .slice none 0 0], .agg #[.int .i64 0, .slice none 0 0]], []⟩ 8 (by kernel_rfl) (by kernel_rfl) (by kernel_rfl) (by kernel_rfl)) ?_
  intro W base args ds gs before hval0 hW hcnd _
  have hval : ∀ (j : Nat) t v, Try.f3.params[j]? = some t → args[j]? = some v → Value.okWide Try.prog W .any base t v := hval0
  have hW' := hW
  obtain ⟨p, q, hA0, hV, rfl, hfz, hnd⟩ := hW
  have hA : DataW.TrodAll enc Try.prog W 0 (fun _ => true) true Try.f3.params.toList args.toList ds p := hA0
  rw [Try.params3] at hA hval
  obtain ⟨v0, vs0, d0, ds0, p0, q0, hargs, rfl, rfl, h0, r0⟩ := trodAll_cons hA
  obtain ⟨v1, vs1, d1, ds1, p1, q1, rfl, rfl, rfl, h1, r1⟩ := trodAll_cons r0
  obtain ⟨rfl, rfl, rfl⟩ := trodAll_nil r1
  obtain rfl : args = #[v0, v1] := by cases args; simp_all
  obtain ⟨rfl, rfl⟩ := trodVars_none hV

  have k0 := h0
  have lt0 : ∀ x ∈ p0, x.block < W.heap.size := by obtain ⟨m, hm⟩ := k0; exact DataW.trod_lt m _ _ _ hm
  obtain ⟨c00, c01, y00, y01, m0, rfl, rfl, rfl, e00, e01⟩ := Go.Joins.open_agg2 Try.underlying24 (by kernel_rfl) (by kernel_rfl) (hval 0 24 v0 rfl rfl) h0
  obtain ⟨n0, q00, -, -⟩ := DataW.trod_int Try.underlying2 e00
  simp at q00; subst q00
  obtain ⟨a0, len0, cap0, z0, rfl, w0⟩ : ∃ a len cap zs, c01 = .slice a len cap ∧ IsRow .i64 W a len cap zs := by
    rcases open_ints Try.underlying22 Try.underlying2 (by kernel_rfl) e01 with ⟨hcs, _⟩ | ⟨x, l, c, zs, hcs, _, hl, hm, hz, _, hcell, hwz⟩
    · simp at hcs; exact ⟨none, 0, 0, [], hcs, .inl ⟨rfl, rfl, rfl, rfl⟩⟩
    · simp at hcs; exact ⟨some x, l, c, zs, hcs, .inr ⟨_, rfl, hl, hm, by simpa using hz, hcell, hwz⟩⟩

  have k1 := h1
  have lt1 : ∀ x ∈ p1, x.block < W.heap.size := by obtain ⟨m, hm⟩ := k1; exact DataW.trod_lt m _ _ _ hm
  obtain ⟨c10, c11, y10, y11, m1, rfl, rfl, rfl, e10, e11⟩ := Go.Joins.open_agg2 Try.underlying24 (by kernel_rfl) (by kernel_rfl) (hval 1 24 v1 rfl rfl) h1
  obtain ⟨n1, q10, -, -⟩ := DataW.trod_int Try.underlying2 e10
  simp at q10; subst q10
  obtain ⟨a1, len1, cap1, z1, rfl, w1⟩ : ∃ a len cap zs, c11 = .slice a len cap ∧ IsRow .i64 W a len cap zs := by
    rcases open_ints Try.underlying22 Try.underlying2 (by kernel_rfl) e11 with ⟨hcs, _⟩ | ⟨x, l, c, zs, hcs, _, hl, hm, hz, _, hcell, hwz⟩
    · simp at hcs; exact ⟨none, 0, 0, [], hcs, .inl ⟨rfl, rfl, rfl, rfl⟩⟩
    · simp at hcs; exact ⟨some x, l, c, zs, hcs, .inr ⟨_, rfl, hl, hm, by simpa using hz, hcell, hwz⟩⟩
  clear hA0 hval0
  refine (walk n0 a0 len0 cap0 z0 n1 a1 len1 cap1 z1 W w0 w1).mono fun e W' ⟨he, bel⟩ => ?_
  subst he
  exact ⟨_, rfl, _, _, _, [], _, [], hW', trodAll_mk1 (shut_bool Try.underlying4 _), (trodAll_cons_mk (Below.trod laidOut (by kernel_rfl) (of_decide_eq_true (by kernel_rfl)) k0 bel lt0) (trodAll_cons_mk (Below.trod laidOut (by kernel_rfl) (of_decide_eq_true (by kernel_rfl)) k1 bel lt1) trodAll_mk0)), rfl, bel.frame _, fun h => by cases h⟩

theorem over : Rows.fnExactAddTurnsRow.holds Try.pinned (OpenSpec.ofChange Rows.fnExactAddTurnsSpec) :=
  OpenClaim.holds_of_wide 3 Try.f3 rfl rfl rfl rfl rfl rfl rfl ⟨rfl, rfl, rfl, rfl, rfl⟩ rfl rfl rfl rfl rfl (by kernel_rfl) Try.func3 (by kernel_rfl)
    (of_decide_eq_true (by kernel_rfl)) (by unfold Func.isWrapper; first | (rw [if_pos (by decide +kernel)]; kernel_rfl) | (rw [if_neg (by decide +kernel)]; exact ⟨rfl, rfl⟩))
    (fun os started H enc _ => lifted os started H enc)

theorem proved : Rows.FnExactAddTurnsSaid := over
#print axioms proved
end Go.Proofs.Ytkhjmokjbiepgaa.fnExactAddTurns
