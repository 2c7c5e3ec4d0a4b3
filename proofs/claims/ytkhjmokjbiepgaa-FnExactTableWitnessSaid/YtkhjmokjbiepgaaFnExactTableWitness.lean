/- The law FnExactTableWitness returns true for every input, and its arguments read afterwards as they read before: no condition. -/
import Derived.Test.YtkhjmokjbiepgaaTwu
import Derived.OpenShut
import Derived.ShutString
import Derived.ChangeOld
import Derived.Below
namespace Go.Proofs.Ytkhjmokjbiepgaa.fnExactTableWitness
open Go.ChangeShapes Go.WideShapes Go.ChangeAt Go.RowKit
open Go.ChangeMaps (open_string shut_string)
set_option linter.unusedVariables false

theorem own : ownKnob Try.prog.godebug = none := by kernel_rfl
theorem laidOut : laidOutB Try.prog = true := by kernel_rfl

theorem carryA {w w' : World} {A O : Obj} {n : Nat} (b : Below (w.alloc A).heap.size (w.alloc A) w') (h : w.heap[n]? = some O) : w'.heap[n]? = some O := by
  have hn : n < w.heap.size := (Array.getElem?_eq_some_iff.1 h).1
  rw [b.block n (by simp; omega), Below.heap_alloc _ _ _ hn]; exact h
theorem carryB {w w' : World} {O : Obj} {n : Nat} (b : Below w.heap.size w w') (h : w.heap[n]? = some O) : w'.heap[n]? = some O := by
  have hn : n < w.heap.size := (Array.getElem?_eq_some_iff.1 h).1
  rw [b.block n hn]; exact h
theorem carryG {w w' : World} {O o : Obj} {n : Nat} {row : Option Nat} (hg : (w.alloc o).grownBy w' row) (h : w.heap[n]? = some O) (hne : some n ≠ row) : w'.heap[n]? = some O := by
  have hn : n < w.heap.size := (Array.getElem?_eq_some_iff.1 h).1
  rw [hg.block n (by simp; omega) hne, Below.heap_alloc _ _ _ hn]; exact h
theorem laws_markRegister2 {B : Nat} {v : Value} {zs : List Int} (b : Int) (w : World) (k : Int) (h1 : Own w B v zs) (h0 : 0 ≤ k) (hk : k ≤ 1000000000) (hl : zs.length ≤ 1000000000) :
    Calls Try.prog 25 #[.agg #[.int .i64 b, v], .int .i64 k] w fun e w' => e = .returned (.int .i64 (k + zs.length)) ∧ ∃ o, (w.alloc o).grownBy w' v.ownBlock ∧ Own w' B v (marks k zs.length) := by
  have H1 := Lib.hid h1
  obtain ⟨a1, c1, rfl, -, -⟩ := own_form h1
  clear h1
  go_enter Try.func25, Try.ntmps25
  go_wp2_with fail
  refine (laws_markInt64S _ k (own_alloc H1.out _) h0 hk hl).mono ?_; rintro e w1 ⟨rfl, o1, g1⟩
  have G1 := Lib.hid g1; have O1 := Lib.hid o1; clear o1 g1
  go_wp2_with fail
  go_ret
  exact ⟨rfl, _, G1.out, O1.out⟩
theorem laws_heldRegister {B : Nat} {v : Value} (b : Int) (w : World) (k : Int) (n : Nat) (h1 : Own w B v (marks k n)) (h0 : 0 ≤ k) (hk : k ≤ 1000000000) (hl : n ≤ 1000000000) :
    Calls Try.prog 26 #[.agg #[.int .i64 b, v], .int .i64 k] w (RetV w (.int .i64 (k + n))) := by
  have H1 := Lib.hid h1
  obtain ⟨a1, c1, rfl, -, -⟩ := own_form h1
  clear h1
  go_enter Try.func26, Try.ntmps26
  go_wp2_with fail
  refine (laws_heldInt64S _ k n (own_alloc H1.out _) h0 hk hl).mono ?_; rintro e w1 ⟨rfl, rfl⟩
  go_wp2_with fail
  go_ret
  exact ⟨rfl, below_al _ _⟩
theorem carryG0 {w w' : World} {O : Obj} {n : Nat} {row : Option Nat} (hg : w.grownBy w' row) (h : w.heap[n]? = some O) (hne : some n ≠ row) : w'.heap[n]? = some O := by
  have hn : n < w.heap.size := (Array.getElem?_eq_some_iff.1 h).1
  rw [hg.block n hn hne]; exact h
set_option maxHeartbeats 4000000 in
set_option maxRecDepth 100000 in
theorem walk (a0 : Int) (a1 : Option Addr) (len1 cap1 : Nat) (z1 : List Int) (w : World) (w0 : (Lit.int .i64 a0).wf = true) (w1 : IsRec w a1 len1 cap1 z1) :
    Calls Try.prog 5 #[.int .i64 a0, .slice a1 len1 cap1] w fun e w' => e = .returned (.bool true) ∧ Below w.heap.size w w' := by
  obtain ⟨lL, -⟩ := w1.len_le
  have W1 := Lib.hid w1; clear w1
  by_cases h0 : (len1 : Int) ≤ 1048576
  rotate_left
  · go_enter Try.func5, Try.ntmps5
    go_wp2_with fail
    refine (laws_szRS _ _ _ _ _ lL (by omega) (by omega)).mono ?_; rintro e w' ⟨rfl, rfl⟩
    rw [if_neg (Int.not_le.2 h0)]
    go_wp2_with fail
    go_ret
    exact ⟨rfl, Below.refl _ _⟩
  generalize hZ0 : z1.take (len1 * 5) = Z0 at *
  have HZ0 := Lib.hid hZ0; clear hZ0
  have hX := twX_len a0 Z0
  have hY := twY_len a0 Z0
  have S := Lib.hid (fun (B : Nat) (u : Value) (wx : World) (h : OwnR wx B u len1 Z0) => spec_TableWitness a0 wx h (by omega))
  have I := Lib.hid (fun (B : Nat) (u : Value) (wx : World) (h : OwnR wx B u len1 Z0) => impl_TableWitness a0 wx h (by omega))
  generalize twX a0 Z0 = LX at S I hX
  generalize twY a0 Z0 = LY at S I hY
  generalize twB a0 Z0 = bb at S I
  generalize twC a0 Z0 = cc at S I
  go_enter Try.func5, Try.ntmps5
  go_wp2_with fail
  refine (laws_szRS _ _ _ _ _ lL (by omega) (by omega)).mono ?_; rintro e w' ⟨rfl, rfl⟩
  rw [if_pos h0]
  go_wp2_with fail
  refine (laws_toRS _ _ _ _ _ (W1.out.below (Below.refl w.heap.size w)) (by omega)).mono ?_; rintro e w1 ⟨v1, rfl, o1, b1⟩
  rw [HZ0.out] at o1
  have bw1 : Below w.heap.size w w1 := b1
  have B1 := Lib.hid (Below.trans_size (Below.refl w.heap.size w) bw1)
  have s1 : w.heap.size ≤ w1.heap.size := B1.out.size; have t1 : w.heap.size ≤ w1.heap.size := (by have := b1.size; first | omega | (simp at this; omega) | exact this)
  have P1 := Lib.hid (recr_base o1 (show w.heap.size ≤ _ by first | exact Nat.le_refl _ | (simp; done) | (simp; omega)))
  clear b1 bw1
  obtain ⟨q1a, c1a, rfl, -, -⟩ := recr_form o1; clear o1
  go_wp2_with fail
  refine (S.out _ _ _ P1.out).mono ?_; rintro e w2 ⟨u2, v2, rfl, oa2, ob2, ap2, b2⟩
  have APR_S := Lib.hid ap2; clear ap2
  have APR_P := Lib.hid (apart_lt (fun k hk => (recr_block_lt P1.out k hk).2) (fun k hk => (own_block_lt oa2 k hk).1) (Nat.le_refl _))
  have APS_P := Lib.hid (apart_lt (fun k hk => (recr_block_lt P1.out k hk).2) (fun k hk => (own_block_lt ob2 k hk).1) (Nat.le_refl _))
  have P2 := Lib.hid (recr_keep b2 P1.out)
  have bw2 : Below w1.heap.size w1 w2 := b2
  have B2 := Lib.hid (Below.trans_size B1.out bw2)
  have s2 : w.heap.size ≤ w2.heap.size := B2.out.size; have t2 : w1.heap.size ≤ w2.heap.size := (by have := b2.size; first | omega | (simp at this; omega) | exact this)
  have R2 := Lib.hid (own_base oa2 (show w1.heap.size ≤ _ by first | exact Nat.le_refl _ | (simp; done) | (simp; omega)))
  have S2 := Lib.hid (own_base ob2 (show w1.heap.size ≤ _ by first | exact Nat.le_refl _ | (simp; done) | (simp; omega)))
  clear b2 bw2
  obtain ⟨q2a, c2a, rfl, -, -⟩ := own_form oa2; clear oa2
  obtain ⟨q2b, c2b, rfl, -, -⟩ := own_form ob2; clear ob2
  have NEA_R := Lib.hid (show some (w2.heap.size) ≠ (Value.slice q2a LX.length c2a).ownBlock from fun h => by have := (own_block_lt R2.out _ h.symm).2; omega)
  have NEA_S := Lib.hid (show some (w2.heap.size) ≠ (Value.slice q2b LY.length c2b).ownBlock from fun h => by have := (own_block_lt S2.out _ h.symm).2; omega)
  have NEC_R := Lib.hid (show some (w2.heap.size + 1) ≠ (Value.slice q2a LX.length c2a).ownBlock from fun h => by have := (own_block_lt R2.out _ h.symm).2; omega)
  have NEC_S := Lib.hid (show some (w2.heap.size + 1) ≠ (Value.slice q2b LY.length c2b).ownBlock from fun h => by have := (own_block_lt S2.out _ h.symm).2; omega)
  go_wp2_with fail
  refine (laws_toRS _ _ _ _ _ (W1.out.below (Below.alloc (Below.alloc B2.out B2.out.size _) (Below.alloc B2.out B2.out.size _).size _)) (by omega)).mono ?_; rintro e w3 ⟨v3, rfl, o3, b3⟩
  rw [HZ0.out] at o3
  have APX_R := Lib.hid (apart_lt (fun k hk => (own_block_lt (own_alloc (own_alloc R2.out _) _) k hk).2) (fun k hk => (recr_block_lt o3 k hk).1) (Nat.le_refl _))
  have APX_S := Lib.hid (apart_lt (fun k hk => (own_block_lt (own_alloc (own_alloc S2.out _) _) k hk).2) (fun k hk => (recr_block_lt o3 k hk).1) (Nat.le_refl _))
  have R3 := Lib.hid (own_keep b3 (own_alloc (own_alloc R2.out _) _))
  have S3 := Lib.hid (own_keep b3 (own_alloc (own_alloc S2.out _) _))
  obtain ⟨y3_0, y3_1, bw3, -, -⟩ := blk2 b3
  have A3 := Lib.hid y3_0; clear y3_0
  have C3 := Lib.hid y3_1; clear y3_1
  have B3 := Lib.hid (Below.trans_size B2.out bw3)
  have s3 : w.heap.size ≤ w3.heap.size := B3.out.size; have t3 : w2.heap.size + 2 ≤ w3.heap.size := (by have := b3.size; first | omega | (simp at this; omega) | exact this)
  have X3 := Lib.hid (recr_base o3 (show w2.heap.size ≤ _ by first | exact Nat.le_refl _ | (simp; done) | (simp; omega)))
  have NEA_X := Lib.hid (show some (w2.heap.size) ≠ v3.ownBlock from fun h => by have := (recr_block_lt o3 _ h.symm).1; (try simp at this); omega)
  have NEC_X := Lib.hid (show some (w2.heap.size + 1) ≠ v3.ownBlock from fun h => by have := (recr_block_lt o3 _ h.symm).1; (try simp at this); omega)
  clear b3 bw3
  obtain ⟨q3a, c3a, rfl, -, -⟩ := recr_form o3; clear o3
  have pA0 : w3.cell? ⟨w2.heap.size, 0, none⟩ = some (.int .i64 bb) := cell_blk A3.out 0; have pA1 : w3.cell? ⟨w2.heap.size, 1, none⟩ = some (.slice q2a LX.length c2a) := cell_blk A3.out 1; have hA := (Array.getElem?_eq_some_iff.1 A3.out).1
  have pC0 : w3.cell? ⟨w2.heap.size + 1, 0, none⟩ = some (.int .i64 bb) := cell_blk C3.out 0; have pC1 : w3.cell? ⟨w2.heap.size + 1, 1, none⟩ = some (.slice q2b LY.length c2b) := cell_blk C3.out 1; have hC := (Array.getElem?_eq_some_iff.1 C3.out).1
  go_wp2_with fail
  refine (I.out _ _ _ X3.out).mono ?_; rintro e w4 ⟨u4, v4, rfl, oa4, ob4, ap4, b4⟩
  have APG_H := Lib.hid ap4; clear ap4
  have APG_R := Lib.hid (apart_lt (fun k hk => (own_block_lt R3.out k hk).2) (fun k hk => (own_block_lt oa4 k hk).1) (Nat.le_refl _))
  have APG_S := Lib.hid (apart_lt (fun k hk => (own_block_lt S3.out k hk).2) (fun k hk => (own_block_lt oa4 k hk).1) (Nat.le_refl _))
  have APG_X := Lib.hid (apart_lt (fun k hk => (recr_block_lt X3.out k hk).2) (fun k hk => (own_block_lt oa4 k hk).1) (Nat.le_refl _))
  have APH_R := Lib.hid (apart_lt (fun k hk => (own_block_lt R3.out k hk).2) (fun k hk => (own_block_lt ob4 k hk).1) (Nat.le_refl _))
  have APH_S := Lib.hid (apart_lt (fun k hk => (own_block_lt S3.out k hk).2) (fun k hk => (own_block_lt ob4 k hk).1) (Nat.le_refl _))
  have APH_X := Lib.hid (apart_lt (fun k hk => (recr_block_lt X3.out k hk).2) (fun k hk => (own_block_lt ob4 k hk).1) (Nat.le_refl _))
  have R4 := Lib.hid (own_keep b4 R3.out)
  have S4 := Lib.hid (own_keep b4 S3.out)
  have X4 := Lib.hid (recr_keep b4 X3.out)
  have bw4 : Below w3.heap.size w3 w4 := b4
  have A4 := Lib.hid (carryB bw4 A3.out)
  have C4 := Lib.hid (carryB bw4 C3.out)
  have B4 := Lib.hid (Below.trans_size B3.out bw4)
  have s4 : w.heap.size ≤ w4.heap.size := B4.out.size; have t4 : w3.heap.size ≤ w4.heap.size := (by have := b4.size; first | omega | (simp at this; omega) | exact this)
  have G4 := Lib.hid (own_base oa4 (show w3.heap.size ≤ _ by first | exact Nat.le_refl _ | (simp; done) | (simp; omega)))
  have NEA_G := Lib.hid (show some (w2.heap.size) ≠ u4.ownBlock from fun h => by have := (own_block_lt oa4 _ h.symm).1; (try simp at this); omega)
  have NEC_G := Lib.hid (show some (w2.heap.size + 1) ≠ u4.ownBlock from fun h => by have := (own_block_lt oa4 _ h.symm).1; (try simp at this); omega)
  have H4 := Lib.hid (own_base ob4 (show w3.heap.size ≤ _ by first | exact Nat.le_refl _ | (simp; done) | (simp; omega)))
  have NEA_H := Lib.hid (show some (w2.heap.size) ≠ v4.ownBlock from fun h => by have := (own_block_lt ob4 _ h.symm).1; (try simp at this); omega)
  have NEC_H := Lib.hid (show some (w2.heap.size + 1) ≠ v4.ownBlock from fun h => by have := (own_block_lt ob4 _ h.symm).1; (try simp at this); omega)
  clear b4 bw4
  obtain ⟨q4a, c4a, rfl, -, -⟩ := own_form oa4; clear oa4
  obtain ⟨q4b, c4b, rfl, -, -⟩ := own_form ob4; clear ob4
  clear pA0 pA1 hA pC0 pC1 hC
  have pA0 : w4.cell? ⟨w2.heap.size, 0, none⟩ = some (.int .i64 bb) := cell_blk A4.out 0; have pA1 : w4.cell? ⟨w2.heap.size, 1, none⟩ = some (.slice q2a LX.length c2a) := cell_blk A4.out 1; have hA := (Array.getElem?_eq_some_iff.1 A4.out).1
  have pC0 : w4.cell? ⟨w2.heap.size + 1, 0, none⟩ = some (.int .i64 bb) := cell_blk C4.out 0; have pC1 : w4.cell? ⟨w2.heap.size + 1, 1, none⟩ = some (.slice q2b LY.length c2b) := cell_blk C4.out 1; have hC := (Array.getElem?_eq_some_iff.1 C4.out).1
  have NEU_R := Lib.hid (show some (w4.heap.size) ≠ (Value.slice q2a LX.length c2a).ownBlock from fun h => by have := (own_block_lt R4.out _ h.symm).2; omega)
  have NEU_S := Lib.hid (show some (w4.heap.size) ≠ (Value.slice q2b LY.length c2b).ownBlock from fun h => by have := (own_block_lt S4.out _ h.symm).2; omega)
  have NEU_X := Lib.hid (show some (w4.heap.size) ≠ (Value.slice q3a len1 c3a).ownBlock from fun h => by have := (recr_block_lt X4.out _ h.symm).2; omega)
  have NEU_G := Lib.hid (show some (w4.heap.size) ≠ (Value.slice q4a LX.length c4a).ownBlock from fun h => by have := (own_block_lt G4.out _ h.symm).2; omega)
  have NEU_H := Lib.hid (show some (w4.heap.size) ≠ (Value.slice q4b LY.length c4b).ownBlock from fun h => by have := (own_block_lt H4.out _ h.symm).2; omega)
  have NEV_R := Lib.hid (show some (w4.heap.size + 1) ≠ (Value.slice q2a LX.length c2a).ownBlock from fun h => by have := (own_block_lt R4.out _ h.symm).2; omega)
  have NEV_S := Lib.hid (show some (w4.heap.size + 1) ≠ (Value.slice q2b LY.length c2b).ownBlock from fun h => by have := (own_block_lt S4.out _ h.symm).2; omega)
  have NEV_X := Lib.hid (show some (w4.heap.size + 1) ≠ (Value.slice q3a len1 c3a).ownBlock from fun h => by have := (recr_block_lt X4.out _ h.symm).2; omega)
  have NEV_G := Lib.hid (show some (w4.heap.size + 1) ≠ (Value.slice q4a LX.length c4a).ownBlock from fun h => by have := (own_block_lt G4.out _ h.symm).2; omega)
  have NEV_H := Lib.hid (show some (w4.heap.size + 1) ≠ (Value.slice q4b LY.length c4b).ownBlock from fun h => by have := (own_block_lt H4.out _ h.symm).2; omega)
  go_wp2_with fail
  refine (laws_eqRegister _ _ (own_alloc (own_alloc G4.out _) _) (own_alloc (own_alloc R4.out _) _)).mono ?_; rintro e w5 ⟨rfl, b5⟩
  have R5 := Lib.hid (own_keep b5 (own_alloc (own_alloc R4.out _) _))
  have S5 := Lib.hid (own_keep b5 (own_alloc (own_alloc S4.out _) _))
  have X5 := Lib.hid (recr_keep b5 (recr_alloc (recr_alloc X4.out _) _))
  have G5 := Lib.hid (own_keep b5 (own_alloc (own_alloc G4.out _) _))
  have H5 := Lib.hid (own_keep b5 (own_alloc (own_alloc H4.out _) _))
  obtain ⟨y5_0, y5_1, bw5, -, -⟩ := blk2 b5
  have A5 := Lib.hid (carryB bw5 A4.out)
  have C5 := Lib.hid (carryB bw5 C4.out)
  have U5 := Lib.hid y5_0; clear y5_0
  have V5 := Lib.hid y5_1; clear y5_1
  have B5 := Lib.hid (Below.trans_size B4.out bw5)
  have s5 : w.heap.size ≤ w5.heap.size := B5.out.size; have t5 : w4.heap.size + 2 ≤ w5.heap.size := (by have := b5.size; first | omega | (simp at this; omega) | exact this)
  clear b5 bw5
  clear pA0 pA1 hA pC0 pC1 hC
  have pA0 : w5.cell? ⟨w2.heap.size, 0, none⟩ = some (.int .i64 bb) := cell_blk A5.out 0; have pA1 : w5.cell? ⟨w2.heap.size, 1, none⟩ = some (.slice q2a LX.length c2a) := cell_blk A5.out 1; have hA := (Array.getElem?_eq_some_iff.1 A5.out).1
  have pC0 : w5.cell? ⟨w2.heap.size + 1, 0, none⟩ = some (.int .i64 bb) := cell_blk C5.out 0; have pC1 : w5.cell? ⟨w2.heap.size + 1, 1, none⟩ = some (.slice q2b LY.length c2b) := cell_blk C5.out 1; have hC := (Array.getElem?_eq_some_iff.1 C5.out).1
  have pU0 : w5.cell? ⟨w4.heap.size, 0, none⟩ = some (.int .i64 bb) := cell_blk U5.out 0; have pU1 : w5.cell? ⟨w4.heap.size, 1, none⟩ = some (.slice q4a LX.length c4a) := cell_blk U5.out 1; have hU := (Array.getElem?_eq_some_iff.1 U5.out).1
  have pV0 : w5.cell? ⟨w4.heap.size + 1, 0, none⟩ = some (.int .i64 bb) := cell_blk V5.out 0; have pV1 : w5.cell? ⟨w4.heap.size + 1, 1, none⟩ = some (.slice q4b LY.length c4b) := cell_blk V5.out 1; have hV := (Array.getElem?_eq_some_iff.1 V5.out).1
  go_wp2_with fail
  refine (laws_eqRegister _ _ H5.out S5.out).mono ?_; rintro e w6 ⟨rfl, b6⟩
  have R6 := Lib.hid (own_keep b6 R5.out)
  have S6 := Lib.hid (own_keep b6 S5.out)
  have X6 := Lib.hid (recr_keep b6 X5.out)
  have G6 := Lib.hid (own_keep b6 G5.out)
  have H6 := Lib.hid (own_keep b6 H5.out)
  have bw6 : Below w5.heap.size w5 w6 := b6
  have A6 := Lib.hid (carryB bw6 A5.out)
  have C6 := Lib.hid (carryB bw6 C5.out)
  have U6 := Lib.hid (carryB bw6 U5.out)
  have V6 := Lib.hid (carryB bw6 V5.out)
  have B6 := Lib.hid (Below.trans_size B5.out bw6)
  have s6 : w.heap.size ≤ w6.heap.size := B6.out.size; have t6 : w5.heap.size ≤ w6.heap.size := (by have := b6.size; first | omega | (simp at this; omega) | exact this)
  clear b6 bw6
  clear pA0 pA1 hA pC0 pC1 hC pU0 pU1 hU pV0 pV1 hV
  have pA0 : w6.cell? ⟨w2.heap.size, 0, none⟩ = some (.int .i64 bb) := cell_blk A6.out 0; have pA1 : w6.cell? ⟨w2.heap.size, 1, none⟩ = some (.slice q2a LX.length c2a) := cell_blk A6.out 1; have hA := (Array.getElem?_eq_some_iff.1 A6.out).1
  have pC0 : w6.cell? ⟨w2.heap.size + 1, 0, none⟩ = some (.int .i64 bb) := cell_blk C6.out 0; have pC1 : w6.cell? ⟨w2.heap.size + 1, 1, none⟩ = some (.slice q2b LY.length c2b) := cell_blk C6.out 1; have hC := (Array.getElem?_eq_some_iff.1 C6.out).1
  have pU0 : w6.cell? ⟨w4.heap.size, 0, none⟩ = some (.int .i64 bb) := cell_blk U6.out 0; have pU1 : w6.cell? ⟨w4.heap.size, 1, none⟩ = some (.slice q4a LX.length c4a) := cell_blk U6.out 1; have hU := (Array.getElem?_eq_some_iff.1 U6.out).1
  have pV0 : w6.cell? ⟨w4.heap.size + 1, 0, none⟩ = some (.int .i64 bb) := cell_blk V6.out 0; have pV1 : w6.cell? ⟨w4.heap.size + 1, 1, none⟩ = some (.slice q4b LY.length c4b) := cell_blk V6.out 1; have hV := (Array.getElem?_eq_some_iff.1 V6.out).1
  go_wp2_with fail
  refine (laws_toRS _ _ _ _ _ (W1.out.below B6.out) (by omega)).mono ?_; rintro e w7 ⟨v7, rfl, o7, b7⟩
  rw [HZ0.out] at o7
  have APT_R := Lib.hid (apart_lt (fun k hk => (own_block_lt R6.out k hk).2) (fun k hk => (recr_block_lt o7 k hk).1) (Nat.le_refl _))
  have APT_S := Lib.hid (apart_lt (fun k hk => (own_block_lt S6.out k hk).2) (fun k hk => (recr_block_lt o7 k hk).1) (Nat.le_refl _))
  have APT_X := Lib.hid (apart_lt (fun k hk => (recr_block_lt X6.out k hk).2) (fun k hk => (recr_block_lt o7 k hk).1) (Nat.le_refl _))
  have APT_G := Lib.hid (apart_lt (fun k hk => (own_block_lt G6.out k hk).2) (fun k hk => (recr_block_lt o7 k hk).1) (Nat.le_refl _))
  have APT_H := Lib.hid (apart_lt (fun k hk => (own_block_lt H6.out k hk).2) (fun k hk => (recr_block_lt o7 k hk).1) (Nat.le_refl _))
  have R7 := Lib.hid (own_keep b7 R6.out)
  have S7 := Lib.hid (own_keep b7 S6.out)
  have X7 := Lib.hid (recr_keep b7 X6.out)
  have G7 := Lib.hid (own_keep b7 G6.out)
  have H7 := Lib.hid (own_keep b7 H6.out)
  have bw7 : Below w6.heap.size w6 w7 := b7
  have A7 := Lib.hid (carryB bw7 A6.out)
  have C7 := Lib.hid (carryB bw7 C6.out)
  have U7 := Lib.hid (carryB bw7 U6.out)
  have V7 := Lib.hid (carryB bw7 V6.out)
  have B7 := Lib.hid (Below.trans_size B6.out bw7)
  have s7 : w.heap.size ≤ w7.heap.size := B7.out.size; have t7 : w6.heap.size ≤ w7.heap.size := (by have := b7.size; first | omega | (simp at this; omega) | exact this)
  have T7 := Lib.hid (recr_base o7 (show w6.heap.size ≤ _ by first | exact Nat.le_refl _ | (simp; done) | (simp; omega)))
  have NEA_T := Lib.hid (show some (w2.heap.size) ≠ v7.ownBlock from fun h => by have := (recr_block_lt o7 _ h.symm).1; (try simp at this); omega)
  have NEC_T := Lib.hid (show some (w2.heap.size + 1) ≠ v7.ownBlock from fun h => by have := (recr_block_lt o7 _ h.symm).1; (try simp at this); omega)
  have NEU_T := Lib.hid (show some (w4.heap.size) ≠ v7.ownBlock from fun h => by have := (recr_block_lt o7 _ h.symm).1; (try simp at this); omega)
  have NEV_T := Lib.hid (show some (w4.heap.size + 1) ≠ v7.ownBlock from fun h => by have := (recr_block_lt o7 _ h.symm).1; (try simp at this); omega)
  clear b7 bw7
  obtain ⟨q7a, c7a, rfl, -, -⟩ := recr_form o7; clear o7
  clear pA0 pA1 hA pC0 pC1 hC pU0 pU1 hU pV0 pV1 hV
  have pA0 : w7.cell? ⟨w2.heap.size, 0, none⟩ = some (.int .i64 bb) := cell_blk A7.out 0; have pA1 : w7.cell? ⟨w2.heap.size, 1, none⟩ = some (.slice q2a LX.length c2a) := cell_blk A7.out 1; have hA := (Array.getElem?_eq_some_iff.1 A7.out).1
  have pC0 : w7.cell? ⟨w2.heap.size + 1, 0, none⟩ = some (.int .i64 bb) := cell_blk C7.out 0; have pC1 : w7.cell? ⟨w2.heap.size + 1, 1, none⟩ = some (.slice q2b LY.length c2b) := cell_blk C7.out 1; have hC := (Array.getElem?_eq_some_iff.1 C7.out).1
  have pU0 : w7.cell? ⟨w4.heap.size, 0, none⟩ = some (.int .i64 bb) := cell_blk U7.out 0; have pU1 : w7.cell? ⟨w4.heap.size, 1, none⟩ = some (.slice q4a LX.length c4a) := cell_blk U7.out 1; have hU := (Array.getElem?_eq_some_iff.1 U7.out).1
  have pV0 : w7.cell? ⟨w4.heap.size + 1, 0, none⟩ = some (.int .i64 bb) := cell_blk V7.out 0; have pV1 : w7.cell? ⟨w4.heap.size + 1, 1, none⟩ = some (.slice q4b LY.length c4b) := cell_blk V7.out 1; have hV := (Array.getElem?_eq_some_iff.1 V7.out).1
  go_wp2_with fail
  refine (laws_eqRS _ X7.out T7.out).mono ?_; rintro e w8 ⟨rfl, b8⟩
  have R8 := Lib.hid (own_keep b8 R7.out)
  have S8 := Lib.hid (own_keep b8 S7.out)
  have X8 := Lib.hid (recr_keep b8 X7.out)
  have G8 := Lib.hid (own_keep b8 G7.out)
  have H8 := Lib.hid (own_keep b8 H7.out)
  have T8 := Lib.hid (recr_keep b8 T7.out)
  have bw8 : Below w7.heap.size w7 w8 := b8
  have A8 := Lib.hid (carryB bw8 A7.out)
  have C8 := Lib.hid (carryB bw8 C7.out)
  have U8 := Lib.hid (carryB bw8 U7.out)
  have V8 := Lib.hid (carryB bw8 V7.out)
  have B8 := Lib.hid (Below.trans_size B7.out bw8)
  have s8 : w.heap.size ≤ w8.heap.size := B8.out.size; have t8 : w7.heap.size ≤ w8.heap.size := (by have := b8.size; first | omega | (simp at this; omega) | exact this)
  clear b8 bw8
  clear pA0 pA1 hA pC0 pC1 hC pU0 pU1 hU pV0 pV1 hV
  have pA0 : w8.cell? ⟨w2.heap.size, 0, none⟩ = some (.int .i64 bb) := cell_blk A8.out 0; have pA1 : w8.cell? ⟨w2.heap.size, 1, none⟩ = some (.slice q2a LX.length c2a) := cell_blk A8.out 1; have hA := (Array.getElem?_eq_some_iff.1 A8.out).1
  have pC0 : w8.cell? ⟨w2.heap.size + 1, 0, none⟩ = some (.int .i64 bb) := cell_blk C8.out 0; have pC1 : w8.cell? ⟨w2.heap.size + 1, 1, none⟩ = some (.slice q2b LY.length c2b) := cell_blk C8.out 1; have hC := (Array.getElem?_eq_some_iff.1 C8.out).1
  have pU0 : w8.cell? ⟨w4.heap.size, 0, none⟩ = some (.int .i64 bb) := cell_blk U8.out 0; have pU1 : w8.cell? ⟨w4.heap.size, 1, none⟩ = some (.slice q4a LX.length c4a) := cell_blk U8.out 1; have hU := (Array.getElem?_eq_some_iff.1 U8.out).1
  have pV0 : w8.cell? ⟨w4.heap.size + 1, 0, none⟩ = some (.int .i64 bb) := cell_blk V8.out 0; have pV1 : w8.cell? ⟨w4.heap.size + 1, 1, none⟩ = some (.slice q4b LY.length c4b) := cell_blk V8.out 1; have hV := (Array.getElem?_eq_some_iff.1 V8.out).1
  clear pA0 pA1 hA pC0 pC1 hC pU0 pU1 hU pV0 pV1 hV
  have pA0 : w8.cell? ⟨w2.heap.size, 0, none⟩ = some (.int .i64 bb) := cell_blk A8.out 0; have pA1 : w8.cell? ⟨w2.heap.size, 1, none⟩ = some (.slice q2a LX.length c2a) := cell_blk A8.out 1; have hA := (Array.getElem?_eq_some_iff.1 A8.out).1
  have pC0 : w8.cell? ⟨w2.heap.size + 1, 0, none⟩ = some (.int .i64 bb) := cell_blk C8.out 0; have pC1 : w8.cell? ⟨w2.heap.size + 1, 1, none⟩ = some (.slice q2b LY.length c2b) := cell_blk C8.out 1; have hC := (Array.getElem?_eq_some_iff.1 C8.out).1
  have pU0 : w8.cell? ⟨w4.heap.size, 0, none⟩ = some (.int .i64 bb) := cell_blk U8.out 0; have pU1 : w8.cell? ⟨w4.heap.size, 1, none⟩ = some (.slice q4a LX.length c4a) := cell_blk U8.out 1; have hU := (Array.getElem?_eq_some_iff.1 U8.out).1
  have pV0 : w8.cell? ⟨w4.heap.size + 1, 0, none⟩ = some (.int .i64 bb) := cell_blk V8.out 0; have pV1 : w8.cell? ⟨w4.heap.size + 1, 1, none⟩ = some (.slice q4b LY.length c4b) := cell_blk V8.out 1; have hV := (Array.getElem?_eq_some_iff.1 V8.out).1
  go_wp2_with fail
  refine (laws_markRS _ (1) X8.out (by omega) (by omega) (by omega)).mono ?_; rintro e w9 ⟨rfl, o9, g9⟩
  have R9 := Lib.hid (apart_grown R8.out g9 (APX_R.out.symm))
  have S9 := Lib.hid (apart_grown S8.out g9 (APX_S.out.symm))
  have G9 := Lib.hid (apart_grown G8.out g9 APG_X.out)
  have H9 := Lib.hid (apart_grown H8.out g9 APH_X.out)
  have A9 := Lib.hid (carryG0 g9 A8.out NEA_X.out)
  have C9 := Lib.hid (carryG0 g9 C8.out NEC_X.out)
  have U9 := Lib.hid (carryG0 g9 U8.out NEU_X.out)
  have V9 := Lib.hid (carryG0 g9 V8.out NEV_X.out)
  have B9 := Lib.hid (recr_grown_below B8.out X8.out g9 (by omega) B8.out.size)
  have t9 : w8.heap.size ≤ w9.heap.size := by have := g9.size; (try simp only [World.size_alloc] at this); omega
  have s9 : w.heap.size ≤ w9.heap.size := B9.out.size
  have X9 := Lib.hid o9; clear o9 g9
  clear pA0 pA1 hA pC0 pC1 hC pU0 pU1 hU pV0 pV1 hV
  have pA0 : w9.cell? ⟨w2.heap.size, 0, none⟩ = some (.int .i64 bb) := cell_blk A9.out 0; have pA1 : w9.cell? ⟨w2.heap.size, 1, none⟩ = some (.slice q2a LX.length c2a) := cell_blk A9.out 1; have hA := (Array.getElem?_eq_some_iff.1 A9.out).1
  have pC0 : w9.cell? ⟨w2.heap.size + 1, 0, none⟩ = some (.int .i64 bb) := cell_blk C9.out 0; have pC1 : w9.cell? ⟨w2.heap.size + 1, 1, none⟩ = some (.slice q2b LY.length c2b) := cell_blk C9.out 1; have hC := (Array.getElem?_eq_some_iff.1 C9.out).1
  have pU0 : w9.cell? ⟨w4.heap.size, 0, none⟩ = some (.int .i64 bb) := cell_blk U9.out 0; have pU1 : w9.cell? ⟨w4.heap.size, 1, none⟩ = some (.slice q4a LX.length c4a) := cell_blk U9.out 1; have hU := (Array.getElem?_eq_some_iff.1 U9.out).1
  have pV0 : w9.cell? ⟨w4.heap.size + 1, 0, none⟩ = some (.int .i64 bb) := cell_blk V9.out 0; have pV1 : w9.cell? ⟨w4.heap.size + 1, 1, none⟩ = some (.slice q4b LY.length c4b) := cell_blk V9.out 1; have hV := (Array.getElem?_eq_some_iff.1 V9.out).1
  clear pA0 pA1 hA pC0 pC1 hC pU0 pU1 hU pV0 pV1 hV
  have pA0 : w9.cell? ⟨w2.heap.size, 0, none⟩ = some (.int .i64 bb) := cell_blk A9.out 0; have pA1 : w9.cell? ⟨w2.heap.size, 1, none⟩ = some (.slice q2a LX.length c2a) := cell_blk A9.out 1; have hA := (Array.getElem?_eq_some_iff.1 A9.out).1
  have pC0 : w9.cell? ⟨w2.heap.size + 1, 0, none⟩ = some (.int .i64 bb) := cell_blk C9.out 0; have pC1 : w9.cell? ⟨w2.heap.size + 1, 1, none⟩ = some (.slice q2b LY.length c2b) := cell_blk C9.out 1; have hC := (Array.getElem?_eq_some_iff.1 C9.out).1
  have pU0 : w9.cell? ⟨w4.heap.size, 0, none⟩ = some (.int .i64 bb) := cell_blk U9.out 0; have pU1 : w9.cell? ⟨w4.heap.size, 1, none⟩ = some (.slice q4a LX.length c4a) := cell_blk U9.out 1; have hU := (Array.getElem?_eq_some_iff.1 U9.out).1
  have pV0 : w9.cell? ⟨w4.heap.size + 1, 0, none⟩ = some (.int .i64 bb) := cell_blk V9.out 0; have pV1 : w9.cell? ⟨w4.heap.size + 1, 1, none⟩ = some (.slice q4b LY.length c4b) := cell_blk V9.out 1; have hV := (Array.getElem?_eq_some_iff.1 V9.out).1
  go_wp2_with fail
  refine (laws_eqRegister _ _ G9.out R9.out).mono ?_; rintro e w10 ⟨rfl, b10⟩
  have R10 := Lib.hid (own_keep b10 R9.out)
  have S10 := Lib.hid (own_keep b10 S9.out)
  have G10 := Lib.hid (own_keep b10 G9.out)
  have H10 := Lib.hid (own_keep b10 H9.out)
  have bw10 : Below w9.heap.size w9 w10 := b10
  have A10 := Lib.hid (carryB bw10 A9.out)
  have C10 := Lib.hid (carryB bw10 C9.out)
  have U10 := Lib.hid (carryB bw10 U9.out)
  have V10 := Lib.hid (carryB bw10 V9.out)
  have B10 := Lib.hid (Below.trans_size B9.out bw10)
  have s10 : w.heap.size ≤ w10.heap.size := B10.out.size; have t10 : w9.heap.size ≤ w10.heap.size := (by have := b10.size; first | omega | (simp at this; omega) | exact this)
  clear b10 bw10
  clear pA0 pA1 hA pC0 pC1 hC pU0 pU1 hU pV0 pV1 hV
  have pA0 : w10.cell? ⟨w2.heap.size, 0, none⟩ = some (.int .i64 bb) := cell_blk A10.out 0; have pA1 : w10.cell? ⟨w2.heap.size, 1, none⟩ = some (.slice q2a LX.length c2a) := cell_blk A10.out 1; have hA := (Array.getElem?_eq_some_iff.1 A10.out).1
  have pC0 : w10.cell? ⟨w2.heap.size + 1, 0, none⟩ = some (.int .i64 bb) := cell_blk C10.out 0; have pC1 : w10.cell? ⟨w2.heap.size + 1, 1, none⟩ = some (.slice q2b LY.length c2b) := cell_blk C10.out 1; have hC := (Array.getElem?_eq_some_iff.1 C10.out).1
  have pU0 : w10.cell? ⟨w4.heap.size, 0, none⟩ = some (.int .i64 bb) := cell_blk U10.out 0; have pU1 : w10.cell? ⟨w4.heap.size, 1, none⟩ = some (.slice q4a LX.length c4a) := cell_blk U10.out 1; have hU := (Array.getElem?_eq_some_iff.1 U10.out).1
  have pV0 : w10.cell? ⟨w4.heap.size + 1, 0, none⟩ = some (.int .i64 bb) := cell_blk V10.out 0; have pV1 : w10.cell? ⟨w4.heap.size + 1, 1, none⟩ = some (.slice q4b LY.length c4b) := cell_blk V10.out 1; have hV := (Array.getElem?_eq_some_iff.1 V10.out).1
  go_wp2_with fail
  refine (laws_eqRegister _ _ H10.out S10.out).mono ?_; rintro e w11 ⟨rfl, b11⟩
  have R11 := Lib.hid (own_keep b11 R10.out)
  have S11 := Lib.hid (own_keep b11 S10.out)
  have G11 := Lib.hid (own_keep b11 G10.out)
  have H11 := Lib.hid (own_keep b11 H10.out)
  have bw11 : Below w10.heap.size w10 w11 := b11
  have A11 := Lib.hid (carryB bw11 A10.out)
  have C11 := Lib.hid (carryB bw11 C10.out)
  have U11 := Lib.hid (carryB bw11 U10.out)
  have V11 := Lib.hid (carryB bw11 V10.out)
  have B11 := Lib.hid (Below.trans_size B10.out bw11)
  have s11 : w.heap.size ≤ w11.heap.size := B11.out.size; have t11 : w10.heap.size ≤ w11.heap.size := (by have := b11.size; first | omega | (simp at this; omega) | exact this)
  clear b11 bw11
  clear pA0 pA1 hA pC0 pC1 hC pU0 pU1 hU pV0 pV1 hV
  have pA0 : w11.cell? ⟨w2.heap.size, 0, none⟩ = some (.int .i64 bb) := cell_blk A11.out 0; have pA1 : w11.cell? ⟨w2.heap.size, 1, none⟩ = some (.slice q2a LX.length c2a) := cell_blk A11.out 1; have hA := (Array.getElem?_eq_some_iff.1 A11.out).1
  have pC0 : w11.cell? ⟨w2.heap.size + 1, 0, none⟩ = some (.int .i64 bb) := cell_blk C11.out 0; have pC1 : w11.cell? ⟨w2.heap.size + 1, 1, none⟩ = some (.slice q2b LY.length c2b) := cell_blk C11.out 1; have hC := (Array.getElem?_eq_some_iff.1 C11.out).1
  have pU0 : w11.cell? ⟨w4.heap.size, 0, none⟩ = some (.int .i64 bb) := cell_blk U11.out 0; have pU1 : w11.cell? ⟨w4.heap.size, 1, none⟩ = some (.slice q4a LX.length c4a) := cell_blk U11.out 1; have hU := (Array.getElem?_eq_some_iff.1 U11.out).1
  have pV0 : w11.cell? ⟨w4.heap.size + 1, 0, none⟩ = some (.int .i64 bb) := cell_blk V11.out 0; have pV1 : w11.cell? ⟨w4.heap.size + 1, 1, none⟩ = some (.slice q4b LY.length c4b) := cell_blk V11.out 1; have hV := (Array.getElem?_eq_some_iff.1 V11.out).1
  go_wp2_with fail
  refine (laws_markRegister2 _ _ (1) G11.out (by omega) (by omega) (by omega)).mono ?_; rintro e w12 ⟨rfl, z12, g12, o12⟩
  have R12 := Lib.hid (apart_grown (own_alloc R11.out z12) g12 (APG_R.out.symm))
  have S12 := Lib.hid (apart_grown (own_alloc S11.out z12) g12 (APG_S.out.symm))
  have H12 := Lib.hid (apart_grown (own_alloc H11.out z12) g12 (APG_H.out.symm))
  have A12 := Lib.hid (carryG g12 A11.out NEA_G.out)
  have C12 := Lib.hid (carryG g12 C11.out NEC_G.out)
  have U12 := Lib.hid (carryG g12 U11.out NEU_G.out)
  have V12 := Lib.hid (carryG g12 V11.out NEV_G.out)
  have B12 := Lib.hid (grown_below (B11.out.alloc B11.out.size z12) (own_alloc G11.out z12) g12 (by omega) (B11.out.alloc B11.out.size z12).size)
  have t12 : w11.heap.size ≤ w12.heap.size := by have := g12.size; (try simp only [World.size_alloc] at this); omega
  have s12 : w.heap.size ≤ w12.heap.size := B12.out.size
  have G12 := Lib.hid o12; clear o12 g12
  clear pA0 pA1 hA pC0 pC1 hC pU0 pU1 hU pV0 pV1 hV
  have pA0 : w12.cell? ⟨w2.heap.size, 0, none⟩ = some (.int .i64 bb) := cell_blk A12.out 0; have pA1 : w12.cell? ⟨w2.heap.size, 1, none⟩ = some (.slice q2a LX.length c2a) := cell_blk A12.out 1; have hA := (Array.getElem?_eq_some_iff.1 A12.out).1
  have pC0 : w12.cell? ⟨w2.heap.size + 1, 0, none⟩ = some (.int .i64 bb) := cell_blk C12.out 0; have pC1 : w12.cell? ⟨w2.heap.size + 1, 1, none⟩ = some (.slice q2b LY.length c2b) := cell_blk C12.out 1; have hC := (Array.getElem?_eq_some_iff.1 C12.out).1
  have pU0 : w12.cell? ⟨w4.heap.size, 0, none⟩ = some (.int .i64 bb) := cell_blk U12.out 0; have pU1 : w12.cell? ⟨w4.heap.size, 1, none⟩ = some (.slice q4a LX.length c4a) := cell_blk U12.out 1; have hU := (Array.getElem?_eq_some_iff.1 U12.out).1
  have pV0 : w12.cell? ⟨w4.heap.size + 1, 0, none⟩ = some (.int .i64 bb) := cell_blk V12.out 0; have pV1 : w12.cell? ⟨w4.heap.size + 1, 1, none⟩ = some (.slice q4b LY.length c4b) := cell_blk V12.out 1; have hV := (Array.getElem?_eq_some_iff.1 V12.out).1
  go_wp2_with fail
  refine (laws_markRegister2 _ _ (1 + (LX.length : Int)) H12.out (by omega) (by omega) (by omega)).mono ?_; rintro e w13 ⟨rfl, z13, g13, o13⟩
  have R13 := Lib.hid (apart_grown (own_alloc R12.out z13) g13 (APH_R.out.symm))
  have S13 := Lib.hid (apart_grown (own_alloc S12.out z13) g13 (APH_S.out.symm))
  have G13 := Lib.hid (apart_grown (own_alloc G12.out z13) g13 APG_H.out)
  have A13 := Lib.hid (carryG g13 A12.out NEA_H.out)
  have C13 := Lib.hid (carryG g13 C12.out NEC_H.out)
  have U13 := Lib.hid (carryG g13 U12.out NEU_H.out)
  have V13 := Lib.hid (carryG g13 V12.out NEV_H.out)
  have B13 := Lib.hid (grown_below (B12.out.alloc B12.out.size z13) (own_alloc H12.out z13) g13 (by omega) (B12.out.alloc B12.out.size z13).size)
  have t13 : w12.heap.size ≤ w13.heap.size := by have := g13.size; (try simp only [World.size_alloc] at this); omega
  have s13 : w.heap.size ≤ w13.heap.size := B13.out.size
  have H13 := Lib.hid o13; clear o13 g13
  clear pA0 pA1 hA pC0 pC1 hC pU0 pU1 hU pV0 pV1 hV
  have pA0 : w13.cell? ⟨w2.heap.size, 0, none⟩ = some (.int .i64 bb) := cell_blk A13.out 0; have pA1 : w13.cell? ⟨w2.heap.size, 1, none⟩ = some (.slice q2a LX.length c2a) := cell_blk A13.out 1; have hA := (Array.getElem?_eq_some_iff.1 A13.out).1
  have pC0 : w13.cell? ⟨w2.heap.size + 1, 0, none⟩ = some (.int .i64 bb) := cell_blk C13.out 0; have pC1 : w13.cell? ⟨w2.heap.size + 1, 1, none⟩ = some (.slice q2b LY.length c2b) := cell_blk C13.out 1; have hC := (Array.getElem?_eq_some_iff.1 C13.out).1
  have pU0 : w13.cell? ⟨w4.heap.size, 0, none⟩ = some (.int .i64 bb) := cell_blk U13.out 0; have pU1 : w13.cell? ⟨w4.heap.size, 1, none⟩ = some (.slice q4a LX.length c4a) := cell_blk U13.out 1; have hU := (Array.getElem?_eq_some_iff.1 U13.out).1
  have pV0 : w13.cell? ⟨w4.heap.size + 1, 0, none⟩ = some (.int .i64 bb) := cell_blk V13.out 0; have pV1 : w13.cell? ⟨w4.heap.size + 1, 1, none⟩ = some (.slice q4b LY.length c4b) := cell_blk V13.out 1; have hV := (Array.getElem?_eq_some_iff.1 V13.out).1
  go_wp2_with fail
  refine (laws_heldRegister _ _ 1 _ G13.out (by omega) (by omega) (by omega)).mono ?_; rintro e w14 ⟨rfl, b14⟩
  have R14 := Lib.hid (own_keep b14 R13.out)
  have S14 := Lib.hid (own_keep b14 S13.out)
  have G14 := Lib.hid (own_keep b14 G13.out)
  have H14 := Lib.hid (own_keep b14 H13.out)
  have bw14 : Below w13.heap.size w13 w14 := b14
  have A14 := Lib.hid (carryB bw14 A13.out)
  have C14 := Lib.hid (carryB bw14 C13.out)
  have U14 := Lib.hid (carryB bw14 U13.out)
  have V14 := Lib.hid (carryB bw14 V13.out)
  have B14 := Lib.hid (Below.trans_size B13.out bw14)
  have s14 : w.heap.size ≤ w14.heap.size := B14.out.size; have t14 : w13.heap.size ≤ w14.heap.size := (by have := b14.size; first | omega | (simp at this; omega) | exact this)
  clear b14 bw14
  clear pA0 pA1 hA pC0 pC1 hC pU0 pU1 hU pV0 pV1 hV
  have pA0 : w14.cell? ⟨w2.heap.size, 0, none⟩ = some (.int .i64 bb) := cell_blk A14.out 0; have pA1 : w14.cell? ⟨w2.heap.size, 1, none⟩ = some (.slice q2a LX.length c2a) := cell_blk A14.out 1; have hA := (Array.getElem?_eq_some_iff.1 A14.out).1
  have pC0 : w14.cell? ⟨w2.heap.size + 1, 0, none⟩ = some (.int .i64 bb) := cell_blk C14.out 0; have pC1 : w14.cell? ⟨w2.heap.size + 1, 1, none⟩ = some (.slice q2b LY.length c2b) := cell_blk C14.out 1; have hC := (Array.getElem?_eq_some_iff.1 C14.out).1
  have pU0 : w14.cell? ⟨w4.heap.size, 0, none⟩ = some (.int .i64 bb) := cell_blk U14.out 0; have pU1 : w14.cell? ⟨w4.heap.size, 1, none⟩ = some (.slice q4a LX.length c4a) := cell_blk U14.out 1; have hU := (Array.getElem?_eq_some_iff.1 U14.out).1
  have pV0 : w14.cell? ⟨w4.heap.size + 1, 0, none⟩ = some (.int .i64 bb) := cell_blk V14.out 0; have pV1 : w14.cell? ⟨w4.heap.size + 1, 1, none⟩ = some (.slice q4b LY.length c4b) := cell_blk V14.out 1; have hV := (Array.getElem?_eq_some_iff.1 V14.out).1
  go_wp2_with fail
  refine (laws_heldRegister _ _ (1 + (LX.length : Int)) _ H14.out (by omega) (by omega) (by omega)).mono ?_; rintro e w15 ⟨rfl, b15⟩
  have R15 := Lib.hid (own_keep b15 R14.out)
  have S15 := Lib.hid (own_keep b15 S14.out)
  have G15 := Lib.hid (own_keep b15 G14.out)
  have H15 := Lib.hid (own_keep b15 H14.out)
  have bw15 : Below w14.heap.size w14 w15 := b15
  have A15 := Lib.hid (carryB bw15 A14.out)
  have C15 := Lib.hid (carryB bw15 C14.out)
  have U15 := Lib.hid (carryB bw15 U14.out)
  have V15 := Lib.hid (carryB bw15 V14.out)
  have B15 := Lib.hid (Below.trans_size B14.out bw15)
  have s15 : w.heap.size ≤ w15.heap.size := B15.out.size; have t15 : w14.heap.size ≤ w15.heap.size := (by have := b15.size; first | omega | (simp at this; omega) | exact this)
  clear b15 bw15
  clear pA0 pA1 hA pC0 pC1 hC pU0 pU1 hU pV0 pV1 hV
  have pA0 : w15.cell? ⟨w2.heap.size, 0, none⟩ = some (.int .i64 bb) := cell_blk A15.out 0; have pA1 : w15.cell? ⟨w2.heap.size, 1, none⟩ = some (.slice q2a LX.length c2a) := cell_blk A15.out 1; have hA := (Array.getElem?_eq_some_iff.1 A15.out).1
  have pC0 : w15.cell? ⟨w2.heap.size + 1, 0, none⟩ = some (.int .i64 bb) := cell_blk C15.out 0; have pC1 : w15.cell? ⟨w2.heap.size + 1, 1, none⟩ = some (.slice q2b LY.length c2b) := cell_blk C15.out 1; have hC := (Array.getElem?_eq_some_iff.1 C15.out).1
  have pU0 : w15.cell? ⟨w4.heap.size, 0, none⟩ = some (.int .i64 bb) := cell_blk U15.out 0; have pU1 : w15.cell? ⟨w4.heap.size, 1, none⟩ = some (.slice q4a LX.length c4a) := cell_blk U15.out 1; have hU := (Array.getElem?_eq_some_iff.1 U15.out).1
  have pV0 : w15.cell? ⟨w4.heap.size + 1, 0, none⟩ = some (.int .i64 bb) := cell_blk V15.out 0; have pV1 : w15.cell? ⟨w4.heap.size + 1, 1, none⟩ = some (.slice q4b LY.length c4b) := cell_blk V15.out 1; have hV := (Array.getElem?_eq_some_iff.1 V15.out).1
  go_wp2_with fail
  refine (laws_toRS _ _ _ _ _ (W1.out.below B15.out) (by omega)).mono ?_; rintro e w16 ⟨v16, rfl, o16, b16⟩
  rw [HZ0.out] at o16
  have APQ_R := Lib.hid (apart_lt (fun k hk => (own_block_lt R15.out k hk).2) (fun k hk => (recr_block_lt o16 k hk).1) (Nat.le_refl _))
  have APQ_S := Lib.hid (apart_lt (fun k hk => (own_block_lt S15.out k hk).2) (fun k hk => (recr_block_lt o16 k hk).1) (Nat.le_refl _))
  have APQ_G := Lib.hid (apart_lt (fun k hk => (own_block_lt G15.out k hk).2) (fun k hk => (recr_block_lt o16 k hk).1) (Nat.le_refl _))
  have APQ_H := Lib.hid (apart_lt (fun k hk => (own_block_lt H15.out k hk).2) (fun k hk => (recr_block_lt o16 k hk).1) (Nat.le_refl _))
  have R16 := Lib.hid (own_keep b16 R15.out)
  have S16 := Lib.hid (own_keep b16 S15.out)
  have G16 := Lib.hid (own_keep b16 G15.out)
  have H16 := Lib.hid (own_keep b16 H15.out)
  have bw16 : Below w15.heap.size w15 w16 := b16
  have A16 := Lib.hid (carryB bw16 A15.out)
  have C16 := Lib.hid (carryB bw16 C15.out)
  have U16 := Lib.hid (carryB bw16 U15.out)
  have V16 := Lib.hid (carryB bw16 V15.out)
  have B16 := Lib.hid (Below.trans_size B15.out bw16)
  have s16 : w.heap.size ≤ w16.heap.size := B16.out.size; have t16 : w15.heap.size ≤ w16.heap.size := (by have := b16.size; first | omega | (simp at this; omega) | exact this)
  have Q16 := Lib.hid (recr_base o16 (show w15.heap.size ≤ _ by first | exact Nat.le_refl _ | (simp; done) | (simp; omega)))
  have NEA_Q := Lib.hid (show some (w2.heap.size) ≠ v16.ownBlock from fun h => by have := (recr_block_lt o16 _ h.symm).1; (try simp at this); omega)
  have NEC_Q := Lib.hid (show some (w2.heap.size + 1) ≠ v16.ownBlock from fun h => by have := (recr_block_lt o16 _ h.symm).1; (try simp at this); omega)
  have NEU_Q := Lib.hid (show some (w4.heap.size) ≠ v16.ownBlock from fun h => by have := (recr_block_lt o16 _ h.symm).1; (try simp at this); omega)
  have NEV_Q := Lib.hid (show some (w4.heap.size + 1) ≠ v16.ownBlock from fun h => by have := (recr_block_lt o16 _ h.symm).1; (try simp at this); omega)
  clear b16 bw16
  obtain ⟨q16a, c16a, rfl, -, -⟩ := recr_form o16; clear o16
  clear pA0 pA1 hA pC0 pC1 hC pU0 pU1 hU pV0 pV1 hV
  have pA0 : w16.cell? ⟨w2.heap.size, 0, none⟩ = some (.int .i64 bb) := cell_blk A16.out 0; have pA1 : w16.cell? ⟨w2.heap.size, 1, none⟩ = some (.slice q2a LX.length c2a) := cell_blk A16.out 1; have hA := (Array.getElem?_eq_some_iff.1 A16.out).1
  have pC0 : w16.cell? ⟨w2.heap.size + 1, 0, none⟩ = some (.int .i64 bb) := cell_blk C16.out 0; have pC1 : w16.cell? ⟨w2.heap.size + 1, 1, none⟩ = some (.slice q2b LY.length c2b) := cell_blk C16.out 1; have hC := (Array.getElem?_eq_some_iff.1 C16.out).1
  have pU0 : w16.cell? ⟨w4.heap.size, 0, none⟩ = some (.int .i64 bb) := cell_blk U16.out 0; have pU1 : w16.cell? ⟨w4.heap.size, 1, none⟩ = some (.slice q4a LX.length c4a) := cell_blk U16.out 1; have hU := (Array.getElem?_eq_some_iff.1 U16.out).1
  have pV0 : w16.cell? ⟨w4.heap.size + 1, 0, none⟩ = some (.int .i64 bb) := cell_blk V16.out 0; have pV1 : w16.cell? ⟨w4.heap.size + 1, 1, none⟩ = some (.slice q4b LY.length c4b) := cell_blk V16.out 1; have hV := (Array.getElem?_eq_some_iff.1 V16.out).1
  go_wp2_with fail
  refine (I.out _ _ _ Q16.out).mono ?_; rintro e w17 ⟨u17, v17, rfl, oa17, ob17, ap17, b17⟩
  have APM_N := Lib.hid ap17; clear ap17
  have APM_R := Lib.hid (apart_lt (fun k hk => (own_block_lt R16.out k hk).2) (fun k hk => (own_block_lt oa17 k hk).1) (Nat.le_refl _))
  have APM_S := Lib.hid (apart_lt (fun k hk => (own_block_lt S16.out k hk).2) (fun k hk => (own_block_lt oa17 k hk).1) (Nat.le_refl _))
  have APM_G := Lib.hid (apart_lt (fun k hk => (own_block_lt G16.out k hk).2) (fun k hk => (own_block_lt oa17 k hk).1) (Nat.le_refl _))
  have APM_H := Lib.hid (apart_lt (fun k hk => (own_block_lt H16.out k hk).2) (fun k hk => (own_block_lt oa17 k hk).1) (Nat.le_refl _))
  have APM_Q := Lib.hid (apart_lt (fun k hk => (recr_block_lt Q16.out k hk).2) (fun k hk => (own_block_lt oa17 k hk).1) (Nat.le_refl _))
  have APN_R := Lib.hid (apart_lt (fun k hk => (own_block_lt R16.out k hk).2) (fun k hk => (own_block_lt ob17 k hk).1) (Nat.le_refl _))
  have APN_S := Lib.hid (apart_lt (fun k hk => (own_block_lt S16.out k hk).2) (fun k hk => (own_block_lt ob17 k hk).1) (Nat.le_refl _))
  have APN_G := Lib.hid (apart_lt (fun k hk => (own_block_lt G16.out k hk).2) (fun k hk => (own_block_lt ob17 k hk).1) (Nat.le_refl _))
  have APN_H := Lib.hid (apart_lt (fun k hk => (own_block_lt H16.out k hk).2) (fun k hk => (own_block_lt ob17 k hk).1) (Nat.le_refl _))
  have APN_Q := Lib.hid (apart_lt (fun k hk => (recr_block_lt Q16.out k hk).2) (fun k hk => (own_block_lt ob17 k hk).1) (Nat.le_refl _))
  have R17 := Lib.hid (own_keep b17 R16.out)
  have S17 := Lib.hid (own_keep b17 S16.out)
  have G17 := Lib.hid (own_keep b17 G16.out)
  have H17 := Lib.hid (own_keep b17 H16.out)
  have Q17 := Lib.hid (recr_keep b17 Q16.out)
  have bw17 : Below w16.heap.size w16 w17 := b17
  have A17 := Lib.hid (carryB bw17 A16.out)
  have C17 := Lib.hid (carryB bw17 C16.out)
  have U17 := Lib.hid (carryB bw17 U16.out)
  have V17 := Lib.hid (carryB bw17 V16.out)
  have B17 := Lib.hid (Below.trans_size B16.out bw17)
  have s17 : w.heap.size ≤ w17.heap.size := B17.out.size; have t17 : w16.heap.size ≤ w17.heap.size := (by have := b17.size; first | omega | (simp at this; omega) | exact this)
  have M17 := Lib.hid (own_base oa17 (show w16.heap.size ≤ _ by first | exact Nat.le_refl _ | (simp; done) | (simp; omega)))
  have NEA_M := Lib.hid (show some (w2.heap.size) ≠ u17.ownBlock from fun h => by have := (own_block_lt oa17 _ h.symm).1; (try simp at this); omega)
  have NEC_M := Lib.hid (show some (w2.heap.size + 1) ≠ u17.ownBlock from fun h => by have := (own_block_lt oa17 _ h.symm).1; (try simp at this); omega)
  have NEU_M := Lib.hid (show some (w4.heap.size) ≠ u17.ownBlock from fun h => by have := (own_block_lt oa17 _ h.symm).1; (try simp at this); omega)
  have NEV_M := Lib.hid (show some (w4.heap.size + 1) ≠ u17.ownBlock from fun h => by have := (own_block_lt oa17 _ h.symm).1; (try simp at this); omega)
  have N17 := Lib.hid (own_base ob17 (show w16.heap.size ≤ _ by first | exact Nat.le_refl _ | (simp; done) | (simp; omega)))
  have NEA_N := Lib.hid (show some (w2.heap.size) ≠ v17.ownBlock from fun h => by have := (own_block_lt ob17 _ h.symm).1; (try simp at this); omega)
  have NEC_N := Lib.hid (show some (w2.heap.size + 1) ≠ v17.ownBlock from fun h => by have := (own_block_lt ob17 _ h.symm).1; (try simp at this); omega)
  have NEU_N := Lib.hid (show some (w4.heap.size) ≠ v17.ownBlock from fun h => by have := (own_block_lt ob17 _ h.symm).1; (try simp at this); omega)
  have NEV_N := Lib.hid (show some (w4.heap.size + 1) ≠ v17.ownBlock from fun h => by have := (own_block_lt ob17 _ h.symm).1; (try simp at this); omega)
  clear b17 bw17
  obtain ⟨q17a, c17a, rfl, -, -⟩ := own_form oa17; clear oa17
  obtain ⟨q17b, c17b, rfl, -, -⟩ := own_form ob17; clear ob17
  clear pA0 pA1 hA pC0 pC1 hC pU0 pU1 hU pV0 pV1 hV
  have pA0 : w17.cell? ⟨w2.heap.size, 0, none⟩ = some (.int .i64 bb) := cell_blk A17.out 0; have pA1 : w17.cell? ⟨w2.heap.size, 1, none⟩ = some (.slice q2a LX.length c2a) := cell_blk A17.out 1; have hA := (Array.getElem?_eq_some_iff.1 A17.out).1
  have pC0 : w17.cell? ⟨w2.heap.size + 1, 0, none⟩ = some (.int .i64 bb) := cell_blk C17.out 0; have pC1 : w17.cell? ⟨w2.heap.size + 1, 1, none⟩ = some (.slice q2b LY.length c2b) := cell_blk C17.out 1; have hC := (Array.getElem?_eq_some_iff.1 C17.out).1
  have pU0 : w17.cell? ⟨w4.heap.size, 0, none⟩ = some (.int .i64 bb) := cell_blk U17.out 0; have pU1 : w17.cell? ⟨w4.heap.size, 1, none⟩ = some (.slice q4a LX.length c4a) := cell_blk U17.out 1; have hU := (Array.getElem?_eq_some_iff.1 U17.out).1
  have pV0 : w17.cell? ⟨w4.heap.size + 1, 0, none⟩ = some (.int .i64 bb) := cell_blk V17.out 0; have pV1 : w17.cell? ⟨w4.heap.size + 1, 1, none⟩ = some (.slice q4b LY.length c4b) := cell_blk V17.out 1; have hV := (Array.getElem?_eq_some_iff.1 V17.out).1
  clear pA0 pA1 hA pC0 pC1 hC pU0 pU1 hU pV0 pV1 hV
  have pA0 : w17.cell? ⟨w2.heap.size, 0, none⟩ = some (.int .i64 bb) := cell_blk A17.out 0; have pA1 : w17.cell? ⟨w2.heap.size, 1, none⟩ = some (.slice q2a LX.length c2a) := cell_blk A17.out 1; have hA := (Array.getElem?_eq_some_iff.1 A17.out).1
  have pC0 : w17.cell? ⟨w2.heap.size + 1, 0, none⟩ = some (.int .i64 bb) := cell_blk C17.out 0; have pC1 : w17.cell? ⟨w2.heap.size + 1, 1, none⟩ = some (.slice q2b LY.length c2b) := cell_blk C17.out 1; have hC := (Array.getElem?_eq_some_iff.1 C17.out).1
  have pU0 : w17.cell? ⟨w4.heap.size, 0, none⟩ = some (.int .i64 bb) := cell_blk U17.out 0; have pU1 : w17.cell? ⟨w4.heap.size, 1, none⟩ = some (.slice q4a LX.length c4a) := cell_blk U17.out 1; have hU := (Array.getElem?_eq_some_iff.1 U17.out).1
  have pV0 : w17.cell? ⟨w4.heap.size + 1, 0, none⟩ = some (.int .i64 bb) := cell_blk V17.out 0; have pV1 : w17.cell? ⟨w4.heap.size + 1, 1, none⟩ = some (.slice q4b LY.length c4b) := cell_blk V17.out 1; have hV := (Array.getElem?_eq_some_iff.1 V17.out).1
  have NEE_R := Lib.hid (show some (w17.heap.size) ≠ (Value.slice q2a LX.length c2a).ownBlock from fun h => by have := (own_block_lt R17.out _ h.symm).2; omega)
  have NEE_S := Lib.hid (show some (w17.heap.size) ≠ (Value.slice q2b LY.length c2b).ownBlock from fun h => by have := (own_block_lt S17.out _ h.symm).2; omega)
  have NEE_G := Lib.hid (show some (w17.heap.size) ≠ (Value.slice q4a LX.length c4a).ownBlock from fun h => by have := (own_block_lt G17.out _ h.symm).2; omega)
  have NEE_H := Lib.hid (show some (w17.heap.size) ≠ (Value.slice q4b LY.length c4b).ownBlock from fun h => by have := (own_block_lt H17.out _ h.symm).2; omega)
  have NEE_M := Lib.hid (show some (w17.heap.size) ≠ (Value.slice q17a LX.length c17a).ownBlock from fun h => by have := (own_block_lt M17.out _ h.symm).2; omega)
  have NEE_N := Lib.hid (show some (w17.heap.size) ≠ (Value.slice q17b LY.length c17b).ownBlock from fun h => by have := (own_block_lt N17.out _ h.symm).2; omega)
  have NEF_R := Lib.hid (show some (w17.heap.size + 1) ≠ (Value.slice q2a LX.length c2a).ownBlock from fun h => by have := (own_block_lt R17.out _ h.symm).2; omega)
  have NEF_S := Lib.hid (show some (w17.heap.size + 1) ≠ (Value.slice q2b LY.length c2b).ownBlock from fun h => by have := (own_block_lt S17.out _ h.symm).2; omega)
  have NEF_G := Lib.hid (show some (w17.heap.size + 1) ≠ (Value.slice q4a LX.length c4a).ownBlock from fun h => by have := (own_block_lt G17.out _ h.symm).2; omega)
  have NEF_H := Lib.hid (show some (w17.heap.size + 1) ≠ (Value.slice q4b LY.length c4b).ownBlock from fun h => by have := (own_block_lt H17.out _ h.symm).2; omega)
  have NEF_M := Lib.hid (show some (w17.heap.size + 1) ≠ (Value.slice q17a LX.length c17a).ownBlock from fun h => by have := (own_block_lt M17.out _ h.symm).2; omega)
  have NEF_N := Lib.hid (show some (w17.heap.size + 1) ≠ (Value.slice q17b LY.length c17b).ownBlock from fun h => by have := (own_block_lt N17.out _ h.symm).2; omega)
  go_wp2_with fail
  refine (laws_eqRegister _ _ (own_alloc (own_alloc M17.out _) _) (own_alloc (own_alloc R17.out _) _)).mono ?_; rintro e w18 ⟨rfl, b18⟩
  have R18 := Lib.hid (own_keep b18 (own_alloc (own_alloc R17.out _) _))
  have S18 := Lib.hid (own_keep b18 (own_alloc (own_alloc S17.out _) _))
  have G18 := Lib.hid (own_keep b18 (own_alloc (own_alloc G17.out _) _))
  have H18 := Lib.hid (own_keep b18 (own_alloc (own_alloc H17.out _) _))
  have M18 := Lib.hid (own_keep b18 (own_alloc (own_alloc M17.out _) _))
  have N18 := Lib.hid (own_keep b18 (own_alloc (own_alloc N17.out _) _))
  obtain ⟨y18_0, y18_1, bw18, -, -⟩ := blk2 b18
  have A18 := Lib.hid (carryB bw18 A17.out)
  have C18 := Lib.hid (carryB bw18 C17.out)
  have U18 := Lib.hid (carryB bw18 U17.out)
  have V18 := Lib.hid (carryB bw18 V17.out)
  have E18 := Lib.hid y18_0; clear y18_0
  have F18 := Lib.hid y18_1; clear y18_1
  have B18 := Lib.hid (Below.trans_size B17.out bw18)
  have s18 : w.heap.size ≤ w18.heap.size := B18.out.size; have t18 : w17.heap.size + 2 ≤ w18.heap.size := (by have := b18.size; first | omega | (simp at this; omega) | exact this)
  clear b18 bw18
  clear pA0 pA1 hA pC0 pC1 hC pU0 pU1 hU pV0 pV1 hV
  have pA0 : w18.cell? ⟨w2.heap.size, 0, none⟩ = some (.int .i64 bb) := cell_blk A18.out 0; have pA1 : w18.cell? ⟨w2.heap.size, 1, none⟩ = some (.slice q2a LX.length c2a) := cell_blk A18.out 1; have hA := (Array.getElem?_eq_some_iff.1 A18.out).1
  have pC0 : w18.cell? ⟨w2.heap.size + 1, 0, none⟩ = some (.int .i64 bb) := cell_blk C18.out 0; have pC1 : w18.cell? ⟨w2.heap.size + 1, 1, none⟩ = some (.slice q2b LY.length c2b) := cell_blk C18.out 1; have hC := (Array.getElem?_eq_some_iff.1 C18.out).1
  have pU0 : w18.cell? ⟨w4.heap.size, 0, none⟩ = some (.int .i64 bb) := cell_blk U18.out 0; have pU1 : w18.cell? ⟨w4.heap.size, 1, none⟩ = some (.slice q4a LX.length c4a) := cell_blk U18.out 1; have hU := (Array.getElem?_eq_some_iff.1 U18.out).1
  have pV0 : w18.cell? ⟨w4.heap.size + 1, 0, none⟩ = some (.int .i64 bb) := cell_blk V18.out 0; have pV1 : w18.cell? ⟨w4.heap.size + 1, 1, none⟩ = some (.slice q4b LY.length c4b) := cell_blk V18.out 1; have hV := (Array.getElem?_eq_some_iff.1 V18.out).1
  have pE0 : w18.cell? ⟨w17.heap.size, 0, none⟩ = some (.int .i64 bb) := cell_blk E18.out 0; have pE1 : w18.cell? ⟨w17.heap.size, 1, none⟩ = some (.slice q17a LX.length c17a) := cell_blk E18.out 1; have hE := (Array.getElem?_eq_some_iff.1 E18.out).1
  have pF0 : w18.cell? ⟨w17.heap.size + 1, 0, none⟩ = some (.int .i64 bb) := cell_blk F18.out 0; have pF1 : w18.cell? ⟨w17.heap.size + 1, 1, none⟩ = some (.slice q17b LY.length c17b) := cell_blk F18.out 1; have hF := (Array.getElem?_eq_some_iff.1 F18.out).1
  go_wp2_with fail
  refine (laws_eqRegister _ _ N18.out S18.out).mono ?_; rintro e w19 ⟨rfl, b19⟩
  have R19 := Lib.hid (own_keep b19 R18.out)
  have S19 := Lib.hid (own_keep b19 S18.out)
  have G19 := Lib.hid (own_keep b19 G18.out)
  have H19 := Lib.hid (own_keep b19 H18.out)
  have M19 := Lib.hid (own_keep b19 M18.out)
  have N19 := Lib.hid (own_keep b19 N18.out)
  have bw19 : Below w18.heap.size w18 w19 := b19
  have A19 := Lib.hid (carryB bw19 A18.out)
  have C19 := Lib.hid (carryB bw19 C18.out)
  have U19 := Lib.hid (carryB bw19 U18.out)
  have V19 := Lib.hid (carryB bw19 V18.out)
  have E19 := Lib.hid (carryB bw19 E18.out)
  have F19 := Lib.hid (carryB bw19 F18.out)
  have B19 := Lib.hid (Below.trans_size B18.out bw19)
  have s19 : w.heap.size ≤ w19.heap.size := B19.out.size; have t19 : w18.heap.size ≤ w19.heap.size := (by have := b19.size; first | omega | (simp at this; omega) | exact this)
  clear b19 bw19
  clear pA0 pA1 hA pC0 pC1 hC pU0 pU1 hU pV0 pV1 hV pE0 pE1 hE pF0 pF1 hF
  have pA0 : w19.cell? ⟨w2.heap.size, 0, none⟩ = some (.int .i64 bb) := cell_blk A19.out 0; have pA1 : w19.cell? ⟨w2.heap.size, 1, none⟩ = some (.slice q2a LX.length c2a) := cell_blk A19.out 1; have hA := (Array.getElem?_eq_some_iff.1 A19.out).1
  have pC0 : w19.cell? ⟨w2.heap.size + 1, 0, none⟩ = some (.int .i64 bb) := cell_blk C19.out 0; have pC1 : w19.cell? ⟨w2.heap.size + 1, 1, none⟩ = some (.slice q2b LY.length c2b) := cell_blk C19.out 1; have hC := (Array.getElem?_eq_some_iff.1 C19.out).1
  have pU0 : w19.cell? ⟨w4.heap.size, 0, none⟩ = some (.int .i64 bb) := cell_blk U19.out 0; have pU1 : w19.cell? ⟨w4.heap.size, 1, none⟩ = some (.slice q4a LX.length c4a) := cell_blk U19.out 1; have hU := (Array.getElem?_eq_some_iff.1 U19.out).1
  have pV0 : w19.cell? ⟨w4.heap.size + 1, 0, none⟩ = some (.int .i64 bb) := cell_blk V19.out 0; have pV1 : w19.cell? ⟨w4.heap.size + 1, 1, none⟩ = some (.slice q4b LY.length c4b) := cell_blk V19.out 1; have hV := (Array.getElem?_eq_some_iff.1 V19.out).1
  have pE0 : w19.cell? ⟨w17.heap.size, 0, none⟩ = some (.int .i64 bb) := cell_blk E19.out 0; have pE1 : w19.cell? ⟨w17.heap.size, 1, none⟩ = some (.slice q17a LX.length c17a) := cell_blk E19.out 1; have hE := (Array.getElem?_eq_some_iff.1 E19.out).1
  have pF0 : w19.cell? ⟨w17.heap.size + 1, 0, none⟩ = some (.int .i64 bb) := cell_blk F19.out 0; have pF1 : w19.cell? ⟨w17.heap.size + 1, 1, none⟩ = some (.slice q17b LY.length c17b) := cell_blk F19.out 1; have hF := (Array.getElem?_eq_some_iff.1 F19.out).1
  go_wp2_with fail
  refine (laws_heldRegister _ _ 1 _ G19.out (by omega) (by omega) (by omega)).mono ?_; rintro e w20 ⟨rfl, b20⟩
  have R20 := Lib.hid (own_keep b20 R19.out)
  have S20 := Lib.hid (own_keep b20 S19.out)
  have G20 := Lib.hid (own_keep b20 G19.out)
  have H20 := Lib.hid (own_keep b20 H19.out)
  have M20 := Lib.hid (own_keep b20 M19.out)
  have N20 := Lib.hid (own_keep b20 N19.out)
  have bw20 : Below w19.heap.size w19 w20 := b20
  have A20 := Lib.hid (carryB bw20 A19.out)
  have C20 := Lib.hid (carryB bw20 C19.out)
  have U20 := Lib.hid (carryB bw20 U19.out)
  have V20 := Lib.hid (carryB bw20 V19.out)
  have E20 := Lib.hid (carryB bw20 E19.out)
  have F20 := Lib.hid (carryB bw20 F19.out)
  have B20 := Lib.hid (Below.trans_size B19.out bw20)
  have s20 : w.heap.size ≤ w20.heap.size := B20.out.size; have t20 : w19.heap.size ≤ w20.heap.size := (by have := b20.size; first | omega | (simp at this; omega) | exact this)
  clear b20 bw20
  clear pA0 pA1 hA pC0 pC1 hC pU0 pU1 hU pV0 pV1 hV pE0 pE1 hE pF0 pF1 hF
  have pA0 : w20.cell? ⟨w2.heap.size, 0, none⟩ = some (.int .i64 bb) := cell_blk A20.out 0; have pA1 : w20.cell? ⟨w2.heap.size, 1, none⟩ = some (.slice q2a LX.length c2a) := cell_blk A20.out 1; have hA := (Array.getElem?_eq_some_iff.1 A20.out).1
  have pC0 : w20.cell? ⟨w2.heap.size + 1, 0, none⟩ = some (.int .i64 bb) := cell_blk C20.out 0; have pC1 : w20.cell? ⟨w2.heap.size + 1, 1, none⟩ = some (.slice q2b LY.length c2b) := cell_blk C20.out 1; have hC := (Array.getElem?_eq_some_iff.1 C20.out).1
  have pU0 : w20.cell? ⟨w4.heap.size, 0, none⟩ = some (.int .i64 bb) := cell_blk U20.out 0; have pU1 : w20.cell? ⟨w4.heap.size, 1, none⟩ = some (.slice q4a LX.length c4a) := cell_blk U20.out 1; have hU := (Array.getElem?_eq_some_iff.1 U20.out).1
  have pV0 : w20.cell? ⟨w4.heap.size + 1, 0, none⟩ = some (.int .i64 bb) := cell_blk V20.out 0; have pV1 : w20.cell? ⟨w4.heap.size + 1, 1, none⟩ = some (.slice q4b LY.length c4b) := cell_blk V20.out 1; have hV := (Array.getElem?_eq_some_iff.1 V20.out).1
  have pE0 : w20.cell? ⟨w17.heap.size, 0, none⟩ = some (.int .i64 bb) := cell_blk E20.out 0; have pE1 : w20.cell? ⟨w17.heap.size, 1, none⟩ = some (.slice q17a LX.length c17a) := cell_blk E20.out 1; have hE := (Array.getElem?_eq_some_iff.1 E20.out).1
  have pF0 : w20.cell? ⟨w17.heap.size + 1, 0, none⟩ = some (.int .i64 bb) := cell_blk F20.out 0; have pF1 : w20.cell? ⟨w17.heap.size + 1, 1, none⟩ = some (.slice q17b LY.length c17b) := cell_blk F20.out 1; have hF := (Array.getElem?_eq_some_iff.1 F20.out).1
  go_wp2_with fail
  refine (laws_heldRegister _ _ (1 + (LX.length : Int)) _ H20.out (by omega) (by omega) (by omega)).mono ?_; rintro e w21 ⟨rfl, b21⟩
  have R21 := Lib.hid (own_keep b21 R20.out)
  have S21 := Lib.hid (own_keep b21 S20.out)
  have G21 := Lib.hid (own_keep b21 G20.out)
  have H21 := Lib.hid (own_keep b21 H20.out)
  have M21 := Lib.hid (own_keep b21 M20.out)
  have N21 := Lib.hid (own_keep b21 N20.out)
  have bw21 : Below w20.heap.size w20 w21 := b21
  have A21 := Lib.hid (carryB bw21 A20.out)
  have C21 := Lib.hid (carryB bw21 C20.out)
  have U21 := Lib.hid (carryB bw21 U20.out)
  have V21 := Lib.hid (carryB bw21 V20.out)
  have E21 := Lib.hid (carryB bw21 E20.out)
  have F21 := Lib.hid (carryB bw21 F20.out)
  have B21 := Lib.hid (Below.trans_size B20.out bw21)
  have s21 : w.heap.size ≤ w21.heap.size := B21.out.size; have t21 : w20.heap.size ≤ w21.heap.size := (by have := b21.size; first | omega | (simp at this; omega) | exact this)
  clear b21 bw21
  clear pA0 pA1 hA pC0 pC1 hC pU0 pU1 hU pV0 pV1 hV pE0 pE1 hE pF0 pF1 hF
  have pA0 : w21.cell? ⟨w2.heap.size, 0, none⟩ = some (.int .i64 bb) := cell_blk A21.out 0; have pA1 : w21.cell? ⟨w2.heap.size, 1, none⟩ = some (.slice q2a LX.length c2a) := cell_blk A21.out 1; have hA := (Array.getElem?_eq_some_iff.1 A21.out).1
  have pC0 : w21.cell? ⟨w2.heap.size + 1, 0, none⟩ = some (.int .i64 bb) := cell_blk C21.out 0; have pC1 : w21.cell? ⟨w2.heap.size + 1, 1, none⟩ = some (.slice q2b LY.length c2b) := cell_blk C21.out 1; have hC := (Array.getElem?_eq_some_iff.1 C21.out).1
  have pU0 : w21.cell? ⟨w4.heap.size, 0, none⟩ = some (.int .i64 bb) := cell_blk U21.out 0; have pU1 : w21.cell? ⟨w4.heap.size, 1, none⟩ = some (.slice q4a LX.length c4a) := cell_blk U21.out 1; have hU := (Array.getElem?_eq_some_iff.1 U21.out).1
  have pV0 : w21.cell? ⟨w4.heap.size + 1, 0, none⟩ = some (.int .i64 bb) := cell_blk V21.out 0; have pV1 : w21.cell? ⟨w4.heap.size + 1, 1, none⟩ = some (.slice q4b LY.length c4b) := cell_blk V21.out 1; have hV := (Array.getElem?_eq_some_iff.1 V21.out).1
  have pE0 : w21.cell? ⟨w17.heap.size, 0, none⟩ = some (.int .i64 bb) := cell_blk E21.out 0; have pE1 : w21.cell? ⟨w17.heap.size, 1, none⟩ = some (.slice q17a LX.length c17a) := cell_blk E21.out 1; have hE := (Array.getElem?_eq_some_iff.1 E21.out).1
  have pF0 : w21.cell? ⟨w17.heap.size + 1, 0, none⟩ = some (.int .i64 bb) := cell_blk F21.out 0; have pF1 : w21.cell? ⟨w17.heap.size + 1, 1, none⟩ = some (.slice q17b LY.length c17b) := cell_blk F21.out 1; have hF := (Array.getElem?_eq_some_iff.1 F21.out).1
  go_wp2_with fail
  go_ret
  exact ⟨rfl, B21.out⟩

set_option maxRecDepth 100000 in
theorem lifted (os : Os) (started : os.Started) (H : Type) (enc : TypeId × Value → H) :
    ReturnsInHanded {} Try.checked os 5 .any (Rows.fnExactTableWitnessSpec.pre6 enc Try.prog Try.f5 Rows.fnExactTableWitnessRow.domain false) (Rows.fnExactTableWitnessSpec.post enc Try.prog Try.f5 false true false false) := by
  refine returnsInHanded_of_change (C := Try.checked) own started (by kernel_rfl) Try.func5
    (ChangeSpec.witness6 (enc := enc) (C := Try.checked) false ⟨#[], #[.int .i64 0, .slice none 0 0], []⟩ 8 (by kernel_rfl) (by kernel_rfl) (by kernel_rfl) (by kernel_rfl)) ?_
  intro W base args ds gs before hval0 hW hcnd _
  have hval : ∀ (j : Nat) t v, Try.f5.params[j]? = some t → args[j]? = some v → Value.okWide Try.prog W .any base t v := hval0
  have hW' := hW
  obtain ⟨p, q, hA0, hV, rfl, hfz, hnd⟩ := hW
  have hA : DataW.TrodAll enc Try.prog W 0 (fun _ => true) true Try.f5.params.toList args.toList ds p := hA0
  rw [Try.params5] at hA hval
  obtain ⟨v0, vs0, d0, ds0, p0, q0, hargs, rfl, rfl, h0, r0⟩ := trodAll_cons hA
  obtain ⟨v1, vs1, d1, ds1, p1, q1, rfl, rfl, rfl, h1, r1⟩ := trodAll_cons r0
  obtain ⟨rfl, rfl, rfl⟩ := trodAll_nil r1
  obtain rfl : args = #[v0, v1] := by cases args; simp_all
  obtain ⟨rfl, rfl⟩ := trodVars_none hV
  have k0 := h0
  have lt0 : ∀ x ∈ p0, x.block < W.heap.size := by obtain ⟨m, hm⟩ := k0; exact DataW.trod_lt m _ _ _ hm
  obtain ⟨a0, rfl, rfl, rfl, w0⟩ := open_int Try.underlying2 (hval 0 2 v0 rfl rfl) h0
  obtain ⟨a1, len1, cap1, rfl⟩ := okWide_slice Try.underlying38 (hval 1 38 v1 rfl rfl)
  have k1 := h1
  have lt1 : ∀ x ∈ p1, x.block < W.heap.size := by obtain ⟨m, hm⟩ := k1; exact DataW.trod_lt m _ _ _ hm
  obtain ⟨z1, w1⟩ : ∃ zs, IsRec W a1 len1 cap1 zs := by
    obtain ⟨fuel, hf⟩ := h1
    obtain ⟨a, l, c, zs, hcs, hr⟩ := open_recs Try.underlying38 Try.underlying71 (by kernel_rfl) (fun i hi => by
      match i, hi with
      | 0, _ => exact ⟨_, rfl, rfl, Try.underlying2, by kernel_rfl⟩
      | 1, _ => exact ⟨_, rfl, rfl, Try.underlying2, by kernel_rfl⟩
      | 2, _ => exact ⟨_, rfl, rfl, Try.underlying2, by kernel_rfl⟩
      | 3, _ => exact ⟨_, rfl, rfl, Try.underlying2, by kernel_rfl⟩
      | 4, _ => exact ⟨_, rfl, rfl, Try.underlying2, by kernel_rfl⟩) hf
    simp [Value.cells] at hcs
    obtain ⟨rfl, rfl, rfl⟩ := hcs
    exact ⟨zs, hr⟩
  clear hA0 hval0
  refine (walk a0 a1 len1 cap1 z1 W w0 w1).mono fun e W' ⟨he, bel⟩ => ?_
  subst he
  exact ⟨_, rfl, _, _, _, [], _, [], hW', trodAll_mk1 (shut_bool Try.underlying4 _), (trodAll_cons_mk (Below.trod laidOut (by kernel_rfl) (of_decide_eq_true (by kernel_rfl)) k0 bel lt0) (trodAll_cons_mk (Below.trod laidOut (by kernel_rfl) (of_decide_eq_true (by kernel_rfl)) k1 bel lt1) trodAll_mk0)), rfl, bel.frame _, fun h => by cases h⟩

theorem over : Rows.fnExactTableWitnessRow.holds Try.pinned (OpenSpec.ofChange Rows.fnExactTableWitnessSpec) :=
  OpenClaim.holds_of_wide 5 Try.f5 rfl rfl rfl rfl rfl rfl rfl ⟨rfl, rfl, rfl, rfl, rfl⟩ rfl rfl rfl rfl rfl (by kernel_rfl) Try.func5 (by kernel_rfl)
    (of_decide_eq_true (by kernel_rfl)) (by unfold Func.isWrapper; first | (rw [if_pos (by decide +kernel)]; kernel_rfl) | (rw [if_neg (by decide +kernel)]; exact ⟨rfl, rfl⟩))
    (fun os started H enc _ => lifted os started H enc)

theorem proved : Rows.FnExactTableWitnessSaid := over
#print axioms proved
end Go.Proofs.Ytkhjmokjbiepgaa.fnExactTableWitness
