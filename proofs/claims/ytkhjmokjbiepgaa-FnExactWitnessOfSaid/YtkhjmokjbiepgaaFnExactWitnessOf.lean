/- The law FnExactWitnessOf returns true for every input, and its arguments read afterwards as they read before: no condition. -/
import Derived.Test.YtkhjmokjbiepgaaWj
import Derived.OpenShut
import Derived.ShutString
import Derived.ChangeOld
import Derived.Below
import Derived.Lib.SmallJoins
namespace Go.Proofs.Ytkhjmokjbiepgaa.fnExactWitnessOf
open Go.ChangeShapes Go.WideShapes Go.ChangeAt Go.RowKit
open Go.ChangeMaps (open_string shut_string)
set_option linter.unusedVariables false

theorem own : ownKnob Try.prog.godebug = none := by kernel_rfl
theorem laidOut : laidOutB Try.prog = true := by kernel_rfl

theorem carryA {w w' : World} {A O : Obj} {n : Nat} (b : Below (w.alloc A).heap.size (w.alloc A) w') (h : w.heap[n]? = some O) : w'.heap[n]? = some O := by
  have hn : n < w.heap.size := (Array.getElem?_eq_some_iff.1 h).1
  rw [b.block n (by simp; omega), Below.heap_alloc _ _ _ hn]; exact h
theorem carryB {w w' : World} {O : Obj} {n : Nat} (b : Below w.heap.size w w') (h : w.heap[n]? = some O) : w'.heap[n]? = some O := by
  have hn : n < w.heap.size := (Array.getElem?_eq_some_iff.1 h).1
  rw [b.block n hn]; exact h
theorem carryG {w w' : World} {O o : Obj} {n : Nat} {row : Option Nat} (hg : (w.alloc o).grownBy w' row) (h : w.heap[n]? = some O) (hne : some n ≠ row) : w'.heap[n]? = some O := by
  have hn : n < w.heap.size := (Array.getElem?_eq_some_iff.1 h).1
  rw [hg.block n (by simp; omega) hne, Below.heap_alloc _ _ _ hn]; exact h
theorem laws_markRegister2 {B : Nat} {v : Value} {zs : List Int} (b : Int) (w : World) (k : Int) (h1 : Own w B v zs) (h0 : 0 ≤ k) (hk : k ≤ 1000000000) (hl : zs.length ≤ 1000000000) :
    Calls Try.prog 25 #[.agg #[.int .i64 b, v], .int .i64 k] w fun e w' => e = .returned (.int .i64 (k + zs.length)) ∧ ∃ o, (w.alloc o).grownBy w' v.ownBlock ∧ Own w' B v (marks k zs.length) := by
  have H1 := Lib.hid h1
  obtain ⟨a1, c1, rfl, -, -⟩ := own_form h1
  clear h1
  go_enter Try.func25, Try.ntmps25
  go_wp2_with fail
  refine (laws_markInt64S _ k (own_alloc H1.out _) h0 hk hl).mono ?_; rintro e w1 ⟨rfl, o1, g1⟩
  have G1 := Lib.hid g1; have O1 := Lib.hid o1; clear o1 g1
  go_wp2_with fail
  go_ret
  exact ⟨rfl, _, G1.out, O1.out⟩
theorem laws_heldRegister {B : Nat} {v : Value} (b : Int) (w : World) (k : Int) (n : Nat) (h1 : Own w B v (marks k n)) (h0 : 0 ≤ k) (hk : k ≤ 1000000000) (hl : n ≤ 1000000000) :
    Calls Try.prog 26 #[.agg #[.int .i64 b, v], .int .i64 k] w (RetV w (.int .i64 (k + n))) := by
  have H1 := Lib.hid h1
  obtain ⟨a1, c1, rfl, -, -⟩ := own_form h1
  clear h1
  go_enter Try.func26, Try.ntmps26
  go_wp2_with fail
  refine (laws_heldInt64S _ k n (own_alloc H1.out _) h0 hk hl).mono ?_; rintro e w1 ⟨rfl, rfl⟩
  go_wp2_with fail
  go_ret
  exact ⟨rfl, below_al _ _⟩
theorem carryG0 {w w' : World} {O : Obj} {n : Nat} {row : Option Nat} (hg : w.grownBy w' row) (h : w.heap[n]? = some O) (hne : some n ≠ row) : w'.heap[n]? = some O := by
  have hn : n < w.heap.size := (Array.getElem?_eq_some_iff.1 h).1
  rw [hg.block n hn hne]; exact h
theorem apart_lt {a b : Value} {B N : Nat} (ha : ∀ k, a.ownBlock = some k → k < N) (hb : ∀ k, b.ownBlock = some k → B ≤ k) (hB : N ≤ B) : Apart b a := fun k hk e => by
  have x := ha k e
  have y := hb k hk
  omega
set_option maxHeartbeats 4000000 in
set_option maxRecDepth 100000 in
theorem walk (a0 : Int) (a1 : Int) (n2 m2 : Int) (w : World) (w0 : (Lit.int .i64 a0).wf = true) (w1 : (Lit.int .i64 a1).wf = true) :
    Calls Try.prog 6 #[.int .i64 a0, .int .i64 a1, .agg #[.int .i64 n2, .int .i64 m2]] w fun e w' => e = .returned (.bool true) ∧ Below w.heap.size w w' := by
  obtain ⟨hX, hY⟩ := wi_len a0 a1 n2 m2
  have S := Lib.hid (fun (wx : World) => spec_WitnessOf a0 a1 n2 m2 wx)
  have I := Lib.hid (fun (wx : World) => impl_WitnessOf a0 a1 n2 m2 wx)
  generalize wiX a0 a1 n2 m2 = LX at S I hX
  generalize wiY a0 a1 n2 m2 = LY at S I hY
  generalize wiB a0 a1 n2 m2 = bb at S I
  generalize wiC a0 a1 n2 m2 = cc at S I
  go_enter Try.func6, Try.ntmps6
  go_wp2_with fail
  refine (laws_toLeverFault n2 m2 _).mono ?_; rintro e w1 ⟨rfl, b1⟩
  obtain ⟨y1_0, bw1, -, -⟩ := blk1 b1
  have Z1 := Lib.hid y1_0; clear y1_0
  have B1 := Lib.hid (Below.trans_size (Below.refl w.heap.size w) bw1)
  have s1 : w.heap.size ≤ w1.heap.size := B1.out.size; have t1 : w.heap.size + 1 ≤ w1.heap.size := (by have := b1.size; first | omega | (simp at this; omega) | exact this)
  clear b1 bw1
  have pZ0 : w1.cell? ⟨w.heap.size, 0, none⟩ = some (.int .i64 n2) := cell_blk Z1.out 0; have pZ1 : w1.cell? ⟨w.heap.size, 1, none⟩ = some (.int .i64 m2) := cell_blk Z1.out 1; have hZ := (Array.getElem?_eq_some_iff.1 Z1.out).1
  go_wp2_with fail
  refine (S.out _).mono ?_; rintro e w2 ⟨u2, v2, rfl, oa2, ob2, ap2, b2⟩
  have APR_S := Lib.hid ap2; clear ap2
  have bw2 : Below w1.heap.size w1 w2 := b2
  have Z2 := Lib.hid (carryB bw2 Z1.out)
  have B2 := Lib.hid (Below.trans_size B1.out bw2)
  have s2 : w.heap.size ≤ w2.heap.size := B2.out.size; have t2 : w1.heap.size ≤ w2.heap.size := (by have := b2.size; first | omega | (simp at this; omega) | exact this)
  have R2 := Lib.hid (own_base oa2 (show w1.heap.size ≤ _ by first | exact Nat.le_refl _ | (simp; done) | (simp; omega)))
  have NEZ_R := Lib.hid (show some (w.heap.size) ≠ u2.ownBlock from fun h => by have := (own_block_lt oa2 _ h.symm).1; (try simp at this); omega)
  have S2 := Lib.hid (own_base ob2 (show w1.heap.size ≤ _ by first | exact Nat.le_refl _ | (simp; done) | (simp; omega)))
  have NEZ_S := Lib.hid (show some (w.heap.size) ≠ v2.ownBlock from fun h => by have := (own_block_lt ob2 _ h.symm).1; (try simp at this); omega)
  clear b2 bw2
  obtain ⟨q2a, c2a, rfl, -, -⟩ := own_form oa2; clear oa2
  obtain ⟨q2b, c2b, rfl, -, -⟩ := own_form ob2; clear ob2
  clear pZ0 pZ1 hZ
  have pZ0 : w2.cell? ⟨w.heap.size, 0, none⟩ = some (.int .i64 n2) := cell_blk Z2.out 0; have pZ1 : w2.cell? ⟨w.heap.size, 1, none⟩ = some (.int .i64 m2) := cell_blk Z2.out 1; have hZ := (Array.getElem?_eq_some_iff.1 Z2.out).1
  have NEA_R := Lib.hid (show some (w2.heap.size) ≠ (Value.slice q2a LX.length c2a).ownBlock from fun h => by have := (own_block_lt R2.out _ h.symm).2; omega)
  have NEA_S := Lib.hid (show some (w2.heap.size) ≠ (Value.slice q2b LY.length c2b).ownBlock from fun h => by have := (own_block_lt S2.out _ h.symm).2; omega)
  have NEC_R := Lib.hid (show some (w2.heap.size + 1) ≠ (Value.slice q2a LX.length c2a).ownBlock from fun h => by have := (own_block_lt R2.out _ h.symm).2; omega)
  have NEC_S := Lib.hid (show some (w2.heap.size + 1) ≠ (Value.slice q2b LY.length c2b).ownBlock from fun h => by have := (own_block_lt S2.out _ h.symm).2; omega)
  go_wp2_with fail
  refine (laws_toLeverFault n2 m2 _).mono ?_; rintro e w3 ⟨rfl, b3⟩
  have R3 := Lib.hid (own_keep b3 (own_alloc (own_alloc R2.out _) _))
  have S3 := Lib.hid (own_keep b3 (own_alloc (own_alloc S2.out _) _))
  obtain ⟨y3_0, y3_1, bw3, -, -⟩ := blk2 b3
  have Z3 := Lib.hid (carryB bw3 Z2.out)
  have A3 := Lib.hid y3_0; clear y3_0
  have C3 := Lib.hid y3_1; clear y3_1
  have B3 := Lib.hid (Below.trans_size B2.out bw3)
  have s3 : w.heap.size ≤ w3.heap.size := B3.out.size; have t3 : w2.heap.size + 2 ≤ w3.heap.size := (by have := b3.size; first | omega | (simp at this; omega) | exact this)
  clear b3 bw3
  clear pZ0 pZ1 hZ
  have pZ0 : w3.cell? ⟨w.heap.size, 0, none⟩ = some (.int .i64 n2) := cell_blk Z3.out 0; have pZ1 : w3.cell? ⟨w.heap.size, 1, none⟩ = some (.int .i64 m2) := cell_blk Z3.out 1; have hZ := (Array.getElem?_eq_some_iff.1 Z3.out).1
  have pA0 : w3.cell? ⟨w2.heap.size, 0, none⟩ = some (.int .i64 bb) := cell_blk A3.out 0; have pA1 : w3.cell? ⟨w2.heap.size, 1, none⟩ = some (.slice q2a LX.length c2a) := cell_blk A3.out 1; have hA := (Array.getElem?_eq_some_iff.1 A3.out).1
  have pC0 : w3.cell? ⟨w2.heap.size + 1, 0, none⟩ = some (.int .i64 bb) := cell_blk C3.out 0; have pC1 : w3.cell? ⟨w2.heap.size + 1, 1, none⟩ = some (.slice q2b LY.length c2b) := cell_blk C3.out 1; have hC := (Array.getElem?_eq_some_iff.1 C3.out).1
  go_wp2_with fail
  refine (I.out _).mono ?_; rintro e w4 ⟨u4, v4, rfl, oa4, ob4, ap4, b4⟩
  have APG_H := Lib.hid ap4; clear ap4
  have APG_R := Lib.hid (apart_lt (fun k hk => (own_block_lt R3.out k hk).2) (fun k hk => (own_block_lt oa4 k hk).1) (Nat.le_refl _))
  have APG_S := Lib.hid (apart_lt (fun k hk => (own_block_lt S3.out k hk).2) (fun k hk => (own_block_lt oa4 k hk).1) (Nat.le_refl _))
  have APH_R := Lib.hid (apart_lt (fun k hk => (own_block_lt R3.out k hk).2) (fun k hk => (own_block_lt ob4 k hk).1) (Nat.le_refl _))
  have APH_S := Lib.hid (apart_lt (fun k hk => (own_block_lt S3.out k hk).2) (fun k hk => (own_block_lt ob4 k hk).1) (Nat.le_refl _))
  have R4 := Lib.hid (own_keep b4 R3.out)
  have S4 := Lib.hid (own_keep b4 S3.out)
  have bw4 : Below w3.heap.size w3 w4 := b4
  have Z4 := Lib.hid (carryB bw4 Z3.out)
  have A4 := Lib.hid (carryB bw4 A3.out)
  have C4 := Lib.hid (carryB bw4 C3.out)
  have B4 := Lib.hid (Below.trans_size B3.out bw4)
  have s4 : w.heap.size ≤ w4.heap.size := B4.out.size; have t4 : w3.heap.size ≤ w4.heap.size := (by have := b4.size; first | omega | (simp at this; omega) | exact this)
  have G4 := Lib.hid (own_base oa4 (show w3.heap.size ≤ _ by first | exact Nat.le_refl _ | (simp; done) | (simp; omega)))
  have NEZ_G := Lib.hid (show some (w.heap.size) ≠ u4.ownBlock from fun h => by have := (own_block_lt oa4 _ h.symm).1; (try simp at this); omega)
  have NEA_G := Lib.hid (show some (w2.heap.size) ≠ u4.ownBlock from fun h => by have := (own_block_lt oa4 _ h.symm).1; (try simp at this); omega)
  have NEC_G := Lib.hid (show some (w2.heap.size + 1) ≠ u4.ownBlock from fun h => by have := (own_block_lt oa4 _ h.symm).1; (try simp at this); omega)
  have H4 := Lib.hid (own_base ob4 (show w3.heap.size ≤ _ by first | exact Nat.le_refl _ | (simp; done) | (simp; omega)))
  have NEZ_H := Lib.hid (show some (w.heap.size) ≠ v4.ownBlock from fun h => by have := (own_block_lt ob4 _ h.symm).1; (try simp at this); omega)
  have NEA_H := Lib.hid (show some (w2.heap.size) ≠ v4.ownBlock from fun h => by have := (own_block_lt ob4 _ h.symm).1; (try simp at this); omega)
  have NEC_H := Lib.hid (show some (w2.heap.size + 1) ≠ v4.ownBlock from fun h => by have := (own_block_lt ob4 _ h.symm).1; (try simp at this); omega)
  clear b4 bw4
  obtain ⟨q4a, c4a, rfl, -, -⟩ := own_form oa4; clear oa4
  obtain ⟨q4b, c4b, rfl, -, -⟩ := own_form ob4; clear ob4
  clear pZ0 pZ1 hZ pA0 pA1 hA pC0 pC1 hC
  have pZ0 : w4.cell? ⟨w.heap.size, 0, none⟩ = some (.int .i64 n2) := cell_blk Z4.out 0; have pZ1 : w4.cell? ⟨w.heap.size, 1, none⟩ = some (.int .i64 m2) := cell_blk Z4.out 1; have hZ := (Array.getElem?_eq_some_iff.1 Z4.out).1
  have pA0 : w4.cell? ⟨w2.heap.size, 0, none⟩ = some (.int .i64 bb) := cell_blk A4.out 0; have pA1 : w4.cell? ⟨w2.heap.size, 1, none⟩ = some (.slice q2a LX.length c2a) := cell_blk A4.out 1; have hA := (Array.getElem?_eq_some_iff.1 A4.out).1
  have pC0 : w4.cell? ⟨w2.heap.size + 1, 0, none⟩ = some (.int .i64 bb) := cell_blk C4.out 0; have pC1 : w4.cell? ⟨w2.heap.size + 1, 1, none⟩ = some (.slice q2b LY.length c2b) := cell_blk C4.out 1; have hC := (Array.getElem?_eq_some_iff.1 C4.out).1
  have NEU_R := Lib.hid (show some (w4.heap.size) ≠ (Value.slice q2a LX.length c2a).ownBlock from fun h => by have := (own_block_lt R4.out _ h.symm).2; omega)
  have NEU_S := Lib.hid (show some (w4.heap.size) ≠ (Value.slice q2b LY.length c2b).ownBlock from fun h => by have := (own_block_lt S4.out _ h.symm).2; omega)
  have NEU_G := Lib.hid (show some (w4.heap.size) ≠ (Value.slice q4a LX.length c4a).ownBlock from fun h => by have := (own_block_lt G4.out _ h.symm).2; omega)
  have NEU_H := Lib.hid (show some (w4.heap.size) ≠ (Value.slice q4b LY.length c4b).ownBlock from fun h => by have := (own_block_lt H4.out _ h.symm).2; omega)
  have NEV_R := Lib.hid (show some (w4.heap.size + 1) ≠ (Value.slice q2a LX.length c2a).ownBlock from fun h => by have := (own_block_lt R4.out _ h.symm).2; omega)
  have NEV_S := Lib.hid (show some (w4.heap.size + 1) ≠ (Value.slice q2b LY.length c2b).ownBlock from fun h => by have := (own_block_lt S4.out _ h.symm).2; omega)
  have NEV_G := Lib.hid (show some (w4.heap.size + 1) ≠ (Value.slice q4a LX.length c4a).ownBlock from fun h => by have := (own_block_lt G4.out _ h.symm).2; omega)
  have NEV_H := Lib.hid (show some (w4.heap.size + 1) ≠ (Value.slice q4b LY.length c4b).ownBlock from fun h => by have := (own_block_lt H4.out _ h.symm).2; omega)
  go_wp2_with fail
  refine (laws_eqRegister _ _ (own_alloc (own_alloc G4.out _) _) (own_alloc (own_alloc R4.out _) _)).mono ?_; rintro e w5 ⟨rfl, b5⟩
  have R5 := Lib.hid (own_keep b5 (own_alloc (own_alloc R4.out _) _))
  have S5 := Lib.hid (own_keep b5 (own_alloc (own_alloc S4.out _) _))
  have G5 := Lib.hid (own_keep b5 (own_alloc (own_alloc G4.out _) _))
  have H5 := Lib.hid (own_keep b5 (own_alloc (own_alloc H4.out _) _))
  obtain ⟨y5_0, y5_1, bw5, -, -⟩ := blk2 b5
  have Z5 := Lib.hid (carryB bw5 Z4.out)
  have A5 := Lib.hid (carryB bw5 A4.out)
  have C5 := Lib.hid (carryB bw5 C4.out)
  have U5 := Lib.hid y5_0; clear y5_0
  have V5 := Lib.hid y5_1; clear y5_1
  have B5 := Lib.hid (Below.trans_size B4.out bw5)
  have s5 : w.heap.size ≤ w5.heap.size := B5.out.size; have t5 : w4.heap.size + 2 ≤ w5.heap.size := (by have := b5.size; first | omega | (simp at this; omega) | exact this)
  clear b5 bw5
  clear pZ0 pZ1 hZ pA0 pA1 hA pC0 pC1 hC
  have pZ0 : w5.cell? ⟨w.heap.size, 0, none⟩ = some (.int .i64 n2) := cell_blk Z5.out 0; have pZ1 : w5.cell? ⟨w.heap.size, 1, none⟩ = some (.int .i64 m2) := cell_blk Z5.out 1; have hZ := (Array.getElem?_eq_some_iff.1 Z5.out).1
  have pA0 : w5.cell? ⟨w2.heap.size, 0, none⟩ = some (.int .i64 bb) := cell_blk A5.out 0; have pA1 : w5.cell? ⟨w2.heap.size, 1, none⟩ = some (.slice q2a LX.length c2a) := cell_blk A5.out 1; have hA := (Array.getElem?_eq_some_iff.1 A5.out).1
  have pC0 : w5.cell? ⟨w2.heap.size + 1, 0, none⟩ = some (.int .i64 bb) := cell_blk C5.out 0; have pC1 : w5.cell? ⟨w2.heap.size + 1, 1, none⟩ = some (.slice q2b LY.length c2b) := cell_blk C5.out 1; have hC := (Array.getElem?_eq_some_iff.1 C5.out).1
  have pU0 : w5.cell? ⟨w4.heap.size, 0, none⟩ = some (.int .i64 bb) := cell_blk U5.out 0; have pU1 : w5.cell? ⟨w4.heap.size, 1, none⟩ = some (.slice q4a LX.length c4a) := cell_blk U5.out 1; have hU := (Array.getElem?_eq_some_iff.1 U5.out).1
  have pV0 : w5.cell? ⟨w4.heap.size + 1, 0, none⟩ = some (.int .i64 bb) := cell_blk V5.out 0; have pV1 : w5.cell? ⟨w4.heap.size + 1, 1, none⟩ = some (.slice q4b LY.length c4b) := cell_blk V5.out 1; have hV := (Array.getElem?_eq_some_iff.1 V5.out).1
  go_wp2_with fail
  refine (laws_eqRegister _ _ H5.out S5.out).mono ?_; rintro e w6 ⟨rfl, b6⟩
  have R6 := Lib.hid (own_keep b6 R5.out)
  have S6 := Lib.hid (own_keep b6 S5.out)
  have G6 := Lib.hid (own_keep b6 G5.out)
  have H6 := Lib.hid (own_keep b6 H5.out)
  have bw6 : Below w5.heap.size w5 w6 := b6
  have Z6 := Lib.hid (carryB bw6 Z5.out)
  have A6 := Lib.hid (carryB bw6 A5.out)
  have C6 := Lib.hid (carryB bw6 C5.out)
  have U6 := Lib.hid (carryB bw6 U5.out)
  have V6 := Lib.hid (carryB bw6 V5.out)
  have B6 := Lib.hid (Below.trans_size B5.out bw6)
  have s6 : w.heap.size ≤ w6.heap.size := B6.out.size; have t6 : w5.heap.size ≤ w6.heap.size := (by have := b6.size; first | omega | (simp at this; omega) | exact this)
  clear b6 bw6
  clear pZ0 pZ1 hZ pA0 pA1 hA pC0 pC1 hC pU0 pU1 hU pV0 pV1 hV
  have pZ0 : w6.cell? ⟨w.heap.size, 0, none⟩ = some (.int .i64 n2) := cell_blk Z6.out 0; have pZ1 : w6.cell? ⟨w.heap.size, 1, none⟩ = some (.int .i64 m2) := cell_blk Z6.out 1; have hZ := (Array.getElem?_eq_some_iff.1 Z6.out).1
  have pA0 : w6.cell? ⟨w2.heap.size, 0, none⟩ = some (.int .i64 bb) := cell_blk A6.out 0; have pA1 : w6.cell? ⟨w2.heap.size, 1, none⟩ = some (.slice q2a LX.length c2a) := cell_blk A6.out 1; have hA := (Array.getElem?_eq_some_iff.1 A6.out).1
  have pC0 : w6.cell? ⟨w2.heap.size + 1, 0, none⟩ = some (.int .i64 bb) := cell_blk C6.out 0; have pC1 : w6.cell? ⟨w2.heap.size + 1, 1, none⟩ = some (.slice q2b LY.length c2b) := cell_blk C6.out 1; have hC := (Array.getElem?_eq_some_iff.1 C6.out).1
  have pU0 : w6.cell? ⟨w4.heap.size, 0, none⟩ = some (.int .i64 bb) := cell_blk U6.out 0; have pU1 : w6.cell? ⟨w4.heap.size, 1, none⟩ = some (.slice q4a LX.length c4a) := cell_blk U6.out 1; have hU := (Array.getElem?_eq_some_iff.1 U6.out).1
  have pV0 : w6.cell? ⟨w4.heap.size + 1, 0, none⟩ = some (.int .i64 bb) := cell_blk V6.out 0; have pV1 : w6.cell? ⟨w4.heap.size + 1, 1, none⟩ = some (.slice q4b LY.length c4b) := cell_blk V6.out 1; have hV := (Array.getElem?_eq_some_iff.1 V6.out).1
  go_wp2_with fail
  refine (laws_markRegister2 _ _ (1) G6.out (by omega) (by omega) (by omega)).mono ?_; rintro e w7 ⟨rfl, z7, g7, o7⟩
  have R7 := Lib.hid (apart_grown (own_alloc R6.out z7) g7 (APG_R.out.symm))
  have S7 := Lib.hid (apart_grown (own_alloc S6.out z7) g7 (APG_S.out.symm))
  have H7 := Lib.hid (apart_grown (own_alloc H6.out z7) g7 (APG_H.out.symm))
  have Z7 := Lib.hid (carryG g7 Z6.out NEZ_G.out)
  have A7 := Lib.hid (carryG g7 A6.out NEA_G.out)
  have C7 := Lib.hid (carryG g7 C6.out NEC_G.out)
  have U7 := Lib.hid (carryG g7 U6.out NEU_G.out)
  have V7 := Lib.hid (carryG g7 V6.out NEV_G.out)
  have B7 := Lib.hid (grown_below (B6.out.alloc B6.out.size z7) (own_alloc G6.out z7) g7 (by omega) (B6.out.alloc B6.out.size z7).size)
  have t7 : w6.heap.size ≤ w7.heap.size := by have := g7.size; (try simp only [World.size_alloc] at this); omega
  have s7 : w.heap.size ≤ w7.heap.size := B7.out.size
  have G7 := Lib.hid o7; clear o7 g7
  clear pZ0 pZ1 hZ pA0 pA1 hA pC0 pC1 hC pU0 pU1 hU pV0 pV1 hV
  have pZ0 : w7.cell? ⟨w.heap.size, 0, none⟩ = some (.int .i64 n2) := cell_blk Z7.out 0; have pZ1 : w7.cell? ⟨w.heap.size, 1, none⟩ = some (.int .i64 m2) := cell_blk Z7.out 1; have hZ := (Array.getElem?_eq_some_iff.1 Z7.out).1
  have pA0 : w7.cell? ⟨w2.heap.size, 0, none⟩ = some (.int .i64 bb) := cell_blk A7.out 0; have pA1 : w7.cell? ⟨w2.heap.size, 1, none⟩ = some (.slice q2a LX.length c2a) := cell_blk A7.out 1; have hA := (Array.getElem?_eq_some_iff.1 A7.out).1
  have pC0 : w7.cell? ⟨w2.heap.size + 1, 0, none⟩ = some (.int .i64 bb) := cell_blk C7.out 0; have pC1 : w7.cell? ⟨w2.heap.size + 1, 1, none⟩ = some (.slice q2b LY.length c2b) := cell_blk C7.out 1; have hC := (Array.getElem?_eq_some_iff.1 C7.out).1
  have pU0 : w7.cell? ⟨w4.heap.size, 0, none⟩ = some (.int .i64 bb) := cell_blk U7.out 0; have pU1 : w7.cell? ⟨w4.heap.size, 1, none⟩ = some (.slice q4a LX.length c4a) := cell_blk U7.out 1; have hU := (Array.getElem?_eq_some_iff.1 U7.out).1
  have pV0 : w7.cell? ⟨w4.heap.size + 1, 0, none⟩ = some (.int .i64 bb) := cell_blk V7.out 0; have pV1 : w7.cell? ⟨w4.heap.size + 1, 1, none⟩ = some (.slice q4b LY.length c4b) := cell_blk V7.out 1; have hV := (Array.getElem?_eq_some_iff.1 V7.out).1
  go_wp2_with fail
  refine (laws_markRegister2 _ _ (1 + (LX.length : Int)) H7.out (by omega) (by omega) (by omega)).mono ?_; rintro e w8 ⟨rfl, z8, g8, o8⟩
  have R8 := Lib.hid (apart_grown (own_alloc R7.out z8) g8 (APH_R.out.symm))
  have S8 := Lib.hid (apart_grown (own_alloc S7.out z8) g8 (APH_S.out.symm))
  have G8 := Lib.hid (apart_grown (own_alloc G7.out z8) g8 APG_H.out)
  have Z8 := Lib.hid (carryG g8 Z7.out NEZ_H.out)
  have A8 := Lib.hid (carryG g8 A7.out NEA_H.out)
  have C8 := Lib.hid (carryG g8 C7.out NEC_H.out)
  have U8 := Lib.hid (carryG g8 U7.out NEU_H.out)
  have V8 := Lib.hid (carryG g8 V7.out NEV_H.out)
  have B8 := Lib.hid (grown_below (B7.out.alloc B7.out.size z8) (own_alloc H7.out z8) g8 (by omega) (B7.out.alloc B7.out.size z8).size)
  have t8 : w7.heap.size ≤ w8.heap.size := by have := g8.size; (try simp only [World.size_alloc] at this); omega
  have s8 : w.heap.size ≤ w8.heap.size := B8.out.size
  have H8 := Lib.hid o8; clear o8 g8
  clear pZ0 pZ1 hZ pA0 pA1 hA pC0 pC1 hC pU0 pU1 hU pV0 pV1 hV
  have pZ0 : w8.cell? ⟨w.heap.size, 0, none⟩ = some (.int .i64 n2) := cell_blk Z8.out 0; have pZ1 : w8.cell? ⟨w.heap.size, 1, none⟩ = some (.int .i64 m2) := cell_blk Z8.out 1; have hZ := (Array.getElem?_eq_some_iff.1 Z8.out).1
  have pA0 : w8.cell? ⟨w2.heap.size, 0, none⟩ = some (.int .i64 bb) := cell_blk A8.out 0; have pA1 : w8.cell? ⟨w2.heap.size, 1, none⟩ = some (.slice q2a LX.length c2a) := cell_blk A8.out 1; have hA := (Array.getElem?_eq_some_iff.1 A8.out).1
  have pC0 : w8.cell? ⟨w2.heap.size + 1, 0, none⟩ = some (.int .i64 bb) := cell_blk C8.out 0; have pC1 : w8.cell? ⟨w2.heap.size + 1, 1, none⟩ = some (.slice q2b LY.length c2b) := cell_blk C8.out 1; have hC := (Array.getElem?_eq_some_iff.1 C8.out).1
  have pU0 : w8.cell? ⟨w4.heap.size, 0, none⟩ = some (.int .i64 bb) := cell_blk U8.out 0; have pU1 : w8.cell? ⟨w4.heap.size, 1, none⟩ = some (.slice q4a LX.length c4a) := cell_blk U8.out 1; have hU := (Array.getElem?_eq_some_iff.1 U8.out).1
  have pV0 : w8.cell? ⟨w4.heap.size + 1, 0, none⟩ = some (.int .i64 bb) := cell_blk V8.out 0; have pV1 : w8.cell? ⟨w4.heap.size + 1, 1, none⟩ = some (.slice q4b LY.length c4b) := cell_blk V8.out 1; have hV := (Array.getElem?_eq_some_iff.1 V8.out).1
  go_wp2_with fail
  refine (laws_heldRegister _ _ 1 _ G8.out (by omega) (by omega) (by omega)).mono ?_; rintro e w9 ⟨rfl, b9⟩
  have R9 := Lib.hid (own_keep b9 R8.out)
  have S9 := Lib.hid (own_keep b9 S8.out)
  have G9 := Lib.hid (own_keep b9 G8.out)
  have H9 := Lib.hid (own_keep b9 H8.out)
  have bw9 : Below w8.heap.size w8 w9 := b9
  have Z9 := Lib.hid (carryB bw9 Z8.out)
  have A9 := Lib.hid (carryB bw9 A8.out)
  have C9 := Lib.hid (carryB bw9 C8.out)
  have U9 := Lib.hid (carryB bw9 U8.out)
  have V9 := Lib.hid (carryB bw9 V8.out)
  have B9 := Lib.hid (Below.trans_size B8.out bw9)
  have s9 : w.heap.size ≤ w9.heap.size := B9.out.size; have t9 : w8.heap.size ≤ w9.heap.size := (by have := b9.size; first | omega | (simp at this; omega) | exact this)
  clear b9 bw9
  clear pZ0 pZ1 hZ pA0 pA1 hA pC0 pC1 hC pU0 pU1 hU pV0 pV1 hV
  have pZ0 : w9.cell? ⟨w.heap.size, 0, none⟩ = some (.int .i64 n2) := cell_blk Z9.out 0; have pZ1 : w9.cell? ⟨w.heap.size, 1, none⟩ = some (.int .i64 m2) := cell_blk Z9.out 1; have hZ := (Array.getElem?_eq_some_iff.1 Z9.out).1
  have pA0 : w9.cell? ⟨w2.heap.size, 0, none⟩ = some (.int .i64 bb) := cell_blk A9.out 0; have pA1 : w9.cell? ⟨w2.heap.size, 1, none⟩ = some (.slice q2a LX.length c2a) := cell_blk A9.out 1; have hA := (Array.getElem?_eq_some_iff.1 A9.out).1
  have pC0 : w9.cell? ⟨w2.heap.size + 1, 0, none⟩ = some (.int .i64 bb) := cell_blk C9.out 0; have pC1 : w9.cell? ⟨w2.heap.size + 1, 1, none⟩ = some (.slice q2b LY.length c2b) := cell_blk C9.out 1; have hC := (Array.getElem?_eq_some_iff.1 C9.out).1
  have pU0 : w9.cell? ⟨w4.heap.size, 0, none⟩ = some (.int .i64 bb) := cell_blk U9.out 0; have pU1 : w9.cell? ⟨w4.heap.size, 1, none⟩ = some (.slice q4a LX.length c4a) := cell_blk U9.out 1; have hU := (Array.getElem?_eq_some_iff.1 U9.out).1
  have pV0 : w9.cell? ⟨w4.heap.size + 1, 0, none⟩ = some (.int .i64 bb) := cell_blk V9.out 0; have pV1 : w9.cell? ⟨w4.heap.size + 1, 1, none⟩ = some (.slice q4b LY.length c4b) := cell_blk V9.out 1; have hV := (Array.getElem?_eq_some_iff.1 V9.out).1
  go_wp2_with fail
  refine (laws_heldRegister _ _ (1 + (LX.length : Int)) _ H9.out (by omega) (by omega) (by omega)).mono ?_; rintro e w10 ⟨rfl, b10⟩
  have R10 := Lib.hid (own_keep b10 R9.out)
  have S10 := Lib.hid (own_keep b10 S9.out)
  have G10 := Lib.hid (own_keep b10 G9.out)
  have H10 := Lib.hid (own_keep b10 H9.out)
  have bw10 : Below w9.heap.size w9 w10 := b10
  have Z10 := Lib.hid (carryB bw10 Z9.out)
  have A10 := Lib.hid (carryB bw10 A9.out)
  have C10 := Lib.hid (carryB bw10 C9.out)
  have U10 := Lib.hid (carryB bw10 U9.out)
  have V10 := Lib.hid (carryB bw10 V9.out)
  have B10 := Lib.hid (Below.trans_size B9.out bw10)
  have s10 : w.heap.size ≤ w10.heap.size := B10.out.size; have t10 : w9.heap.size ≤ w10.heap.size := (by have := b10.size; first | omega | (simp at this; omega) | exact this)
  clear b10 bw10
  clear pZ0 pZ1 hZ pA0 pA1 hA pC0 pC1 hC pU0 pU1 hU pV0 pV1 hV
  have pZ0 : w10.cell? ⟨w.heap.size, 0, none⟩ = some (.int .i64 n2) := cell_blk Z10.out 0; have pZ1 : w10.cell? ⟨w.heap.size, 1, none⟩ = some (.int .i64 m2) := cell_blk Z10.out 1; have hZ := (Array.getElem?_eq_some_iff.1 Z10.out).1
  have pA0 : w10.cell? ⟨w2.heap.size, 0, none⟩ = some (.int .i64 bb) := cell_blk A10.out 0; have pA1 : w10.cell? ⟨w2.heap.size, 1, none⟩ = some (.slice q2a LX.length c2a) := cell_blk A10.out 1; have hA := (Array.getElem?_eq_some_iff.1 A10.out).1
  have pC0 : w10.cell? ⟨w2.heap.size + 1, 0, none⟩ = some (.int .i64 bb) := cell_blk C10.out 0; have pC1 : w10.cell? ⟨w2.heap.size + 1, 1, none⟩ = some (.slice q2b LY.length c2b) := cell_blk C10.out 1; have hC := (Array.getElem?_eq_some_iff.1 C10.out).1
  have pU0 : w10.cell? ⟨w4.heap.size, 0, none⟩ = some (.int .i64 bb) := cell_blk U10.out 0; have pU1 : w10.cell? ⟨w4.heap.size, 1, none⟩ = some (.slice q4a LX.length c4a) := cell_blk U10.out 1; have hU := (Array.getElem?_eq_some_iff.1 U10.out).1
  have pV0 : w10.cell? ⟨w4.heap.size + 1, 0, none⟩ = some (.int .i64 bb) := cell_blk V10.out 0; have pV1 : w10.cell? ⟨w4.heap.size + 1, 1, none⟩ = some (.slice q4b LY.length c4b) := cell_blk V10.out 1; have hV := (Array.getElem?_eq_some_iff.1 V10.out).1
  go_wp2_with fail
  refine (laws_toLeverFault n2 m2 _).mono ?_; rintro e w11 ⟨rfl, b11⟩
  have R11 := Lib.hid (own_keep b11 R10.out)
  have S11 := Lib.hid (own_keep b11 S10.out)
  have G11 := Lib.hid (own_keep b11 G10.out)
  have H11 := Lib.hid (own_keep b11 H10.out)
  have bw11 : Below w10.heap.size w10 w11 := b11
  have Z11 := Lib.hid (carryB bw11 Z10.out)
  have A11 := Lib.hid (carryB bw11 A10.out)
  have C11 := Lib.hid (carryB bw11 C10.out)
  have U11 := Lib.hid (carryB bw11 U10.out)
  have V11 := Lib.hid (carryB bw11 V10.out)
  have B11 := Lib.hid (Below.trans_size B10.out bw11)
  have s11 : w.heap.size ≤ w11.heap.size := B11.out.size; have t11 : w10.heap.size ≤ w11.heap.size := (by have := b11.size; first | omega | (simp at this; omega) | exact this)
  clear b11 bw11
  clear pZ0 pZ1 hZ pA0 pA1 hA pC0 pC1 hC pU0 pU1 hU pV0 pV1 hV
  have pZ0 : w11.cell? ⟨w.heap.size, 0, none⟩ = some (.int .i64 n2) := cell_blk Z11.out 0; have pZ1 : w11.cell? ⟨w.heap.size, 1, none⟩ = some (.int .i64 m2) := cell_blk Z11.out 1; have hZ := (Array.getElem?_eq_some_iff.1 Z11.out).1
  have pA0 : w11.cell? ⟨w2.heap.size, 0, none⟩ = some (.int .i64 bb) := cell_blk A11.out 0; have pA1 : w11.cell? ⟨w2.heap.size, 1, none⟩ = some (.slice q2a LX.length c2a) := cell_blk A11.out 1; have hA := (Array.getElem?_eq_some_iff.1 A11.out).1
  have pC0 : w11.cell? ⟨w2.heap.size + 1, 0, none⟩ = some (.int .i64 bb) := cell_blk C11.out 0; have pC1 : w11.cell? ⟨w2.heap.size + 1, 1, none⟩ = some (.slice q2b LY.length c2b) := cell_blk C11.out 1; have hC := (Array.getElem?_eq_some_iff.1 C11.out).1
  have pU0 : w11.cell? ⟨w4.heap.size, 0, none⟩ = some (.int .i64 bb) := cell_blk U11.out 0; have pU1 : w11.cell? ⟨w4.heap.size, 1, none⟩ = some (.slice q4a LX.length c4a) := cell_blk U11.out 1; have hU := (Array.getElem?_eq_some_iff.1 U11.out).1
  have pV0 : w11.cell? ⟨w4.heap.size + 1, 0, none⟩ = some (.int .i64 bb) := cell_blk V11.out 0; have pV1 : w11.cell? ⟨w4.heap.size + 1, 1, none⟩ = some (.slice q4b LY.length c4b) := cell_blk V11.out 1; have hV := (Array.getElem?_eq_some_iff.1 V11.out).1
  go_wp2_with fail
  refine (I.out _).mono ?_; rintro e w12 ⟨u12, v12, rfl, oa12, ob12, ap12, b12⟩
  have APM_N := Lib.hid ap12; clear ap12
  have APM_R := Lib.hid (apart_lt (fun k hk => (own_block_lt R11.out k hk).2) (fun k hk => (own_block_lt oa12 k hk).1) (Nat.le_refl _))
  have APM_S := Lib.hid (apart_lt (fun k hk => (own_block_lt S11.out k hk).2) (fun k hk => (own_block_lt oa12 k hk).1) (Nat.le_refl _))
  have APM_G := Lib.hid (apart_lt (fun k hk => (own_block_lt G11.out k hk).2) (fun k hk => (own_block_lt oa12 k hk).1) (Nat.le_refl _))
  have APM_H := Lib.hid (apart_lt (fun k hk => (own_block_lt H11.out k hk).2) (fun k hk => (own_block_lt oa12 k hk).1) (Nat.le_refl _))
  have APN_R := Lib.hid (apart_lt (fun k hk => (own_block_lt R11.out k hk).2) (fun k hk => (own_block_lt ob12 k hk).1) (Nat.le_refl _))
  have APN_S := Lib.hid (apart_lt (fun k hk => (own_block_lt S11.out k hk).2) (fun k hk => (own_block_lt ob12 k hk).1) (Nat.le_refl _))
  have APN_G := Lib.hid (apart_lt (fun k hk => (own_block_lt G11.out k hk).2) (fun k hk => (own_block_lt ob12 k hk).1) (Nat.le_refl _))
  have APN_H := Lib.hid (apart_lt (fun k hk => (own_block_lt H11.out k hk).2) (fun k hk => (own_block_lt ob12 k hk).1) (Nat.le_refl _))
  have R12 := Lib.hid (own_keep b12 R11.out)
  have S12 := Lib.hid (own_keep b12 S11.out)
  have G12 := Lib.hid (own_keep b12 G11.out)
  have H12 := Lib.hid (own_keep b12 H11.out)
  have bw12 : Below w11.heap.size w11 w12 := b12
  have Z12 := Lib.hid (carryB bw12 Z11.out)
  have A12 := Lib.hid (carryB bw12 A11.out)
  have C12 := Lib.hid (carryB bw12 C11.out)
  have U12 := Lib.hid (carryB bw12 U11.out)
  have V12 := Lib.hid (carryB bw12 V11.out)
  have B12 := Lib.hid (Below.trans_size B11.out bw12)
  have s12 : w.heap.size ≤ w12.heap.size := B12.out.size; have t12 : w11.heap.size ≤ w12.heap.size := (by have := b12.size; first | omega | (simp at this; omega) | exact this)
  have M12 := Lib.hid (own_base oa12 (show w11.heap.size ≤ _ by first | exact Nat.le_refl _ | (simp; done) | (simp; omega)))
  have NEZ_M := Lib.hid (show some (w.heap.size) ≠ u12.ownBlock from fun h => by have := (own_block_lt oa12 _ h.symm).1; (try simp at this); omega)
  have NEA_M := Lib.hid (show some (w2.heap.size) ≠ u12.ownBlock from fun h => by have := (own_block_lt oa12 _ h.symm).1; (try simp at this); omega)
  have NEC_M := Lib.hid (show some (w2.heap.size + 1) ≠ u12.ownBlock from fun h => by have := (own_block_lt oa12 _ h.symm).1; (try simp at this); omega)
  have NEU_M := Lib.hid (show some (w4.heap.size) ≠ u12.ownBlock from fun h => by have := (own_block_lt oa12 _ h.symm).1; (try simp at this); omega)
  have NEV_M := Lib.hid (show some (w4.heap.size + 1) ≠ u12.ownBlock from fun h => by have := (own_block_lt oa12 _ h.symm).1; (try simp at this); omega)
  have N12 := Lib.hid (own_base ob12 (show w11.heap.size ≤ _ by first | exact Nat.le_refl _ | (simp; done) | (simp; omega)))
  have NEZ_N := Lib.hid (show some (w.heap.size) ≠ v12.ownBlock from fun h => by have := (own_block_lt ob12 _ h.symm).1; (try simp at this); omega)
  have NEA_N := Lib.hid (show some (w2.heap.size) ≠ v12.ownBlock from fun h => by have := (own_block_lt ob12 _ h.symm).1; (try simp at this); omega)
  have NEC_N := Lib.hid (show some (w2.heap.size + 1) ≠ v12.ownBlock from fun h => by have := (own_block_lt ob12 _ h.symm).1; (try simp at this); omega)
  have NEU_N := Lib.hid (show some (w4.heap.size) ≠ v12.ownBlock from fun h => by have := (own_block_lt ob12 _ h.symm).1; (try simp at this); omega)
  have NEV_N := Lib.hid (show some (w4.heap.size + 1) ≠ v12.ownBlock from fun h => by have := (own_block_lt ob12 _ h.symm).1; (try simp at this); omega)
  clear b12 bw12
  obtain ⟨q12a, c12a, rfl, -, -⟩ := own_form oa12; clear oa12
  obtain ⟨q12b, c12b, rfl, -, -⟩ := own_form ob12; clear ob12
  clear pZ0 pZ1 hZ pA0 pA1 hA pC0 pC1 hC pU0 pU1 hU pV0 pV1 hV
  have pZ0 : w12.cell? ⟨w.heap.size, 0, none⟩ = some (.int .i64 n2) := cell_blk Z12.out 0; have pZ1 : w12.cell? ⟨w.heap.size, 1, none⟩ = some (.int .i64 m2) := cell_blk Z12.out 1; have hZ := (Array.getElem?_eq_some_iff.1 Z12.out).1
  have pA0 : w12.cell? ⟨w2.heap.size, 0, none⟩ = some (.int .i64 bb) := cell_blk A12.out 0; have pA1 : w12.cell? ⟨w2.heap.size, 1, none⟩ = some (.slice q2a LX.length c2a) := cell_blk A12.out 1; have hA := (Array.getElem?_eq_some_iff.1 A12.out).1
  have pC0 : w12.cell? ⟨w2.heap.size + 1, 0, none⟩ = some (.int .i64 bb) := cell_blk C12.out 0; have pC1 : w12.cell? ⟨w2.heap.size + 1, 1, none⟩ = some (.slice q2b LY.length c2b) := cell_blk C12.out 1; have hC := (Array.getElem?_eq_some_iff.1 C12.out).1
  have pU0 : w12.cell? ⟨w4.heap.size, 0, none⟩ = some (.int .i64 bb) := cell_blk U12.out 0; have pU1 : w12.cell? ⟨w4.heap.size, 1, none⟩ = some (.slice q4a LX.length c4a) := cell_blk U12.out 1; have hU := (Array.getElem?_eq_some_iff.1 U12.out).1
  have pV0 : w12.cell? ⟨w4.heap.size + 1, 0, none⟩ = some (.int .i64 bb) := cell_blk V12.out 0; have pV1 : w12.cell? ⟨w4.heap.size + 1, 1, none⟩ = some (.slice q4b LY.length c4b) := cell_blk V12.out 1; have hV := (Array.getElem?_eq_some_iff.1 V12.out).1
  have NEE_R := Lib.hid (show some (w12.heap.size) ≠ (Value.slice q2a LX.length c2a).ownBlock from fun h => by have := (own_block_lt R12.out _ h.symm).2; omega)
  have NEE_S := Lib.hid (show some (w12.heap.size) ≠ (Value.slice q2b LY.length c2b).ownBlock from fun h => by have := (own_block_lt S12.out _ h.symm).2; omega)
  have NEE_G := Lib.hid (show some (w12.heap.size) ≠ (Value.slice q4a LX.length c4a).ownBlock from fun h => by have := (own_block_lt G12.out _ h.symm).2; omega)
  have NEE_H := Lib.hid (show some (w12.heap.size) ≠ (Value.slice q4b LY.length c4b).ownBlock from fun h => by have := (own_block_lt H12.out _ h.symm).2; omega)
  have NEE_M := Lib.hid (show some (w12.heap.size) ≠ (Value.slice q12a LX.length c12a).ownBlock from fun h => by have := (own_block_lt M12.out _ h.symm).2; omega)
  have NEE_N := Lib.hid (show some (w12.heap.size) ≠ (Value.slice q12b LY.length c12b).ownBlock from fun h => by have := (own_block_lt N12.out _ h.symm).2; omega)
  have NEF_R := Lib.hid (show some (w12.heap.size + 1) ≠ (Value.slice q2a LX.length c2a).ownBlock from fun h => by have := (own_block_lt R12.out _ h.symm).2; omega)
  have NEF_S := Lib.hid (show some (w12.heap.size + 1) ≠ (Value.slice q2b LY.length c2b).ownBlock from fun h => by have := (own_block_lt S12.out _ h.symm).2; omega)
  have NEF_G := Lib.hid (show some (w12.heap.size + 1) ≠ (Value.slice q4a LX.length c4a).ownBlock from fun h => by have := (own_block_lt G12.out _ h.symm).2; omega)
  have NEF_H := Lib.hid (show some (w12.heap.size + 1) ≠ (Value.slice q4b LY.length c4b).ownBlock from fun h => by have := (own_block_lt H12.out _ h.symm).2; omega)
  have NEF_M := Lib.hid (show some (w12.heap.size + 1) ≠ (Value.slice q12a LX.length c12a).ownBlock from fun h => by have := (own_block_lt M12.out _ h.symm).2; omega)
  have NEF_N := Lib.hid (show some (w12.heap.size + 1) ≠ (Value.slice q12b LY.length c12b).ownBlock from fun h => by have := (own_block_lt N12.out _ h.symm).2; omega)
  go_wp2_with fail
  refine (laws_eqRegister _ _ (own_alloc (own_alloc M12.out _) _) (own_alloc (own_alloc R12.out _) _)).mono ?_; rintro e w13 ⟨rfl, b13⟩
  have R13 := Lib.hid (own_keep b13 (own_alloc (own_alloc R12.out _) _))
  have S13 := Lib.hid (own_keep b13 (own_alloc (own_alloc S12.out _) _))
  have G13 := Lib.hid (own_keep b13 (own_alloc (own_alloc G12.out _) _))
  have H13 := Lib.hid (own_keep b13 (own_alloc (own_alloc H12.out _) _))
  have M13 := Lib.hid (own_keep b13 (own_alloc (own_alloc M12.out _) _))
  have N13 := Lib.hid (own_keep b13 (own_alloc (own_alloc N12.out _) _))
  obtain ⟨y13_0, y13_1, bw13, -, -⟩ := blk2 b13
  have Z13 := Lib.hid (carryB bw13 Z12.out)
  have A13 := Lib.hid (carryB bw13 A12.out)
  have C13 := Lib.hid (carryB bw13 C12.out)
  have U13 := Lib.hid (carryB bw13 U12.out)
  have V13 := Lib.hid (carryB bw13 V12.out)
  have E13 := Lib.hid y13_0; clear y13_0
  have F13 := Lib.hid y13_1; clear y13_1
  have B13 := Lib.hid (Below.trans_size B12.out bw13)
  have s13 : w.heap.size ≤ w13.heap.size := B13.out.size; have t13 : w12.heap.size + 2 ≤ w13.heap.size := (by have := b13.size; first | omega | (simp at this; omega) | exact this)
  clear b13 bw13
  clear pZ0 pZ1 hZ pA0 pA1 hA pC0 pC1 hC pU0 pU1 hU pV0 pV1 hV
  have pZ0 : w13.cell? ⟨w.heap.size, 0, none⟩ = some (.int .i64 n2) := cell_blk Z13.out 0; have pZ1 : w13.cell? ⟨w.heap.size, 1, none⟩ = some (.int .i64 m2) := cell_blk Z13.out 1; have hZ := (Array.getElem?_eq_some_iff.1 Z13.out).1
  have pA0 : w13.cell? ⟨w2.heap.size, 0, none⟩ = some (.int .i64 bb) := cell_blk A13.out 0; have pA1 : w13.cell? ⟨w2.heap.size, 1, none⟩ = some (.slice q2a LX.length c2a) := cell_blk A13.out 1; have hA := (Array.getElem?_eq_some_iff.1 A13.out).1
  have pC0 : w13.cell? ⟨w2.heap.size + 1, 0, none⟩ = some (.int .i64 bb) := cell_blk C13.out 0; have pC1 : w13.cell? ⟨w2.heap.size + 1, 1, none⟩ = some (.slice q2b LY.length c2b) := cell_blk C13.out 1; have hC := (Array.getElem?_eq_some_iff.1 C13.out).1
  have pU0 : w13.cell? ⟨w4.heap.size, 0, none⟩ = some (.int .i64 bb) := cell_blk U13.out 0; have pU1 : w13.cell? ⟨w4.heap.size, 1, none⟩ = some (.slice q4a LX.length c4a) := cell_blk U13.out 1; have hU := (Array.getElem?_eq_some_iff.1 U13.out).1
  have pV0 : w13.cell? ⟨w4.heap.size + 1, 0, none⟩ = some (.int .i64 bb) := cell_blk V13.out 0; have pV1 : w13.cell? ⟨w4.heap.size + 1, 1, none⟩ = some (.slice q4b LY.length c4b) := cell_blk V13.out 1; have hV := (Array.getElem?_eq_some_iff.1 V13.out).1
  have pE0 : w13.cell? ⟨w12.heap.size, 0, none⟩ = some (.int .i64 bb) := cell_blk E13.out 0; have pE1 : w13.cell? ⟨w12.heap.size, 1, none⟩ = some (.slice q12a LX.length c12a) := cell_blk E13.out 1; have hE := (Array.getElem?_eq_some_iff.1 E13.out).1
  have pF0 : w13.cell? ⟨w12.heap.size + 1, 0, none⟩ = some (.int .i64 bb) := cell_blk F13.out 0; have pF1 : w13.cell? ⟨w12.heap.size + 1, 1, none⟩ = some (.slice q12b LY.length c12b) := cell_blk F13.out 1; have hF := (Array.getElem?_eq_some_iff.1 F13.out).1
  go_wp2_with fail
  refine (laws_eqRegister _ _ N13.out S13.out).mono ?_; rintro e w14 ⟨rfl, b14⟩
  have R14 := Lib.hid (own_keep b14 R13.out)
  have S14 := Lib.hid (own_keep b14 S13.out)
  have G14 := Lib.hid (own_keep b14 G13.out)
  have H14 := Lib.hid (own_keep b14 H13.out)
  have M14 := Lib.hid (own_keep b14 M13.out)
  have N14 := Lib.hid (own_keep b14 N13.out)
  have bw14 : Below w13.heap.size w13 w14 := b14
  have Z14 := Lib.hid (carryB bw14 Z13.out)
  have A14 := Lib.hid (carryB bw14 A13.out)
  have C14 := Lib.hid (carryB bw14 C13.out)
  have U14 := Lib.hid (carryB bw14 U13.out)
  have V14 := Lib.hid (carryB bw14 V13.out)
  have E14 := Lib.hid (carryB bw14 E13.out)
  have F14 := Lib.hid (carryB bw14 F13.out)
  have B14 := Lib.hid (Below.trans_size B13.out bw14)
  have s14 : w.heap.size ≤ w14.heap.size := B14.out.size; have t14 : w13.heap.size ≤ w14.heap.size := (by have := b14.size; first | omega | (simp at this; omega) | exact this)
  clear b14 bw14
  clear pZ0 pZ1 hZ pA0 pA1 hA pC0 pC1 hC pU0 pU1 hU pV0 pV1 hV pE0 pE1 hE pF0 pF1 hF
  have pZ0 : w14.cell? ⟨w.heap.size, 0, none⟩ = some (.int .i64 n2) := cell_blk Z14.out 0; have pZ1 : w14.cell? ⟨w.heap.size, 1, none⟩ = some (.int .i64 m2) := cell_blk Z14.out 1; have hZ := (Array.getElem?_eq_some_iff.1 Z14.out).1
  have pA0 : w14.cell? ⟨w2.heap.size, 0, none⟩ = some (.int .i64 bb) := cell_blk A14.out 0; have pA1 : w14.cell? ⟨w2.heap.size, 1, none⟩ = some (.slice q2a LX.length c2a) := cell_blk A14.out 1; have hA := (Array.getElem?_eq_some_iff.1 A14.out).1
  have pC0 : w14.cell? ⟨w2.heap.size + 1, 0, none⟩ = some (.int .i64 bb) := cell_blk C14.out 0; have pC1 : w14.cell? ⟨w2.heap.size + 1, 1, none⟩ = some (.slice q2b LY.length c2b) := cell_blk C14.out 1; have hC := (Array.getElem?_eq_some_iff.1 C14.out).1
  have pU0 : w14.cell? ⟨w4.heap.size, 0, none⟩ = some (.int .i64 bb) := cell_blk U14.out 0; have pU1 : w14.cell? ⟨w4.heap.size, 1, none⟩ = some (.slice q4a LX.length c4a) := cell_blk U14.out 1; have hU := (Array.getElem?_eq_some_iff.1 U14.out).1
  have pV0 : w14.cell? ⟨w4.heap.size + 1, 0, none⟩ = some (.int .i64 bb) := cell_blk V14.out 0; have pV1 : w14.cell? ⟨w4.heap.size + 1, 1, none⟩ = some (.slice q4b LY.length c4b) := cell_blk V14.out 1; have hV := (Array.getElem?_eq_some_iff.1 V14.out).1
  have pE0 : w14.cell? ⟨w12.heap.size, 0, none⟩ = some (.int .i64 bb) := cell_blk E14.out 0; have pE1 : w14.cell? ⟨w12.heap.size, 1, none⟩ = some (.slice q12a LX.length c12a) := cell_blk E14.out 1; have hE := (Array.getElem?_eq_some_iff.1 E14.out).1
  have pF0 : w14.cell? ⟨w12.heap.size + 1, 0, none⟩ = some (.int .i64 bb) := cell_blk F14.out 0; have pF1 : w14.cell? ⟨w12.heap.size + 1, 1, none⟩ = some (.slice q12b LY.length c12b) := cell_blk F14.out 1; have hF := (Array.getElem?_eq_some_iff.1 F14.out).1
  go_wp2_with fail
  refine (laws_heldRegister _ _ 1 _ G14.out (by omega) (by omega) (by omega)).mono ?_; rintro e w15 ⟨rfl, b15⟩
  have R15 := Lib.hid (own_keep b15 R14.out)
  have S15 := Lib.hid (own_keep b15 S14.out)
  have G15 := Lib.hid (own_keep b15 G14.out)
  have H15 := Lib.hid (own_keep b15 H14.out)
  have M15 := Lib.hid (own_keep b15 M14.out)
  have N15 := Lib.hid (own_keep b15 N14.out)
  have bw15 : Below w14.heap.size w14 w15 := b15
  have Z15 := Lib.hid (carryB bw15 Z14.out)
  have A15 := Lib.hid (carryB bw15 A14.out)
  have C15 := Lib.hid (carryB bw15 C14.out)
  have U15 := Lib.hid (carryB bw15 U14.out)
  have V15 := Lib.hid (carryB bw15 V14.out)
  have E15 := Lib.hid (carryB bw15 E14.out)
  have F15 := Lib.hid (carryB bw15 F14.out)
  have B15 := Lib.hid (Below.trans_size B14.out bw15)
  have s15 : w.heap.size ≤ w15.heap.size := B15.out.size; have t15 : w14.heap.size ≤ w15.heap.size := (by have := b15.size; first | omega | (simp at this; omega) | exact this)
  clear b15 bw15
  clear pZ0 pZ1 hZ pA0 pA1 hA pC0 pC1 hC pU0 pU1 hU pV0 pV1 hV pE0 pE1 hE pF0 pF1 hF
  have pZ0 : w15.cell? ⟨w.heap.size, 0, none⟩ = some (.int .i64 n2) := cell_blk Z15.out 0; have pZ1 : w15.cell? ⟨w.heap.size, 1, none⟩ = some (.int .i64 m2) := cell_blk Z15.out 1; have hZ := (Array.getElem?_eq_some_iff.1 Z15.out).1
  have pA0 : w15.cell? ⟨w2.heap.size, 0, none⟩ = some (.int .i64 bb) := cell_blk A15.out 0; have pA1 : w15.cell? ⟨w2.heap.size, 1, none⟩ = some (.slice q2a LX.length c2a) := cell_blk A15.out 1; have hA := (Array.getElem?_eq_some_iff.1 A15.out).1
  have pC0 : w15.cell? ⟨w2.heap.size + 1, 0, none⟩ = some (.int .i64 bb) := cell_blk C15.out 0; have pC1 : w15.cell? ⟨w2.heap.size + 1, 1, none⟩ = some (.slice q2b LY.length c2b) := cell_blk C15.out 1; have hC := (Array.getElem?_eq_some_iff.1 C15.out).1
  have pU0 : w15.cell? ⟨w4.heap.size, 0, none⟩ = some (.int .i64 bb) := cell_blk U15.out 0; have pU1 : w15.cell? ⟨w4.heap.size, 1, none⟩ = some (.slice q4a LX.length c4a) := cell_blk U15.out 1; have hU := (Array.getElem?_eq_some_iff.1 U15.out).1
  have pV0 : w15.cell? ⟨w4.heap.size + 1, 0, none⟩ = some (.int .i64 bb) := cell_blk V15.out 0; have pV1 : w15.cell? ⟨w4.heap.size + 1, 1, none⟩ = some (.slice q4b LY.length c4b) := cell_blk V15.out 1; have hV := (Array.getElem?_eq_some_iff.1 V15.out).1
  have pE0 : w15.cell? ⟨w12.heap.size, 0, none⟩ = some (.int .i64 bb) := cell_blk E15.out 0; have pE1 : w15.cell? ⟨w12.heap.size, 1, none⟩ = some (.slice q12a LX.length c12a) := cell_blk E15.out 1; have hE := (Array.getElem?_eq_some_iff.1 E15.out).1
  have pF0 : w15.cell? ⟨w12.heap.size + 1, 0, none⟩ = some (.int .i64 bb) := cell_blk F15.out 0; have pF1 : w15.cell? ⟨w12.heap.size + 1, 1, none⟩ = some (.slice q12b LY.length c12b) := cell_blk F15.out 1; have hF := (Array.getElem?_eq_some_iff.1 F15.out).1
  go_wp2_with fail
  refine (laws_heldRegister _ _ (1 + (LX.length : Int)) _ H15.out (by omega) (by omega) (by omega)).mono ?_; rintro e w16 ⟨rfl, b16⟩
  have R16 := Lib.hid (own_keep b16 R15.out)
  have S16 := Lib.hid (own_keep b16 S15.out)
  have G16 := Lib.hid (own_keep b16 G15.out)
  have H16 := Lib.hid (own_keep b16 H15.out)
  have M16 := Lib.hid (own_keep b16 M15.out)
  have N16 := Lib.hid (own_keep b16 N15.out)
  have bw16 : Below w15.heap.size w15 w16 := b16
  have Z16 := Lib.hid (carryB bw16 Z15.out)
  have A16 := Lib.hid (carryB bw16 A15.out)
  have C16 := Lib.hid (carryB bw16 C15.out)
  have U16 := Lib.hid (carryB bw16 U15.out)
  have V16 := Lib.hid (carryB bw16 V15.out)
  have E16 := Lib.hid (carryB bw16 E15.out)
  have F16 := Lib.hid (carryB bw16 F15.out)
  have B16 := Lib.hid (Below.trans_size B15.out bw16)
  have s16 : w.heap.size ≤ w16.heap.size := B16.out.size; have t16 : w15.heap.size ≤ w16.heap.size := (by have := b16.size; first | omega | (simp at this; omega) | exact this)
  clear b16 bw16
  clear pZ0 pZ1 hZ pA0 pA1 hA pC0 pC1 hC pU0 pU1 hU pV0 pV1 hV pE0 pE1 hE pF0 pF1 hF
  have pZ0 : w16.cell? ⟨w.heap.size, 0, none⟩ = some (.int .i64 n2) := cell_blk Z16.out 0; have pZ1 : w16.cell? ⟨w.heap.size, 1, none⟩ = some (.int .i64 m2) := cell_blk Z16.out 1; have hZ := (Array.getElem?_eq_some_iff.1 Z16.out).1
  have pA0 : w16.cell? ⟨w2.heap.size, 0, none⟩ = some (.int .i64 bb) := cell_blk A16.out 0; have pA1 : w16.cell? ⟨w2.heap.size, 1, none⟩ = some (.slice q2a LX.length c2a) := cell_blk A16.out 1; have hA := (Array.getElem?_eq_some_iff.1 A16.out).1
  have pC0 : w16.cell? ⟨w2.heap.size + 1, 0, none⟩ = some (.int .i64 bb) := cell_blk C16.out 0; have pC1 : w16.cell? ⟨w2.heap.size + 1, 1, none⟩ = some (.slice q2b LY.length c2b) := cell_blk C16.out 1; have hC := (Array.getElem?_eq_some_iff.1 C16.out).1
  have pU0 : w16.cell? ⟨w4.heap.size, 0, none⟩ = some (.int .i64 bb) := cell_blk U16.out 0; have pU1 : w16.cell? ⟨w4.heap.size, 1, none⟩ = some (.slice q4a LX.length c4a) := cell_blk U16.out 1; have hU := (Array.getElem?_eq_some_iff.1 U16.out).1
  have pV0 : w16.cell? ⟨w4.heap.size + 1, 0, none⟩ = some (.int .i64 bb) := cell_blk V16.out 0; have pV1 : w16.cell? ⟨w4.heap.size + 1, 1, none⟩ = some (.slice q4b LY.length c4b) := cell_blk V16.out 1; have hV := (Array.getElem?_eq_some_iff.1 V16.out).1
  have pE0 : w16.cell? ⟨w12.heap.size, 0, none⟩ = some (.int .i64 bb) := cell_blk E16.out 0; have pE1 : w16.cell? ⟨w12.heap.size, 1, none⟩ = some (.slice q12a LX.length c12a) := cell_blk E16.out 1; have hE := (Array.getElem?_eq_some_iff.1 E16.out).1
  have pF0 : w16.cell? ⟨w12.heap.size + 1, 0, none⟩ = some (.int .i64 bb) := cell_blk F16.out 0; have pF1 : w16.cell? ⟨w12.heap.size + 1, 1, none⟩ = some (.slice q12b LY.length c12b) := cell_blk F16.out 1; have hF := (Array.getElem?_eq_some_iff.1 F16.out).1
  go_wp2_with fail
  go_ret
  exact ⟨rfl, B16.out⟩

set_option maxRecDepth 100000 in
theorem lifted (os : Os) (started : os.Started) (H : Type) (enc : TypeId × Value → H) :
    ReturnsInHanded {} Try.checked os 6 .any (Rows.fnExactWitnessOfSpec.pre6 enc Try.prog Try.f6 Rows.fnExactWitnessOfRow.domain false) (Rows.fnExactWitnessOfSpec.post enc Try.prog Try.f6 false true false false) := by
  refine returnsInHanded_of_change (C := Try.checked) own started (by kernel_rfl) Try.func6
    (ChangeSpec.witness6 (enc := enc) (C := Try.checked) false ⟨#[], #[.int .i64 0, .int .i64 0, .agg #[.int .i64 0, .int .i64 0]], []⟩ 8 (by kernel_rfl) (by kernel_rfl) (by kernel_rfl) (by kernel_rfl)) ?_
  intro W base args ds gs before hval0 hW hcnd _
  have hval : ∀ (j : Nat) t v, Try.f6.params[j]? = some t → args[j]? = some v → Value.okWide Try.prog W .any base t v := hval0
  have hW' := hW
  obtain ⟨p, q, hA0, hV, rfl, hfz, hnd⟩ := hW
  have hA : DataW.TrodAll enc Try.prog W 0 (fun _ => true) true Try.f6.params.toList args.toList ds p := hA0
  rw [Try.params6] at hA hval
  obtain ⟨v0, vs0, d0, ds0, p0, q0, hargs, rfl, rfl, h0, r0⟩ := trodAll_cons hA
  obtain ⟨v1, vs1, d1, ds1, p1, q1, rfl, rfl, rfl, h1, r1⟩ := trodAll_cons r0
  obtain ⟨v2, vs2, d2, ds2, p2, q2, rfl, rfl, rfl, h2, r2⟩ := trodAll_cons r1
  obtain ⟨rfl, rfl, rfl⟩ := trodAll_nil r2
  obtain rfl : args = #[v0, v1, v2] := by cases args; simp_all
  obtain ⟨rfl, rfl⟩ := trodVars_none hV
  have k0 := h0
  have lt0 : ∀ x ∈ p0, x.block < W.heap.size := by obtain ⟨m, hm⟩ := k0; exact DataW.trod_lt m _ _ _ hm
  obtain ⟨a0, rfl, rfl, rfl, w0⟩ := open_int Try.underlying2 (hval 0 2 v0 rfl rfl) h0
  have k1 := h1
  have lt1 : ∀ x ∈ p1, x.block < W.heap.size := by obtain ⟨m, hm⟩ := k1; exact DataW.trod_lt m _ _ _ hm
  obtain ⟨a1, rfl, rfl, rfl, w1⟩ := open_int Try.underlying2 (hval 1 2 v1 rfl rfl) h1

  have k2 := h2
  have lt2 : ∀ x ∈ p2, x.block < W.heap.size := by obtain ⟨m, hm⟩ := k2; exact DataW.trod_lt m _ _ _ hm
  obtain ⟨c20, c21, y20, y21, mm2, rfl, rfl, rfl, e20, e21⟩ := Go.Joins.open_agg2 Try.underlying52 (by kernel_rfl) (by kernel_rfl) (hval 2 52 v2 rfl rfl) h2
  obtain ⟨n2, q20, -, -⟩ := DataW.trod_int Try.underlying2 e20
  simp at q20; subst q20
  obtain ⟨m2, q21, -, -⟩ := DataW.trod_int Try.underlying2 e21
  simp at q21; subst q21
  clear hA0 hval0
  refine (walk a0 a1 n2 m2 W w0 w1).mono fun e W' ⟨he, bel⟩ => ?_
  subst he
  exact ⟨_, rfl, _, _, _, [], _, [], hW', trodAll_mk1 (shut_bool Try.underlying4 _), (trodAll_cons_mk (Below.trod laidOut (by kernel_rfl) (of_decide_eq_true (by kernel_rfl)) k0 bel lt0) (trodAll_cons_mk (Below.trod laidOut (by kernel_rfl) (of_decide_eq_true (by kernel_rfl)) k1 bel lt1) (trodAll_cons_mk (Below.trod laidOut (by kernel_rfl) (of_decide_eq_true (by kernel_rfl)) k2 bel lt2) trodAll_mk0))), rfl, bel.frame _, fun h => by cases h⟩

theorem over : Rows.fnExactWitnessOfRow.holds Try.pinned (OpenSpec.ofChange Rows.fnExactWitnessOfSpec) :=
  OpenClaim.holds_of_wide 6 Try.f6 rfl rfl rfl rfl rfl rfl rfl ⟨rfl, rfl, rfl, rfl, rfl⟩ rfl rfl rfl rfl rfl (by kernel_rfl) Try.func6 (by kernel_rfl)
    (of_decide_eq_true (by kernel_rfl)) (by unfold Func.isWrapper; first | (rw [if_pos (by decide +kernel)]; kernel_rfl) | (rw [if_neg (by decide +kernel)]; exact ⟨rfl, rfl⟩))
    (fun os started H enc _ => lifted os started H enc)

theorem proved : Rows.FnExactWitnessOfSaid := over
#print axioms proved
end Go.Proofs.Ytkhjmokjbiepgaa.fnExactWitnessOf
