/- The law FnExactSetAccumulator returns true for every input, and its arguments read afterwards as they read before: no condition. -/
import Derived.Test.YtcooabjcikcpiaaSac
import Derived.OpenShut
import Derived.ShutString
import Derived.ChangeOld
import Derived.Below
namespace Go.Proofs.Ytcooabjcikcpiaa.fnExactSetAccumulator
open Go.ChangeShapes Go.WideShapes Go.ChangeAt Go.RowKit
open Go.ChangeMaps (open_string shut_string)
set_option linter.unusedVariables false

theorem own : ownKnob Try.prog.godebug = none := by kernel_rfl
theorem laidOut : laidOutB Try.prog = true := by kernel_rfl

theorem carryA {w w' : World} {A O : Obj} {n : Nat} (b : Below (w.alloc A).heap.size (w.alloc A) w') (h : w.heap[n]? = some O) : w'.heap[n]? = some O := by
  have hn : n < w.heap.size := (Array.getElem?_eq_some_iff.1 h).1
  rw [b.block n (by simp; omega), Below.heap_alloc _ _ _ hn]; exact h
theorem carryB {w w' : World} {O : Obj} {n : Nat} (b : Below w.heap.size w w') (h : w.heap[n]? = some O) : w'.heap[n]? = some O := by
  have hn : n < w.heap.size := (Array.getElem?_eq_some_iff.1 h).1
  rw [b.block n hn]; exact h
theorem carryG {w w' : World} {O o : Obj} {n : Nat} {row : Option Nat} (hg : (w.alloc o).grownBy w' row) (h : w.heap[n]? = some O) (hne : some n ≠ row) : w'.heap[n]? = some O := by
  have hn : n < w.heap.size := (Array.getElem?_eq_some_iff.1 h).1
  rw [hg.block n (by simp; omega) hne, Below.heap_alloc _ _ _ hn]; exact h
theorem laws_markRegister2 {B : Nat} {v : Value} {zs : List Int} (b : Int) (w : World) (k : Int) (h1 : Own w B v zs) (h0 : 0 ≤ k) (hk : k ≤ 1000000000) (hl : zs.length ≤ 1000000000) :
    Calls Try.prog 17 #[.agg #[.int .i64 b, v], .int .i64 k] w fun e w' => e = .returned (.int .i64 (k + zs.length)) ∧ ∃ o, (w.alloc o).grownBy w' v.ownBlock ∧ Own w' B v (marks k zs.length) := by
  have H1 := Lib.hid h1
  obtain ⟨a1, c1, rfl, -, -⟩ := own_form h1
  clear h1
  go_enter Try.func17, Try.ntmps17
  go_wp2_with fail
  refine (laws_markInt64S _ k (own_alloc H1.out _) h0 hk hl).mono ?_; rintro e w1 ⟨rfl, o1, g1⟩
  have G1 := Lib.hid g1; have O1 := Lib.hid o1; clear o1 g1
  go_wp2_with fail
  go_ret
  exact ⟨rfl, _, G1.out, O1.out⟩
theorem laws_heldRegister {B : Nat} {v : Value} (b : Int) (w : World) (k : Int) (n : Nat) (h1 : Own w B v (marks k n)) (h0 : 0 ≤ k) (hk : k ≤ 1000000000) (hl : n ≤ 1000000000) :
    Calls Try.prog 18 #[.agg #[.int .i64 b, v], .int .i64 k] w (RetV w (.int .i64 (k + n))) := by
  have H1 := Lib.hid h1
  obtain ⟨a1, c1, rfl, -, -⟩ := own_form h1
  clear h1
  go_enter Try.func18, Try.ntmps18
  go_wp2_with fail
  refine (laws_heldInt64S _ k n (own_alloc H1.out _) h0 hk hl).mono ?_; rintro e w1 ⟨rfl, rfl⟩
  go_wp2_with fail
  go_ret
  exact ⟨rfl, below_al _ _⟩
set_option maxHeartbeats 1000000 in
theorem walk (a0 : Int) (a1 : Int) (a2 : Int) (w : World) (w0 : (Lit.int .i64 a0).wf = true) (w1 : (Lit.int .i64 a1).wf = true) (w2 : (Lit.int .i64 a2).wf = true) :
    Calls Try.prog 4 #[.int .i64 a0, .int .i64 a1, .int .i64 a2] w fun e w' => e = .returned (.bool true) ∧ Below w.heap.size w w' := by
  have hLn := saL_len a0 a1 a2
  have S := Lib.hid (fun wx => spec_SetAccumulator a0 a1 a2 wx)
  have I := Lib.hid (fun wx => impl_SetAccumulator a0 a1 a2 wx)
  generalize saL a0 a1 a2 = L at S I hLn
  generalize saB a0 a1 a2 = bb at S I
  generalize saC a0 a1 a2 = cc at S I
  go_enter Try.func4, Try.ntmps4
  go_wp2_with fail
  refine (S.out _).mono ?_; rintro e w1 ⟨v1, rfl, o1, b1⟩
  have R1 := Lib.hid o1; have B1 := Lib.hid b1; have s1 := b1.size
  obtain ⟨q1, c1, rfl, -, -⟩ := own_form o1; clear o1 b1
  go_wp2_with fail
  refine (I.out _).mono ?_; rintro e w2 ⟨v2, rfl, o2, b2⟩
  obtain ⟨y2, bw2, s2, e2⟩ := blk1 b2
  rw [e2] at o2
  have R2 := Lib.hid (own_keep b2 (own_alloc R1.out _)); have G2 := Lib.hid o2; have Y2 := Lib.hid y2; have B2 := Lib.hid (Below.trans_size B1.out bw2)
  have GR := Lib.hid (apart_new (own_alloc R1.out (.cells #[.int .i64 bb, .slice q1 L.length c1] 29)) o2 (by rw [e2]; exact Nat.le_refl _))
  have NE1 := Lib.hid (show some w1.heap.size ≠ v2.ownBlock from fun h => by have := own_block_lt o2 _ h.symm; omega)
  have NE2 := Lib.hid (show some w2.heap.size ≠ v2.ownBlock from fun h => by have := own_block_lt o2 _ h.symm; omega)
  obtain ⟨q2, c2, rfl, -, -⟩ := own_form o2; clear o2 b2 y2 bw2 e2
  have Ya := cell_blk Y2.out 0; have Yb := cell_blk Y2.out 1
  have lt0 : w1.heap.size < w2.heap.size := (by omega)
  go_wp2_with fail
  refine (laws_eqRegister _ _ (own_alloc G2.out _) (own_alloc R2.out _)).mono ?_; rintro e w3 ⟨rfl, b3⟩
  obtain ⟨x3, bw3, s3, e3⟩ := blk1 b3
  have R3 := Lib.hid (own_keep b3 (own_alloc R2.out _)); have G3 := Lib.hid (own_keep b3 (own_alloc G2.out _)); have Y3 := Lib.hid (carryA b3 Y2.out); have X3 := Lib.hid x3; have B3 := Lib.hid (Below.trans_size B2.out bw3)
  clear b3 x3 bw3 e3
  clear Ya Yb lt0
  have Ya := cell_blk Y3.out 0; have Yb := cell_blk Y3.out 1
  have Xa := cell_blk X3.out 0; have Xb := cell_blk X3.out 1
  have lt0 : w1.heap.size < w3.heap.size := (by omega)
  have lt1 : w2.heap.size < w3.heap.size := (by omega)
  go_wp2_with fail
  refine (laws_markRegister2 _ _ 1 G3.out (by omega) (by omega) (by omega)).mono ?_; rintro e w4 ⟨rfl, z4, g4, o4⟩
  have R4 := Lib.hid (apart_grown (own_alloc R3.out z4) g4 (GR.out.symm)); have G4 := Lib.hid o4; have Y4 := Lib.hid (carryG g4 Y3.out NE1.out); have X4 := Lib.hid (carryG g4 X3.out NE2.out)
  have B4 := Lib.hid (grown_below (B3.out.alloc B3.out.size z4) (own_alloc G3.out z4) g4 (by omega) (B3.out.alloc B3.out.size z4).size)
  have s4 := g4.size
  simp only [World.size_alloc] at s4
  clear g4 o4
  clear Ya Yb Xa Xb lt0 lt1
  have Ya := cell_blk Y4.out 0; have Yb := cell_blk Y4.out 1
  have Xa := cell_blk X4.out 0; have Xb := cell_blk X4.out 1
  have lt0 : w1.heap.size < w4.heap.size := (by omega)
  have lt1 : w2.heap.size < w4.heap.size := (by omega)
  go_wp2_with fail
  refine (laws_heldRegister _ _ 1 _ G4.out (by omega) (by omega) (by omega)).mono ?_; rintro e w5 ⟨rfl, b5⟩
  have R5 := Lib.hid (own_keep b5 R4.out); have G5 := Lib.hid (own_keep b5 G4.out); have Y5 := Lib.hid (carryB b5 Y4.out); have X5 := Lib.hid (carryB b5 X4.out); have B5 := Lib.hid (Below.trans_size B4.out b5); have s5 := b5.size
  clear b5
  clear Ya Yb Xa Xb lt0 lt1
  have Ya := cell_blk Y5.out 0; have Yb := cell_blk Y5.out 1
  have Xa := cell_blk X5.out 0; have Xb := cell_blk X5.out 1
  have lt0 : w1.heap.size < w5.heap.size := (by omega)
  have lt1 : w2.heap.size < w5.heap.size := (by omega)
  go_wp2_with fail
  refine (I.out _).mono ?_; rintro e w6 ⟨v6, rfl, o6, b6⟩
  have R6 := Lib.hid (own_keep b6 R5.out); have G6 := Lib.hid (own_keep b6 G5.out); have Y6 := Lib.hid (carryB b6 Y5.out); have X6 := Lib.hid (carryB b6 X5.out); have B6 := Lib.hid (Below.trans_size B5.out b6); have H6 := Lib.hid o6; have s6 := b6.size
  obtain ⟨q6, c6, rfl, -, -⟩ := own_form o6; clear o6 b6
  clear Ya Yb Xa Xb lt0 lt1
  have Ya := cell_blk Y6.out 0; have Yb := cell_blk Y6.out 1
  have Xa := cell_blk X6.out 0; have Xb := cell_blk X6.out 1
  have lt0 : w1.heap.size < w6.heap.size := (by omega)
  have lt1 : w2.heap.size < w6.heap.size := (by omega)
  go_wp2_with fail
  refine (laws_eqRegister _ _ (own_alloc H6.out _) (own_alloc R6.out _)).mono ?_; rintro e w7 ⟨rfl, b7⟩
  obtain ⟨-, bw7, s7, -⟩ := blk1 b7
  have G7 := Lib.hid (own_keep b7 (own_alloc G6.out _)); have X7 := Lib.hid (carryA b7 X6.out); have B7 := Lib.hid (Below.trans_size B6.out bw7)
  clear b7 bw7
  clear Ya Yb Xa Xb lt0 lt1
  have Xa := cell_blk X7.out 0; have Xb := cell_blk X7.out 1
  have lt0 : w2.heap.size < w7.heap.size := (by omega)
  go_wp2_with fail
  refine (laws_heldRegister _ _ 1 _ G7.out (by omega) (by omega) (by omega)).mono ?_; rintro e w8 ⟨rfl, b8⟩
  have B8 := Lib.hid (Below.trans_size B7.out b8); clear b8
  go_wp2_with fail
  go_ret
  exact ⟨rfl, B8.out⟩

set_option maxRecDepth 100000 in
theorem lifted (os : Os) (started : os.Started) (H : Type) (enc : TypeId × Value → H) :
    ReturnsInHanded {} Try.checked os 4 .any (Rows.fnExactSetAccumulatorSpec.pre6 enc Try.prog Try.f4 Rows.fnExactSetAccumulatorRow.domain false) (Rows.fnExactSetAccumulatorSpec.post enc Try.prog Try.f4 false true false false) := by
  refine returnsInHanded_of_change (C := Try.checked) own started (by kernel_rfl) Try.func4
    (ChangeSpec.witness6 (enc := enc) (C := Try.checked) false ⟨#[], #[.int .i64 0, .int .i64 0, .int .i64 0], []⟩ 8 (by kernel_rfl) (by kernel_rfl) (by kernel_rfl) (by kernel_rfl)) ?_
  intro W base args ds gs before hval0 hW hcnd _
  have hval : ∀ (j : Nat) t v, Try.f4.params[j]? = some t → args[j]? = some v → Value.okWide Try.prog W .any base t v := hval0
  have hW' := hW
  obtain ⟨p, q, hA0, hV, rfl, hfz, hnd⟩ := hW
  have hA : DataW.TrodAll enc Try.prog W 0 (fun _ => true) true Try.f4.params.toList args.toList ds p := hA0
  rw [Try.params4] at hA hval
  obtain ⟨v0, vs0, d0, ds0, p0, q0, hargs, rfl, rfl, h0, r0⟩ := trodAll_cons hA
  obtain ⟨v1, vs1, d1, ds1, p1, q1, rfl, rfl, rfl, h1, r1⟩ := trodAll_cons r0
  obtain ⟨v2, vs2, d2, ds2, p2, q2, rfl, rfl, rfl, h2, r2⟩ := trodAll_cons r1
  obtain ⟨rfl, rfl, rfl⟩ := trodAll_nil r2
  obtain rfl : args = #[v0, v1, v2] := by cases args; simp_all
  obtain ⟨rfl, rfl⟩ := trodVars_none hV
  have k0 := h0
  have lt0 : ∀ x ∈ p0, x.block < W.heap.size := by obtain ⟨m, hm⟩ := k0; exact DataW.trod_lt m _ _ _ hm
  obtain ⟨a0, rfl, rfl, rfl, w0⟩ := open_int Try.underlying2 (hval 0 2 v0 rfl rfl) h0
  have k1 := h1
  have lt1 : ∀ x ∈ p1, x.block < W.heap.size := by obtain ⟨m, hm⟩ := k1; exact DataW.trod_lt m _ _ _ hm
  obtain ⟨a1, rfl, rfl, rfl, w1⟩ := open_int Try.underlying2 (hval 1 2 v1 rfl rfl) h1
  have k2 := h2
  have lt2 : ∀ x ∈ p2, x.block < W.heap.size := by obtain ⟨m, hm⟩ := k2; exact DataW.trod_lt m _ _ _ hm
  obtain ⟨a2, rfl, rfl, rfl, w2⟩ := open_int Try.underlying2 (hval 2 2 v2 rfl rfl) h2
  clear hA0 hval0
  refine (walk a0 a1 a2 W w0 w1 w2).mono fun e W' ⟨he, bel⟩ => ?_
  subst he
  exact ⟨_, rfl, _, _, _, [], _, [], hW', trodAll_mk1 (shut_bool Try.underlying4 _), (trodAll_cons_mk (Below.trod laidOut (by kernel_rfl) (of_decide_eq_true (by kernel_rfl)) k0 bel lt0) (trodAll_cons_mk (Below.trod laidOut (by kernel_rfl) (of_decide_eq_true (by kernel_rfl)) k1 bel lt1) (trodAll_cons_mk (Below.trod laidOut (by kernel_rfl) (of_decide_eq_true (by kernel_rfl)) k2 bel lt2) trodAll_mk0))), rfl, bel.frame _, fun h => by cases h⟩

theorem over : Rows.fnExactSetAccumulatorRow.holds Try.pinned (OpenSpec.ofChange Rows.fnExactSetAccumulatorSpec) :=
  OpenClaim.holds_of_wide 4 Try.f4 rfl rfl rfl rfl rfl rfl rfl ⟨rfl, rfl, rfl, rfl, rfl⟩ rfl rfl rfl rfl rfl (by kernel_rfl) Try.func4 (by kernel_rfl)
    (of_decide_eq_true (by kernel_rfl)) (by unfold Func.isWrapper; first | (rw [if_pos (by decide +kernel)]; kernel_rfl) | (rw [if_neg (by decide +kernel)]; exact ⟨rfl, rfl⟩))
    (fun os started H enc _ => lifted os started H enc)

theorem proved : Rows.FnExactSetAccumulatorSaid := over
#print axioms proved
end Go.Proofs.Ytcooabjcikcpiaa.fnExactSetAccumulator
