/- The law FnExactNewEngine returns true for every input, and its arguments read afterwards as they read before: no condition. -/
import Derived.Test.YtknpjibdnjpamaaNew
import Derived.OpenShut
import Derived.ShutString
import Derived.ChangeOld
import Derived.Below
namespace Go.Proofs.Ytknpjibdnjpamaa.fnExactNewEngine
open Go.ChangeShapes Go.WideShapes Go.ChangeAt Go.RowKit
open Go.ChangeMaps (open_string shut_string)
set_option linter.unusedVariables false

theorem own : ownKnob Try.prog.godebug = none := by kernel_rfl
theorem laidOut : laidOutB Try.prog = true := by kernel_rfl

theorem carryA {w w' : World} {A O : Obj} {n : Nat} (b : Below (w.alloc A).heap.size (w.alloc A) w') (h : w.heap[n]? = some O) : w'.heap[n]? = some O := by
  have hn : n < w.heap.size := (Array.getElem?_eq_some_iff.1 h).1
  rw [b.block n (by simp; omega), Below.heap_alloc _ _ _ hn]; exact h
theorem carryB {w w' : World} {O : Obj} {n : Nat} (b : Below w.heap.size w w') (h : w.heap[n]? = some O) : w'.heap[n]? = some O := by
  have hn : n < w.heap.size := (Array.getElem?_eq_some_iff.1 h).1
  rw [b.block n hn]; exact h
theorem carryG {w w' : World} {O o : Obj} {n : Nat} {row : Option Nat} (hg : (w.alloc o).grownBy w' row) (h : w.heap[n]? = some O) (hne : some n ≠ row) : w'.heap[n]? = some O := by
  have hn : n < w.heap.size := (Array.getElem?_eq_some_iff.1 h).1
  rw [hg.block n (by simp; omega) hne, Below.heap_alloc _ _ _ hn]; exact h
theorem carryH {w w' : World} {O : Obj} {n : Nat} {row : Option Nat} (hg : w.grownBy w' row) (h : w.heap[n]? = some O) (hne : some n ≠ row) : w'.heap[n]? = some O := by
  have hn : n < w.heap.size := (Array.getElem?_eq_some_iff.1 h).1
  rw [hg.block n hn hne]; exact h
theorem len_nw (wd : Int) (zs : List Int) : (nwL wd zs).length ≤ 9 := by
  unfold nwL
  split
  · rename_i h
    rw [Bool.and_eq_true] at h
    have := coefB_parts h.1
    rw [List.length_map]; omega
  · simp
theorem laws_markEngine2 {B : Nat} {v : Value} {zs : List Int} (b : Int) (w : World) (k : Int) (h1 : Own w B v zs) (h0 : 0 ≤ k) (hk : k ≤ 1000000000) (hl : zs.length ≤ 1000000000) :
    Calls Try.prog 19 #[.agg #[.int .i64 b, v], .int .i64 k] w fun e w' => e = .returned (.int .i64 (k + zs.length)) ∧ ∃ o, (w.alloc o).grownBy w' v.ownBlock ∧ Own w' B v (marks k zs.length) := by
  have H1 := Lib.hid h1
  obtain ⟨a1, c1, rfl, -, -⟩ := own_form h1
  clear h1
  go_enter Try.func19, Try.ntmps19
  go_wp2_with fail
  refine (laws_markInt64S _ k (own_alloc H1.out _) h0 hk hl).mono ?_; rintro e w1 ⟨rfl, o1, g1⟩
  have G1 := Lib.hid g1; have O1 := Lib.hid o1; clear o1 g1
  go_wp2_with fail
  go_ret
  exact ⟨rfl, _, G1.out, O1.out⟩
theorem laws_heldEngine {B : Nat} {v : Value} (b : Int) (w : World) (k : Int) (n : Nat) (h1 : Own w B v (marks k n)) (h0 : 0 ≤ k) (hk : k ≤ 1000000000) (hl : n ≤ 1000000000) :
    Calls Try.prog 20 #[.agg #[.int .i64 b, v], .int .i64 k] w (RetV w (.int .i64 (k + n))) := by
  have H1 := Lib.hid h1
  obtain ⟨a1, c1, rfl, -, -⟩ := own_form h1
  clear h1
  go_enter Try.func20, Try.ntmps20
  go_wp2_with fail
  refine (laws_heldInt64S _ k n (own_alloc H1.out _) h0 hk hl).mono ?_; rintro e w1 ⟨rfl, rfl⟩
  go_wp2_with fail
  go_ret
  exact ⟨rfl, below_al _ _⟩
set_option maxHeartbeats 1000000 in
theorem walk (a0 : Int) (a1 : Option Addr) (len1 cap1 : Nat) (z1 : List Int) (w : World) (w0 : (Lit.int .i64 a0).wf = true) (w1 : IsRow .i64 w a1 len1 cap1 z1) :
    Calls Try.prog 5 #[.int .i64 a0, .slice a1 len1 cap1] w fun e w' => e = .returned (.bool true) ∧ Below w.heap.size w w' := by
  have hLn := len_nw a0 (z1.take len1)
  by_cases hbig : 1048576 < len1
  · go_enter Try.func5, Try.ntmps5
    go_wp2
    go_ret
    exact ⟨rfl, Below.refl _ _⟩
  have hlen : len1 ≤ 1048576 := by omega
  have hzl : (z1.take len1).length ≤ 1048576 := by rw [List.length_take]; omega
  have WI := Lib.hid w1; clear w1
  generalize hZ : z1.take len1 = Z at *
  have HZ := Lib.hid hZ; clear hZ
  have S := Lib.hid (fun (B : Nat) (v : Value) wx (h : Own wx B v Z) => spec_NewEngine a0 wx h)
  have I := Lib.hid (fun (B : Nat) (v : Value) wx (h : Own wx B v Z) => impl_NewEngine a0 wx h)
  generalize nwL a0 Z = L at S I hLn
  generalize nwW a0 Z = bb at S I
  generalize nwC a0 Z = cc at S I
  go_enter Try.func5, Try.ntmps5
  go_wp2_with fail
  refine (laws_toInt64S _ _ _ _ _ WI.out hlen).mono ?_; rintro e w1 ⟨u1, rfl, o1, b1⟩
  rw [HZ.out] at o1
  have U1 := Lib.hid o1; have B1 := Lib.hid b1; have s1 := b1.size; clear o1 b1
  go_wp2_with fail
  refine (S.out _ _ _ U1.out).mono ?_; rintro e w2 ⟨v2, rfl, o2, b2⟩
  have R2 := Lib.hid o2; have B2 := Lib.hid (Below.trans_size B1.out b2); have s2 := b2.size
  obtain ⟨q2, c2, rfl, -, -⟩ := own_form o2; clear o2 b2
  go_wp2_with fail
  refine (laws_toInt64S _ _ _ _ _ (WI.out.below (B2.out.alloc B2.out.size _)) hlen).mono ?_; rintro e w3 ⟨x, rfl, o3, b3⟩
  rw [HZ.out] at o3
  obtain ⟨y3, bw3, s3, e3⟩ := blk1 b3
  have RX := Lib.hid (apart_new (own_alloc R2.out (.cells #[.int .i64 bb, .slice q2 L.length c2] 27)) o3 (Nat.le_refl _))
  have XE1 := Lib.hid (show some w2.heap.size ≠ x.ownBlock from fun h => by have := own_block_lt o3 _ h.symm; simp at this; omega)
  rw [e3] at o3
  have X3 := Lib.hid o3; have Y3 := Lib.hid y3; have R3 := Lib.hid (own_keep b3 (own_alloc R2.out _)); have B3 := Lib.hid (Below.trans_size B2.out bw3); clear o3 b3 y3 bw3 e3
  have Ya := cell_blk Y3.out 0; have Yb := cell_blk Y3.out 1
  have lt0 : w2.heap.size < w3.heap.size := (by omega)
  go_wp2_with fail
  refine (I.out _ _ _ X3.out).mono ?_; rintro e w4 ⟨v4, rfl, o4, b4⟩
  have GX := Lib.hid (apart_new X3.out o4 (Nat.le_refl _)); have GR := Lib.hid (apart_new R3.out o4 (Nat.le_refl _))
  have NE1 := Lib.hid (show some w2.heap.size ≠ v4.ownBlock from fun h => by have := own_block_lt o4 _ h.symm; omega)
  have NE2 := Lib.hid (show some w4.heap.size ≠ v4.ownBlock from fun h => by have := own_block_lt o4 _ h.symm; omega)
  have X4 := Lib.hid (own_keep b4 X3.out); have XE2 := Lib.hid (show some w4.heap.size ≠ x.ownBlock from fun h => by have := own_block_lt X4.out _ h.symm; omega)
  have G4 := Lib.hid o4; have R4 := Lib.hid (own_keep b4 R3.out); have Y4 := Lib.hid (carryB b4 Y3.out); have B4 := Lib.hid (Below.trans_size B3.out b4); have s4 := b4.size
  obtain ⟨q4, c4, rfl, -, -⟩ := own_form o4; clear o4 b4
  clear Ya Yb lt0
  have Ya := cell_blk Y4.out 0; have Yb := cell_blk Y4.out 1
  have lt0 : w2.heap.size < w4.heap.size := (by omega)
  go_wp2_with fail
  refine (laws_eqEngine _ _ (own_alloc G4.out _) (own_alloc R4.out _)).mono ?_; rintro e w5 ⟨rfl, b5⟩
  obtain ⟨k5, bw5, s5, e5⟩ := blk1 b5
  have R5 := Lib.hid (own_keep b5 (own_alloc R4.out _)); have G5 := Lib.hid (own_keep b5 (own_alloc G4.out _)); have X5 := Lib.hid (own_keep b5 (own_alloc X4.out _)); have Y5 := Lib.hid (carryA b5 Y4.out); have K5 := Lib.hid k5; have B5 := Lib.hid (Below.trans_size B4.out bw5)
  clear b5 k5 bw5 e5
  clear Ya Yb lt0
  have Ya := cell_blk Y5.out 0; have Yb := cell_blk Y5.out 1
  have Ka := cell_blk K5.out 0; have Kb := cell_blk K5.out 1
  have lt0 : w2.heap.size < w5.heap.size := (by omega)
  have lt1 : w4.heap.size < w5.heap.size := (by omega)
  go_wp2_with fail
  refine (laws_toInt64S _ _ _ _ _ (WI.out.below B5.out) hlen).mono ?_; rintro e w6 ⟨y, rfl, o6, b6⟩
  rw [HZ.out] at o6
  have V6 := Lib.hid o6; have R6 := Lib.hid (own_keep b6 R5.out); have G6 := Lib.hid (own_keep b6 G5.out); have X6 := Lib.hid (own_keep b6 X5.out); have Y6 := Lib.hid (carryB b6 Y5.out); have K6 := Lib.hid (carryB b6 K5.out); have B6 := Lib.hid (Below.trans_size B5.out b6); have s6 := b6.size; clear o6 b6
  clear Ya Yb Ka Kb lt0 lt1
  have Ya := cell_blk Y6.out 0; have Yb := cell_blk Y6.out 1
  have Ka := cell_blk K6.out 0; have Kb := cell_blk K6.out 1
  have lt0 : w2.heap.size < w6.heap.size := (by omega)
  have lt1 : w4.heap.size < w6.heap.size := (by omega)
  go_wp2_with fail
  refine (laws_eqInt64S _ X6.out V6.out).mono ?_; rintro e w7 ⟨rfl, b7⟩
  have R7 := Lib.hid (own_keep b7 R6.out); have G7 := Lib.hid (own_keep b7 G6.out); have X7 := Lib.hid (own_keep b7 X6.out); have Y7 := Lib.hid (carryB b7 Y6.out); have K7 := Lib.hid (carryB b7 K6.out); have B7 := Lib.hid (Below.trans_size B6.out b7); have s7 := b7.size; clear b7
  clear Ya Yb Ka Kb lt0 lt1
  have Ya := cell_blk Y7.out 0; have Yb := cell_blk Y7.out 1
  have Ka := cell_blk K7.out 0; have Kb := cell_blk K7.out 1
  have lt0 : w2.heap.size < w7.heap.size := (by omega)
  have lt1 : w4.heap.size < w7.heap.size := (by omega)
  go_wp2_with fail
  refine (laws_markInt64S _ 1 X7.out (by omega) (by omega) (by omega)).mono ?_; rintro e w8 ⟨rfl, o8, g8⟩
  have G8 := Lib.hid (apart_grown G7.out g8 GX.out); have R8 := Lib.hid (apart_grown R7.out g8 (RX.out.symm)); have Y8 := Lib.hid (carryH g8 Y7.out XE1.out); have K8 := Lib.hid (carryH g8 K7.out XE2.out)
  have B8 := Lib.hid (grown_below B7.out X7.out g8 (by omega) B7.out.size); have s8 := g8.size; clear o8 g8
  clear Ya Yb Ka Kb lt0 lt1
  have Ya := cell_blk Y8.out 0; have Yb := cell_blk Y8.out 1
  have Ka := cell_blk K8.out 0; have Kb := cell_blk K8.out 1
  have lt0 : w2.heap.size < w8.heap.size := (by omega)
  have lt1 : w4.heap.size < w8.heap.size := (by omega)
  go_wp2_with fail
  refine (laws_eqEngine _ _ G8.out R8.out).mono ?_; rintro e w9 ⟨rfl, b9⟩
  have R9 := Lib.hid (own_keep b9 R8.out); have G9 := Lib.hid (own_keep b9 G8.out); have Y9 := Lib.hid (carryB b9 Y8.out); have K9 := Lib.hid (carryB b9 K8.out); have B9 := Lib.hid (Below.trans_size B8.out b9); have s9 := b9.size; clear b9
  clear Ya Yb Ka Kb lt0 lt1
  have Ya := cell_blk Y9.out 0; have Yb := cell_blk Y9.out 1
  have Ka := cell_blk K9.out 0; have Kb := cell_blk K9.out 1
  have lt0 : w2.heap.size < w9.heap.size := (by omega)
  have lt1 : w4.heap.size < w9.heap.size := (by omega)
  go_wp2_with fail
  refine (laws_markEngine2 _ _ 1 G9.out (by omega) (by omega) (by omega)).mono ?_; rintro e w10 ⟨rfl, z10, g10, o10⟩
  have R10 := Lib.hid (apart_grown (own_alloc R9.out z10) g10 (GR.out.symm)); have G10 := Lib.hid o10; have Y10 := Lib.hid (carryG g10 Y9.out NE1.out); have K10 := Lib.hid (carryG g10 K9.out NE2.out)
  have B10 := Lib.hid (grown_below (B9.out.alloc B9.out.size z10) (own_alloc G9.out z10) g10 (by omega) (B9.out.alloc B9.out.size z10).size)
  have s10 := g10.size
  simp only [World.size_alloc] at s10
  clear g10 o10
  clear Ya Yb Ka Kb lt0 lt1
  have Ya := cell_blk Y10.out 0; have Yb := cell_blk Y10.out 1
  have Ka := cell_blk K10.out 0; have Kb := cell_blk K10.out 1
  have lt0 : w2.heap.size < w10.heap.size := (by omega)
  have lt1 : w4.heap.size < w10.heap.size := (by omega)
  go_wp2_with fail
  refine (laws_heldEngine _ _ 1 _ G10.out (by omega) (by omega) (by omega)).mono ?_; rintro e w11 ⟨rfl, b11⟩
  have R11 := Lib.hid (own_keep b11 R10.out); have G11 := Lib.hid (own_keep b11 G10.out); have Y11 := Lib.hid (carryB b11 Y10.out); have K11 := Lib.hid (carryB b11 K10.out); have B11 := Lib.hid (Below.trans_size B10.out b11); have s11 := b11.size; clear b11
  clear Ya Yb Ka Kb lt0 lt1
  have Ya := cell_blk Y11.out 0; have Yb := cell_blk Y11.out 1
  have Ka := cell_blk K11.out 0; have Kb := cell_blk K11.out 1
  have lt0 : w2.heap.size < w11.heap.size := (by omega)
  have lt1 : w4.heap.size < w11.heap.size := (by omega)
  go_wp2_with fail
  refine (laws_toInt64S _ _ _ _ _ (WI.out.below B11.out) hlen).mono ?_; rintro e w12 ⟨y2, rfl, o12, b12⟩
  rw [HZ.out] at o12
  have V12 := Lib.hid o12; have R12 := Lib.hid (own_keep b12 R11.out); have G12 := Lib.hid (own_keep b12 G11.out); have Y12 := Lib.hid (carryB b12 Y11.out); have K12 := Lib.hid (carryB b12 K11.out); have B12 := Lib.hid (Below.trans_size B11.out b12); have s12 := b12.size; clear o12 b12
  clear Ya Yb Ka Kb lt0 lt1
  have Ya := cell_blk Y12.out 0; have Yb := cell_blk Y12.out 1
  have Ka := cell_blk K12.out 0; have Kb := cell_blk K12.out 1
  have lt0 : w2.heap.size < w12.heap.size := (by omega)
  have lt1 : w4.heap.size < w12.heap.size := (by omega)
  go_wp2_with fail
  refine (I.out _ _ _ V12.out).mono ?_; rintro e w13 ⟨v13, rfl, o13, b13⟩
  have H13 := Lib.hid o13; have R13 := Lib.hid (own_keep b13 R12.out); have G13 := Lib.hid (own_keep b13 G12.out); have Y13 := Lib.hid (carryB b13 Y12.out); have K13 := Lib.hid (carryB b13 K12.out); have B13 := Lib.hid (Below.trans_size B12.out b13); have s13 := b13.size
  obtain ⟨q13, c13, rfl, -, -⟩ := own_form o13; clear o13 b13
  clear Ya Yb Ka Kb lt0 lt1
  have Ya := cell_blk Y13.out 0; have Yb := cell_blk Y13.out 1
  have Ka := cell_blk K13.out 0; have Kb := cell_blk K13.out 1
  have lt0 : w2.heap.size < w13.heap.size := (by omega)
  have lt1 : w4.heap.size < w13.heap.size := (by omega)
  go_wp2_with fail
  refine (laws_eqEngine _ _ (own_alloc H13.out _) (own_alloc R13.out _)).mono ?_; rintro e w14 ⟨rfl, b14⟩
  obtain ⟨-, bw14, s14, -⟩ := blk1 b14
  have G14 := Lib.hid (own_keep b14 (own_alloc G13.out _)); have K14 := Lib.hid (carryA b14 K13.out); have B14 := Lib.hid (Below.trans_size B13.out bw14)
  clear b14 bw14
  clear Ya Yb Ka Kb lt0 lt1
  have Ka := cell_blk K14.out 0; have Kb := cell_blk K14.out 1
  have lt0 : w4.heap.size < w14.heap.size := (by omega)
  go_wp2_with fail
  refine (laws_heldEngine _ _ 1 _ G14.out (by omega) (by omega) (by omega)).mono ?_; rintro e w15 ⟨rfl, b15⟩
  have B15 := Lib.hid (Below.trans_size B14.out b15); clear b15
  go_wp2_with fail
  go_ret
  exact ⟨rfl, B15.out⟩

set_option maxRecDepth 100000 in
theorem lifted (os : Os) (started : os.Started) (H : Type) (enc : TypeId × Value → H) :
    ReturnsInHanded {} Try.checked os 5 .any (Rows.fnExactNewEngineSpec.pre6 enc Try.prog Try.f5 Rows.fnExactNewEngineRow.domain false) (Rows.fnExactNewEngineSpec.post enc Try.prog Try.f5 false true false false) := by
  refine returnsInHanded_of_change (C := Try.checked) own started (by kernel_rfl) Try.func5
    (ChangeSpec.witness6 (enc := enc) (C := Try.checked) false ⟨#[], #[.int .i64 0, .slice none 0 0], []⟩ 8 (by kernel_rfl) (by kernel_rfl) (by kernel_rfl) (by kernel_rfl)) ?_
  intro W base args ds gs before hval0 hW hcnd _
  have hval : ∀ (j : Nat) t v, Try.f5.params[j]? = some t → args[j]? = some v → Value.okWide Try.prog W .any base t v := hval0
  have hW' := hW
  obtain ⟨p, q, hA0, hV, rfl, hfz, hnd⟩ := hW
  have hA : DataW.TrodAll enc Try.prog W 0 (fun _ => true) true Try.f5.params.toList args.toList ds p := hA0
  rw [Try.params5] at hA hval
  obtain ⟨v0, vs0, d0, ds0, p0, q0, hargs, rfl, rfl, h0, r0⟩ := trodAll_cons hA
  obtain ⟨v1, vs1, d1, ds1, p1, q1, rfl, rfl, rfl, h1, r1⟩ := trodAll_cons r0
  obtain ⟨rfl, rfl, rfl⟩ := trodAll_nil r1
  obtain rfl : args = #[v0, v1] := by cases args; simp_all
  obtain ⟨rfl, rfl⟩ := trodVars_none hV
  have k0 := h0
  have lt0 : ∀ x ∈ p0, x.block < W.heap.size := by obtain ⟨m, hm⟩ := k0; exact DataW.trod_lt m _ _ _ hm
  obtain ⟨a0, rfl, rfl, rfl, w0⟩ := open_int Try.underlying2 (hval 0 2 v0 rfl rfl) h0
  obtain ⟨a1, len1, cap1, rfl⟩ := okWide_slice Try.underlying22 (hval 1 22 v1 rfl rfl)
  have k1 := h1
  have lt1 : ∀ x ∈ p1, x.block < W.heap.size := by obtain ⟨m, hm⟩ := k1; exact DataW.trod_lt m _ _ _ hm
  obtain ⟨z1, w1⟩ : ∃ zs, IsRow .i64 W a1 len1 cap1 zs := by
    obtain ⟨fuel, hf⟩ := h1
    rcases open_ints Try.underlying22 Try.underlying2 (by kernel_rfl) hf with ⟨hcs, _⟩ | ⟨x, l, c, zs, hcs, _, hl, hm, hz, _, hcell, hwz⟩
    · simp [Value.cells] at hcs
      obtain ⟨rfl, rfl, rfl⟩ := hcs
      exact ⟨[], .inl ⟨rfl, rfl, rfl, rfl⟩⟩
    · simp [Value.cells] at hcs
      obtain ⟨rfl, rfl, rfl⟩ := hcs
      exact ⟨zs, .inr ⟨_, rfl, hl, hm, by simpa using hz, hcell, hwz⟩⟩
  clear hA0 hval0
  refine (walk a0 a1 len1 cap1 z1 W w0 w1).mono fun e W' ⟨he, bel⟩ => ?_
  subst he
  exact ⟨_, rfl, _, _, _, [], _, [], hW', trodAll_mk1 (shut_bool Try.underlying4 _), (trodAll_cons_mk (Below.trod laidOut (by kernel_rfl) (of_decide_eq_true (by kernel_rfl)) k0 bel lt0) (trodAll_cons_mk (Below.trod laidOut (by kernel_rfl) (of_decide_eq_true (by kernel_rfl)) k1 bel lt1) trodAll_mk0)), rfl, bel.frame _, fun h => by cases h⟩

theorem over : Rows.fnExactNewEngineRow.holds Try.pinned (OpenSpec.ofChange Rows.fnExactNewEngineSpec) :=
  OpenClaim.holds_of_wide 5 Try.f5 rfl rfl rfl rfl rfl rfl rfl ⟨rfl, rfl, rfl, rfl, rfl⟩ rfl rfl rfl rfl rfl (by kernel_rfl) Try.func5 (by kernel_rfl)
    (of_decide_eq_true (by kernel_rfl)) (by unfold Func.isWrapper; first | (rw [if_pos (by decide +kernel)]; kernel_rfl) | (rw [if_neg (by decide +kernel)]; exact ⟨rfl, rfl⟩))
    (fun os started H enc _ => lifted os started H enc)

theorem proved : Rows.FnExactNewEngineSaid := over
#print axioms proved
end Go.Proofs.Ytknpjibdnjpamaa.fnExactNewEngine
