/- The repair of one entry of a table: the reference's way. -/
import Derived.IntWalk
import Derived.Deep.RegionLaw
import Derived.Deep.QuietTactic
import Derived.BigQuiet
import Derived.Test.YtkhjmokjbiepgaaWre
import Derived.Test.YtkhjmokjbiepgaaGrow
namespace Go.Proofs.Ytkhjmokjbiepgaa
open Go.ChangeShapes Go.WideShapes Go.ChangeAt Go.RowKit
theorem tdiv_bd {a s M : Int} (h1 : -M ≤ a) (h2 : a ≤ M) : -M ≤ a.tdiv s ∧ a.tdiv s ≤ M := by
  have h := Int.natAbs_tdiv_le_natAbs a s
  omega
theorem tmod_bd {a s M : Int} (h1 : -M ≤ a) (h2 : a ≤ M) (h0 : 0 ≤ M) : -M ≤ a.tmod s ∧ a.tmod s ≤ M := by
  by_cases c : 0 ≤ a
  · have x := Int.tmod_nonneg s c
    have e := Int.natAbs_tmod a s
    have y : a.natAbs % s.natAbs ≤ a.natAbs := Nat.mod_le _ _
    omega
  · have e := Int.natAbs_tmod a s
    have y : a.natAbs % s.natAbs ≤ a.natAbs := Nat.mod_le _ _
    omega
/-- a call of a Go function under a guard that holds, as a step of a region that is walked by laws -/
theorem step_callW {w : World} {ops : Array Oper} {o : Oper} {a : Act} {K : Act → World → Prop} {Q : Exit → Act → World → Prop} {E : Prop} (hw : Region.wanted o (yielded ops a.tmps) = true) (f : FuncId) {fn : Func} (hf : Try.prog.funcs[f]? = some fn) (hn : (fn.name == "runtime.NumGoroutine") = false) (hb : fn.body.isNone = false) (args : Array Operand) (tys : Array TypeId)
    (ho : o.op = .call { callee := .value (.func f), args := args, argTypes := tys }) {vals : Array Value} (ha : args.toList.map a.eval = vals.toList) {R : Ending → World → Prop}
    (hc : Calls Try.prog f vals w R) (h : ∀ e w', R e w' → ∃ v, e = .returned v ∧ K (a.put o.dst v) w') : if Region.wanted o (yielded ops a.tmps) = true then Oper.wp Try.prog o a w K Q else E := by
  rw [if_pos hw]
  obtain rfl : args.map a.eval = vals := by rw [← Array.toList_inj, Array.toList_map]; exact ha
  have e : (execOp a.eval o).run Try.prog w = .ok (.enter f (args.map a.eval)) w := by
    have hn' : ¬ fn.name = "runtime.NumGoroutine" := by simpa using hn
    have hb' : ¬ fn.body = none := by intro e; rw [e] at hb; cases hb
    simp [execOp, ho, resolve, invoke, Act.eval, go_sem, Deferred.ofValue, callFunc, hf, hn', hb']
  unfold Oper.wp
  rw [e, Oper.upon_enter]
  refine hc.mono ?_
  intro e w' hr
  obtain ⟨v, rfl, hk⟩ := h e w' hr
  exact hk
set_option maxHeartbeats 4000000 in
theorem spec_l15Repair {B : Nat} {v : Value} {zs : List Int} (d j : Nat) (w : World) (h : Own w B v zs) (hb : bdd 1000000000 zs) (hl : zs.length ≤ 30) (hd : d ≤ 8) (hn : d + 2 < zs.length) (hj : j < zs.length) :
    Calls Try.prog 39 #[v, .int .i64 d, .int .i64 j] w (RetRep w (repOk zs (d + 1) j) (repV zs (d + 1) j)) := by
  have HBD := Lib.hid (difN_fits hl hb)
  have HBB := Lib.hid hb
  have hW := bdd_nth (bdd_ord hb (by omega) (show d + 1 ≤ 9 by omega)) (by omega) (j - (d + 1))
  obtain ⟨fS, fB1, fB2⟩ := rtS_first (zs := zs) (o := d + 1) (j := j) (by omega) hj (by omega)
  have hS0 := sgnBin_ne fB1
  rw [← fS] at hS0
  have NO := ref_no (zs := zs) (o := d + 1) hj (by omega)
  have YES := ref_yes (zs := zs) (o := d + 1) hj (by omega) hS0
  have hF : imax 0 ((j : Int) - ((d : Int) + 1)) = ((j - (d + 1) : Nat) : Int) := by unfold imax; split <;> omega
  have hx := bdd_nth hb (by omega) j
  have HO := Lib.hid h; clear h
  have hV := repV_bd hb (show d + 1 ≤ 9 by omega) j
  have FX := Lib.hid (fixed_ok (zs := zs) (o := d + 1) hj)
  rw [show ((d + 1 : Nat) : Int) = (d : Int) + 1 by omega] at fB1 fB2
  unfold sgnBin at fS
  rw [show ((d + 1 : Nat) : Int) = (d : Int) + 1 by omega, show ((j - (j - (d + 1)) : Nat) : Int) = (j : Int) - ((j - (d + 1) : Nat) : Int) by omega] at fS
  rw [show ((j - (j - (d + 1)) : Nat) : Int) = (j : Int) - ((j - (d + 1) : Nat) : Int) by omega] at fB1 fB2
  clear hS0 hb
  have hf1 : ((j - (d + 1) : Nat) : Int) ≤ j := by omega
  have hf2 : (j : Int) - ((j - (d + 1) : Nat) : Int) ≤ d + 1 := by omega
  have hf3 : j - (d + 1) < (difN zs (d + 1)).length := by rw [difN_len]; omega
  generalize hS : rtS zs (d + 1) j (j - (d + 1)) = S at *
  generalize hWW : nth (difN zs (d + 1)) (j - (d + 1)) = W at *
  have HWW := Lib.hid hWW; clear hWW hS
  generalize j - (d + 1) = f at *
  generalize hBI : binOf ((d : Int) + 1) ((j : Int) - f) = BI at *
  have HBI := Lib.hid hBI; clear hBI
  by_cases hp : (d + 1 - (j - f)) % 2 = 1
  · rw [if_pos hp] at fS; subst fS
    have par : ((d : Int) + 1 - j + f).tmod 2 = 1 := by rw [Int.tmod_eq_emod_of_nonneg (by omega)]; omega
    have z1 : 0 ≤ (d : Int) + 1 - j + f := by omega
    have z2 : (d : Int) + 1 - j + f ≤ 20 := by omega
    clear hp
    rw [Int.tmod_neg] at NO YES
    rw [Int.tdiv_neg, Int.sub_neg] at YES
    have hE := tdiv_bd (s := BI) hW.1 hW.2
    have hM := tmod_bd (s := BI) hW.1 hW.2 (by omega)
    have zb : ¬ (BI = 0) := by omega
    by_cases hm : W.tmod (BI) = 0
    · have YV := YES hm
      clear NO YES
      have hFV : -512000000000 ≤ nth zs j + W.tdiv BI ∧ nth zs j + W.tdiv BI ≤ 512000000000 := by rw [YV]; exact hV
      have YY := Lib.hid YV; have mm := hm; clear hm YV hV hM
      go_enter Try.func39, Try.ntmps39
      go_wp2_with fail
      refine (spec_l15Order _ _ HO.out (by omega) (by omega) hl HBD.out).mono ?_; rintro e w1 ⟨v1, rfl, o1, b1⟩
      rw [show ((d : Int) + 1).toNat = d + 1 by omega] at o1
      have B1 := Lib.hid b1
      have O1 := Lib.hid (own_keep b1 HO.out)
      obtain ⟨a1, c1, rfl, m1, q1⟩ := own_form o1
      obtain ⟨g1, rfl, r1⟩ := q1 f hf3
      rw [HWW.out] at r1
      have i1 : (f : Int) < ((difN zs (d + 1)).length : Int) := by omega
      clear q1 o1 b1
      go_wp2_with fail
      refine (spec_l00Max _ _ _).mono ?_; rintro e w2 ⟨rfl, rfl⟩
      rw [hF]
      go_wp2_with fail
      refine (spec_l15Binomial _ _ _ (by omega) (by omega) (by omega) (by omega)).mono ?_; rintro e w2 ⟨rfl, rfl⟩
      rw [HBI.out]
      go_wp2_with fail
      refine (spec_l00Own _ O1.out (by omega)).mono ?_; rintro e w3 ⟨v3, rfl, o3, b3⟩
      have B3 := Lib.hid (Below.trans_size B1.out b3)
      have l3 := (own_block_lt o3)
      obtain ⟨a3, c3, rfl, m3, q3⟩ := own_form o3
      obtain ⟨g3, rfl, r3⟩ := q3 j hj
      have f3 := (own_at o3 rfl hj).2
      have g3l := (l3 g3 rfl).1
      have S3 := Lib.hid (own_store o3 rfl j (nth zs j + W.tdiv BI)).1
      have hE' := YY.out
      generalize W.tdiv BI = T at *
      generalize hX : nth zs j = X at *
      have HX := Lib.hid hX; clear hX hE'
      have i3 : (j : Int) < (zs.length : Int) := by omega
      clear q3 o3 b3 l3 r1 i1
      have FXV := Lib.hid (show (difN (zs.set j (X + T)) (d + 1)).all isZ = repOk zs (d + 1) j from by rw [YY.out]; exact FX.out)
      have HBF := Lib.hid (show bdd 600000000000 (zs.set j (X + T)) from bdd_set (bdd_mono HBB.out (by omega)) (by omega) (by omega) j)
      have HBJ := Lib.hid (fun (k : Nat) (hk : (k : Int) < (d : Int) + 1) => bdd_mono (bdd_ord HBF.out (by omega) (o := k) (by omega)) (show (512 : Int) * 600000000000 ≤ 1000000000000000000 by omega))
      have LF := Lib.hid (show (zs.set j (X + T)).length = zs.length from List.length_set)
      have inv : inB (X + T) (-1000000000000000) 1000000000000000 = true := inB_true (by omega) (by omega)
      go_wp2_with fail
      clear r3 f3
      have IN := Lib.hid (fun wx => spec_l15In (X + T) wx)
      rw [inv] at IN
      have HAS := Lib.hid (fun wx (hx : Own wx w1.heap.size (.slice (some ⟨g3, 0, none⟩) zs.length c3) (zs.set j (X + T))) => spec_l15HasB (d : Int) wx hx (by omega) (by omega) (by rw [LF.out]; omega) (by rw [LF.out]; omega) HBJ.out)
      rw [show ((d : Int) + 1).toNat = d + 1 by omega, FXV.out] at HAS
      have C3 := Lib.hid (show (w3.setCell ⟨g3, j, none⟩ (.int .i64 (X + T))).cell? ⟨g3, j, none⟩ = some (.int .i64 (X + T)) from by have h := (own_at S3.out LF.out.symm hj).1; rw [nth_set _ _ _ _ hj, if_pos rfl] at h; exact h)
      have G3 := Lib.hid (show g3 < (w3.setCell ⟨g3, j, none⟩ (.int .i64 (X + T))).heap.size from ((own_block_lt S3.out) g3 rfl).2)
      have BB := Lib.hid (show Below w.heap.size w (w3.setCell ⟨g3, j, none⟩ (.int .i64 (X + T))) from B3.out.setCell (by show w.heap.size ≤ g3; have := B1.out.size; omega) _)
      generalize repOk zs (d + 1) j = ok at *
      have k3 := C3.out
      go_region_law (first | (refine step_callW (by rfl) 69 Try.func69 (by decide +kernel) (by rfl) _ _ (by rfl) (vals := #[.int .i64 (X + T)]) (by rfl) (IN.out _) ?_; rintro e w4 ⟨rfl, rfl⟩; refine ⟨_, rfl, ?_⟩) | (refine step_callW (by first | rfl | (simp [Region.wanted, yielded]; done)) 38 Try.func38 (by decide +kernel) (by rfl) _ _ (by rfl) (vals := #[.slice (some ⟨g3, 0, none⟩) zs.length c3, .int .i64 d]) (by rfl) (HAS.out _ (own_drew S3.out)) ?_; rintro e w4 ⟨rfl, b4⟩; have q4 := (b4.cell (p := ⟨g3, j, none⟩) G3.out).trans C3.out; have g4 : g3 < w4.heap.size := (Nat.lt_of_lt_of_le G3.out b4.size); have B4 := Lib.hid (Below.trans_size BB.out.drew b4); clear b4; refine ⟨_, rfl, ?_⟩))
      all_goals (
      go_wp2_with fail
      go_ret2
      exact ⟨_, rfl, fun _ => YY.out, B4.out⟩)
    · have NN := Lib.hid (NO hm)
      clear NO YES hV
      generalize hmm : W.tmod (BI) = M at *
      go_enter Try.func39, Try.ntmps39
      go_wp2_with fail
      refine (spec_l15Order _ _ HO.out (by omega) (by omega) hl HBD.out).mono ?_; rintro e w1 ⟨v1, rfl, o1, b1⟩
      rw [show ((d : Int) + 1).toNat = d + 1 by omega] at o1
      have B1 := Lib.hid b1
      have O1 := Lib.hid (own_keep b1 HO.out)
      obtain ⟨a1, c1, rfl, m1, q1⟩ := own_form o1
      obtain ⟨g1, rfl, r1⟩ := q1 f hf3
      rw [HWW.out] at r1
      have i1 : (f : Int) < ((difN zs (d + 1)).length : Int) := by omega
      clear q1 o1 b1
      go_wp2_with fail
      refine (spec_l00Max _ _ _).mono ?_; rintro e w2 ⟨rfl, rfl⟩
      rw [hF]
      go_wp2_with fail
      refine (spec_l15Binomial _ _ _ (by omega) (by omega) (by omega) (by omega)).mono ?_; rintro e w2 ⟨rfl, rfl⟩
      rw [HBI.out]
      go_wp2_with fail
      go_ret2
      exact ⟨0, by rw [NN.out]; rfl, by rw [NN.out]; simp, B1.out⟩
  · rw [if_neg hp] at fS; subst fS
    have par : ((d : Int) + 1 - j + f).tmod 2 = 0 := by rw [Int.tmod_eq_emod_of_nonneg (by omega)]; omega
    have z1 : 0 ≤ (d : Int) + 1 - j + f := by omega
    have z2 : (d : Int) + 1 - j + f ≤ 20 := by omega
    clear hp
    have hE := tdiv_bd (s := S) hW.1 hW.2
    have hM := tmod_bd (s := S) hW.1 hW.2 (by omega)
    have zb : ¬ (S = 0) := by omega
    by_cases hm : W.tmod (S) = 0
    · have YV := YES hm
      clear NO YES
      have hFV : -512000000000 ≤ nth zs j - W.tdiv S ∧ nth zs j - W.tdiv S ≤ 512000000000 := by rw [YV]; exact hV
      have YY := Lib.hid YV; have mm := hm; clear hm YV hV hM
      go_enter Try.func39, Try.ntmps39
      go_wp2_with fail
      refine (spec_l15Order _ _ HO.out (by omega) (by omega) hl HBD.out).mono ?_; rintro e w1 ⟨v1, rfl, o1, b1⟩
      rw [show ((d : Int) + 1).toNat = d + 1 by omega] at o1
      have B1 := Lib.hid b1
      have O1 := Lib.hid (own_keep b1 HO.out)
      obtain ⟨a1, c1, rfl, m1, q1⟩ := own_form o1
      obtain ⟨g1, rfl, r1⟩ := q1 f hf3
      rw [HWW.out] at r1
      have i1 : (f : Int) < ((difN zs (d + 1)).length : Int) := by omega
      clear q1 o1 b1
      go_wp2_with fail
      refine (spec_l00Max _ _ _).mono ?_; rintro e w2 ⟨rfl, rfl⟩
      rw [hF]
      go_wp2_with fail
      refine (spec_l15Binomial _ _ _ (by omega) (by omega) (by omega) (by omega)).mono ?_; rintro e w2 ⟨rfl, rfl⟩
      rw [HBI.out]
      go_wp2_with fail
      refine (spec_l00Own _ O1.out (by omega)).mono ?_; rintro e w3 ⟨v3, rfl, o3, b3⟩
      have B3 := Lib.hid (Below.trans_size B1.out b3)
      have l3 := (own_block_lt o3)
      obtain ⟨a3, c3, rfl, m3, q3⟩ := own_form o3
      obtain ⟨g3, rfl, r3⟩ := q3 j hj
      have f3 := (own_at o3 rfl hj).2
      have g3l := (l3 g3 rfl).1
      have S3 := Lib.hid (own_store o3 rfl j (nth zs j - W.tdiv S)).1
      have hE' := YY.out
      generalize W.tdiv S = T at *
      generalize hX : nth zs j = X at *
      have HX := Lib.hid hX; clear hX hE'
      have i3 : (j : Int) < (zs.length : Int) := by omega
      clear q3 o3 b3 l3 r1 i1
      have FXV := Lib.hid (show (difN (zs.set j (X - T)) (d + 1)).all isZ = repOk zs (d + 1) j from by rw [YY.out]; exact FX.out)
      have HBF := Lib.hid (show bdd 600000000000 (zs.set j (X - T)) from bdd_set (bdd_mono HBB.out (by omega)) (by omega) (by omega) j)
      have HBJ := Lib.hid (fun (k : Nat) (hk : (k : Int) < (d : Int) + 1) => bdd_mono (bdd_ord HBF.out (by omega) (o := k) (by omega)) (show (512 : Int) * 600000000000 ≤ 1000000000000000000 by omega))
      have LF := Lib.hid (show (zs.set j (X - T)).length = zs.length from List.length_set)
      have inv : inB (X - T) (-1000000000000000) 1000000000000000 = true := inB_true (by omega) (by omega)
      go_wp2_with fail
      clear r3 f3
      have IN := Lib.hid (fun wx => spec_l15In (X - T) wx)
      rw [inv] at IN
      have HAS := Lib.hid (fun wx (hx : Own wx w1.heap.size (.slice (some ⟨g3, 0, none⟩) zs.length c3) (zs.set j (X - T))) => spec_l15HasB (d : Int) wx hx (by omega) (by omega) (by rw [LF.out]; omega) (by rw [LF.out]; omega) HBJ.out)
      rw [show ((d : Int) + 1).toNat = d + 1 by omega, FXV.out] at HAS
      have C3 := Lib.hid (show (w3.setCell ⟨g3, j, none⟩ (.int .i64 (X - T))).cell? ⟨g3, j, none⟩ = some (.int .i64 (X - T)) from by have h := (own_at S3.out LF.out.symm hj).1; rw [nth_set _ _ _ _ hj, if_pos rfl] at h; exact h)
      have G3 := Lib.hid (show g3 < (w3.setCell ⟨g3, j, none⟩ (.int .i64 (X - T))).heap.size from ((own_block_lt S3.out) g3 rfl).2)
      have BB := Lib.hid (show Below w.heap.size w (w3.setCell ⟨g3, j, none⟩ (.int .i64 (X - T))) from B3.out.setCell (by show w.heap.size ≤ g3; have := B1.out.size; omega) _)
      generalize repOk zs (d + 1) j = ok at *
      have k3 := C3.out
      go_region_law (first | (refine step_callW (by rfl) 69 Try.func69 (by decide +kernel) (by rfl) _ _ (by rfl) (vals := #[.int .i64 (X - T)]) (by rfl) (IN.out _) ?_; rintro e w4 ⟨rfl, rfl⟩; refine ⟨_, rfl, ?_⟩) | (refine step_callW (by first | rfl | (simp [Region.wanted, yielded]; done)) 38 Try.func38 (by decide +kernel) (by rfl) _ _ (by rfl) (vals := #[.slice (some ⟨g3, 0, none⟩) zs.length c3, .int .i64 d]) (by rfl) (HAS.out _ (own_drew S3.out)) ?_; rintro e w4 ⟨rfl, b4⟩; have q4 := (b4.cell (p := ⟨g3, j, none⟩) G3.out).trans C3.out; have g4 : g3 < w4.heap.size := (Nat.lt_of_lt_of_le G3.out b4.size); have B4 := Lib.hid (Below.trans_size BB.out.drew b4); clear b4; refine ⟨_, rfl, ?_⟩))
      all_goals (
      go_wp2_with fail
      go_ret2
      exact ⟨_, rfl, fun _ => YY.out, B4.out⟩)
    · have NN := Lib.hid (NO hm)
      clear NO YES hV
      generalize hmm : W.tmod (S) = M at *
      go_enter Try.func39, Try.ntmps39
      go_wp2_with fail
      refine (spec_l15Order _ _ HO.out (by omega) (by omega) hl HBD.out).mono ?_; rintro e w1 ⟨v1, rfl, o1, b1⟩
      rw [show ((d : Int) + 1).toNat = d + 1 by omega] at o1
      have B1 := Lib.hid b1
      have O1 := Lib.hid (own_keep b1 HO.out)
      obtain ⟨a1, c1, rfl, m1, q1⟩ := own_form o1
      obtain ⟨g1, rfl, r1⟩ := q1 f hf3
      rw [HWW.out] at r1
      have i1 : (f : Int) < ((difN zs (d + 1)).length : Int) := by omega
      clear q1 o1 b1
      go_wp2_with fail
      refine (spec_l00Max _ _ _).mono ?_; rintro e w2 ⟨rfl, rfl⟩
      rw [hF]
      go_wp2_with fail
      refine (spec_l15Binomial _ _ _ (by omega) (by omega) (by omega) (by omega)).mono ?_; rintro e w2 ⟨rfl, rfl⟩
      rw [HBI.out]
      go_wp2_with fail
      go_ret2
      exact ⟨0, by rw [NN.out]; rfl, by rw [NN.out]; simp, B1.out⟩
end Go.Proofs.Ytkhjmokjbiepgaa
