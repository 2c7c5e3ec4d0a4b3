/- FaultText of both packages. -/
import Derived.IntWalk
import Derived.Deep.QuietTactic
import Derived.BigQuiet
import Derived.Deep.RegionHeld3
import Derived.Deep.RegionLaw
import Derived.Test.YtkhjmokjbiepgaaDoorDcm
namespace Go.Proofs.YtkhjmokjbiepgaaDoor
open Go.ChangeShapes Go.WideShapes Go.ChangeAt Go.RowKit
def fwL (k : Int) : List UInt8 := if k = 1 then [109, 105, 115, 115, 105, 110, 103] else if k = 2 then [115, 116, 117, 99, 107] else if k = 3 then [108, 97, 116, 101] else []
def fltL (k l : Int) : List UInt8 := if inB k 1 3 && inB l 0 15 then fwL k ++ [32] ++ Lib.itoa l else []
theorem fwL_out {k : Int} (h : inB k 1 3 = false) : fwL k = [] := by
  have := inB_not h
  unfold fwL; rw [if_neg (by omega), if_neg (by omega), if_neg (by omega)]
theorem str_app (a b : List UInt8) : (⟨a.toArray⟩ : ByteArray) ++ ⟨b.toArray⟩ = ⟨(a ++ b).toArray⟩ := by rw [ByteArray.mk_append_mk]
theorem kind3 {k : Int} (h : inB k 1 3 = true) : k = 1 ∨ k = 2 ∨ k = 3 := by have := inB_iff.1 h; omega
theorem blkdF {w w1 : World} {A : Obj} (b : Below (w.alloc A).drew.heap.size (w.alloc A).drew w1) : w1.heap[w.heap.size]? = some A ∧ Below w.heap.size w w1 ∧ w.heap.size + 1 ≤ w1.heap.size := by
  obtain ⟨y, bw, hs, -⟩ := blk1 (w := w.drew) (A := A) b
  exact ⟨y, (Below.refl w.heap.size w).drew.trans bw, hs⟩
theorem spec_l08Word (k : Int) (w : World) :
    Calls Tryd.prog 25 #[.int .i64 k] w fun e w' => e = .returned (.string ⟨(fwL k).toArray⟩) ∧ w = w' := by
  cases h : inB k 1 3
  · have HF := Lib.hid (fwL_out h)
    have hk := inB_not h
    have k1 : (k == 1) = false := by simp; omega
    have k2 : (k == 2) = false := by simp; omega
    have k3 : (k == 3) = false := by simp; omega
    clear h hk
    go_enter Tryd.func25, Tryd.ntmps25
    go_wp2_with fail
    go_ret
    exact ⟨str_eq HF.out.symm, rfl⟩
  · rcases kind3 h with rfl | rfl | rfl
    all_goals
      clear h
      go_enter Tryd.func25, Tryd.ntmps25
      go_wp2_with fail
      go_ret
      exact ⟨str_eq rfl, rfl⟩
theorem impl_isFault (wd k l : Int) (w : World) (h0 : -1000000 ≤ wd) (h1 : wd ≤ 1000000) :
    Calls Tryd.prog 30 #[.int .i64 wd, .agg #[.int .i64 k, .int .i64 l]] w (RetV w (.bool (inB k 1 3 && inB l 0 (wd - 1)))) := by
  cases h : inB k 1 3
  · have HF := Lib.hid h; clear h
    go_enter Tryd.func30, Tryd.ntmps30
    go_wp2_with fail
    refine (impl_between _ _ _ _).mono ?_; rintro e w' ⟨rfl, rfl⟩; rw [HF.out]
    go_wp2_with fail
    go_ret
    exact ⟨rfl, (Below.refl _ _).alloc (Nat.le_refl _) _⟩
  · have HF := Lib.hid h; clear h
    go_enter Tryd.func30, Tryd.ntmps30
    go_wp2_with fail
    refine (impl_between _ _ _ _).mono ?_; rintro e w' ⟨rfl, rfl⟩; rw [HF.out]
    go_wp2_with fail
    refine (impl_between _ _ _ _).mono ?_; rintro e w' ⟨rfl, rfl⟩
    go_wp2_with fail
    go_ret
    exact ⟨by first | rfl | (simp; done) | simp, (Below.refl _ _).alloc (Nat.le_refl _) _⟩
theorem impl_faultNames (w : World) :
    Calls Tryd.prog 29 #[] w fun e w' => e = .returned (.slice (some ⟨w.heap.size, 0, none⟩) 4 4) ∧ w' = w.alloc (.cells #[.string ⟨(fwL 0).toArray⟩, .string ⟨(fwL 1).toArray⟩, .string ⟨(fwL 2).toArray⟩, .string ⟨(fwL 3).toArray⟩] 9) := by
  go_enter Tryd.func29, Tryd.ntmps29
  go_wp2_with fail
  go_ret
  exact ⟨rfl, rfl⟩
set_option maxHeartbeats 4000000 in
theorem spec_FaultText (k l : Int) (w : World) :
    Calls Tryd.prog 15 #[.agg #[.int .i64 k, .int .i64 l]] w (RetV w (.string ⟨(fltL k l).toArray⟩)) := by
  cases h : inB k 1 3
  · have HF := Lib.hid (fwL_out h)
    have HL := Lib.hid (show fltL k l = [] from by simp [fltL, h])
    clear h
    go_enter Tryd.func15, Tryd.ntmps15
    go_wp2_with fail
    refine (spec_l08Word _ _).mono ?_; rintro e w' ⟨rfl, rfl⟩; rw [HF.out]
    go_wp2_with fail
    go_ret
    exact ⟨str_eq HL.out.symm, (Below.refl _ _).alloc (Nat.le_refl _) _⟩
  cases h2 : inB l 0 15
  · have HL := Lib.hid (show fltL k l = [] from by simp [fltL, h2])
    have HI := Lib.hid h2
    clear h2
    rcases kind3 h with rfl | rfl | rfl
    all_goals
      clear h
      go_enter Tryd.func15, Tryd.ntmps15
      go_wp2_with fail
      refine (spec_l08Word _ _).mono ?_; rintro e w' ⟨rfl, rfl⟩
      go_wp2_with fail
      refine (spec_l00In _ _ _ _).mono ?_; rintro e w' ⟨rfl, rfl⟩; rw [HI.out]
      go_wp2_with fail
      go_ret
      exact ⟨str_eq HL.out.symm, (Below.refl _ _).alloc (Nat.le_refl _) _⟩
  have HL := Lib.hid (show fltL k l = fwL k ++ [32] ++ Lib.itoa l from by simp [fltL, h, h2])
  have HI := Lib.hid h2
  obtain ⟨l0, l1⟩ := inB_iff.1 h2
  have hil := Lib.itoa_length_le l (by omega) (by omega)
  have hil2 : ((Lib.itoa l).length : Int) ≤ 8388608 := by omega
  clear h2
  rcases kind3 h with rfl | rfl | rfl
  · clear h
    go_enter Tryd.func15, Tryd.ntmps15
    go_wp2_with fail
    refine (spec_l08Word _ _).mono ?_; rintro e w' ⟨rfl, rfl⟩
    go_wp2_with fail
    refine (spec_l00In _ _ _ _).mono ?_; rintro e w' ⟨rfl, rfl⟩; rw [HI.out]
    go_wp2_with fail
    have ha : ¬ (9223372036854775807 < 8 + (Lib.itoa l).length) := by omega
    have hb : ¬ (9223372036854775799 < (Lib.itoa l).length) := by omega
    have hc : (Lib.itoa l).length ≤ 9223372036854775799 := by omega
    go_region_held3 (fun w' => w'.cell? ⟨w.heap.size, 0, none⟩ = some (.int .i64 1) ∧ w'.cell? ⟨w.heap.size, 1, none⟩ = some (.int .i64 l)) (first | exact ⟨z0, z1⟩ | go_keep) (first | (go_at_call 25; refine (spec_l08Word _ _).mono ?_; rintro e w' ⟨he, rfl⟩; obtain rfl : e = .returned (.string ⟨#[109, 105, 115, 115, 105, 110, 103]⟩) := he) | (go_at_call 33; refine (spec_l01Dec _ _ (by omega) (by omega)).mono ?_; rintro e w1 ⟨rfl, b1⟩; obtain ⟨yy, bw, -⟩ := blkdF b1; have BW := Lib.hid bw; have z0 := cell_blk yy 0; have z1 := cell_blk yy 1; clear b1 bw yy))
    all_goals (
    clear ha hb hc
    go_wp2_with fail
    go_ret
    exact ⟨by rw [HL.out, ← str_app, ← str_app]; rfl, BW.out⟩)
  · clear h
    go_enter Tryd.func15, Tryd.ntmps15
    go_wp2_with fail
    refine (spec_l08Word _ _).mono ?_; rintro e w' ⟨rfl, rfl⟩
    go_wp2_with fail
    refine (spec_l00In _ _ _ _).mono ?_; rintro e w' ⟨rfl, rfl⟩; rw [HI.out]
    go_wp2_with fail
    have ha : ¬ (9223372036854775807 < 6 + (Lib.itoa l).length) := by omega
    have hb : ¬ (9223372036854775801 < (Lib.itoa l).length) := by omega
    have hc : (Lib.itoa l).length ≤ 9223372036854775801 := by omega
    go_region_held3 (fun w' => w'.cell? ⟨w.heap.size, 0, none⟩ = some (.int .i64 2) ∧ w'.cell? ⟨w.heap.size, 1, none⟩ = some (.int .i64 l)) (first | exact ⟨z0, z1⟩ | go_keep) (first | (go_at_call 25; refine (spec_l08Word _ _).mono ?_; rintro e w' ⟨he, rfl⟩; obtain rfl : e = .returned (.string ⟨#[115, 116, 117, 99, 107]⟩) := he) | (go_at_call 33; refine (spec_l01Dec _ _ (by omega) (by omega)).mono ?_; rintro e w1 ⟨rfl, b1⟩; obtain ⟨yy, bw, -⟩ := blkdF b1; have BW := Lib.hid bw; have z0 := cell_blk yy 0; have z1 := cell_blk yy 1; clear b1 bw yy))
    all_goals (
    clear ha hb hc
    go_wp2_with fail
    go_ret
    exact ⟨by rw [HL.out, ← str_app, ← str_app]; rfl, BW.out⟩)
  · clear h
    go_enter Tryd.func15, Tryd.ntmps15
    go_wp2_with fail
    refine (spec_l08Word _ _).mono ?_; rintro e w' ⟨rfl, rfl⟩
    go_wp2_with fail
    refine (spec_l00In _ _ _ _).mono ?_; rintro e w' ⟨rfl, rfl⟩; rw [HI.out]
    go_wp2_with fail
    have ha : ¬ (9223372036854775807 < 5 + (Lib.itoa l).length) := by omega
    have hb : ¬ (9223372036854775802 < (Lib.itoa l).length) := by omega
    have hc : (Lib.itoa l).length ≤ 9223372036854775802 := by omega
    go_region_held3 (fun w' => w'.cell? ⟨w.heap.size, 0, none⟩ = some (.int .i64 3) ∧ w'.cell? ⟨w.heap.size, 1, none⟩ = some (.int .i64 l)) (first | exact ⟨z0, z1⟩ | go_keep) (first | (go_at_call 25; refine (spec_l08Word _ _).mono ?_; rintro e w' ⟨he, rfl⟩; obtain rfl : e = .returned (.string ⟨#[108, 97, 116, 101]⟩) := he) | (go_at_call 33; refine (spec_l01Dec _ _ (by omega) (by omega)).mono ?_; rintro e w1 ⟨rfl, b1⟩; obtain ⟨yy, bw, -⟩ := blkdF b1; have BW := Lib.hid bw; have z0 := cell_blk yy 0; have z1 := cell_blk yy 1; clear b1 bw yy))
    all_goals (
    clear ha hb hc
    go_wp2_with fail
    go_ret
    exact ⟨by rw [HL.out, ← str_app, ← str_app]; rfl, BW.out⟩)
/-- a call of a Go function, as a step of a region that is walked by laws -/
theorem step_callG {w : World} {ops : Array Oper} {o : Oper} {a : Act} {K : Act → World → Prop} {Q : Exit → Act → World → Prop} {E : Prop} (hgd : o.guard = none) (f : FuncId) {fn : Func} (hf : Tryd.prog.funcs[f]? = some fn) (hn : (fn.name == "runtime.NumGoroutine") = false) (hb : fn.body.isNone = false) (args : Array Operand) (tys : Array TypeId)
    (ho : o.op = .call { callee := .value (.func f), args := args, argTypes := tys }) {vals : Array Value} (ha : args.toList.map a.eval = vals.toList) {R : Ending → World → Prop}
    (hc : Calls Tryd.prog f vals w R) (h : ∀ e w', R e w' → ∃ v, e = .returned v ∧ K (a.put o.dst v) w') : if Region.wanted o (yielded ops a.tmps) = true then Oper.wp Tryd.prog o a w K Q else E := by
  have hw : Region.wanted o (yielded ops a.tmps) = true := by simp [Region.wanted, hgd]
  rw [if_pos hw]
  obtain rfl : args.map a.eval = vals := by rw [← Array.toList_inj, Array.toList_map]; exact ha
  have e : (execOp a.eval o).run Tryd.prog w = .ok (.enter f (args.map a.eval)) w := by
    have hn' : ¬ fn.name = "runtime.NumGoroutine" := by simpa using hn
    have hb' : ¬ fn.body = none := by intro e; rw [e] at hb; cases hb
    simp [execOp, ho, resolve, invoke, Act.eval, go_sem, Deferred.ofValue, callFunc, hf, hn', hb']
  unfold Oper.wp
  rw [e, Oper.upon_enter]
  refine hc.mono ?_
  intro e w' hr
  obtain ⟨v, rfl, hk⟩ := h e w' hr
  exact hk
theorem fwL_len (k : Int) : (fwL k).length ≤ 7 := by
  unfold fwL; split
  · decide
  · split
    · decide
    · split <;> decide
theorem names_at {k : Int} (h0 : 1 ≤ k) (h1 : k ≤ 3) : (#[Value.string ⟨(fwL 0).toArray⟩, .string ⟨(fwL 1).toArray⟩, .string ⟨(fwL 2).toArray⟩, .string ⟨(fwL 3).toArray⟩] : Array Value)[k.toNat]? = some (.string ⟨(fwL k).toArray⟩) := by
  obtain rfl | rfl | rfl : k = 1 ∨ k = 2 ∨ k = 3 := by omega
  all_goals rfl
set_option maxHeartbeats 4000000 in
theorem impl_FaultText (k l : Int) (w : World) (hT : TabW w) :
    Calls Tryd.prog 17 #[.agg #[.int .i64 k, .int .i64 l]] w (RetV w (.string ⟨(fltL k l).toArray⟩)) := by
  cases h : (inB k 1 3 && inB l 0 (16 - 1))
  · have HL := Lib.hid (show fltL k l = [] from by unfold fltL; rw [show inB l 0 15 = inB l 0 (16 - 1) from rfl, h]; rfl)
    have HF := Lib.hid h
    clear h hT
    go_enter Tryd.func17, Tryd.ntmps17
    go_wp2_with fail
    refine (impl_isFault _ _ _ _ (by omega) (by omega)).mono ?_; rintro e w1 ⟨rfl, b1⟩; rw [HF.out]
    have BW := Lib.hid (blk1 b1).2.1; clear b1
    go_wp2_with fail
    go_ret
    exact ⟨str_eq HL.out.symm, BW.out⟩
  have HL := Lib.hid (show fltL k l = fwL k ++ [32] ++ Lib.itoa l from by unfold fltL; rw [show inB l 0 15 = inB l 0 (16 - 1) from rfl, h]; rfl)
  have HF := Lib.hid h
  have h' := h; rw [Bool.and_eq_true] at h'
  obtain ⟨h1, h2⟩ := h'
  obtain ⟨l0, l1⟩ := inB_iff.1 h2
  have HT := Lib.hid hT
  have hil := Lib.itoa_length_le l (by omega) (by omega)
  have hil2 : ((Lib.itoa l).length : Int) ≤ 8388608 := by omega
  clear h h2 hT
  obtain ⟨k0, k1⟩ := inB_iff.1 h1
  have hfw := fwL_len k
  clear h1
  go_enter Tryd.func17, Tryd.ntmps17
  go_wp2_with fail
  refine (impl_isFault _ _ _ _ (by omega) (by omega)).mono ?_; rintro e w1 ⟨rfl, b1⟩; rw [HF.out]
  obtain ⟨y1, bw, s1, -⟩ := blk1 b1
  have BW := Lib.hid bw
  have HT1 := Lib.hid (tab_keep HT.out bw)
  have z0 := cell_blk y1 0; have z1 := cell_blk y1 1
  have lt0 : w.heap.size < w1.heap.size := by omega
  have k2 : (0 : Int) ≤ k := by omega
  have k3 : k < 4 := by omega
  have ha : ¬ (9223372036854775807 < (fwL k).length + 1) := by omega
  have hb : ¬ (9223372036854775807 < (fwL k).length + 1 + (Lib.itoa l).length) := by omega
  clear b1 bw y1
  go_wp2_with fail
  go_region_law (first | (refine step_callG (by rfl) 29 Tryd.func29 (by decide +kernel) (by rfl) _ _ (by rfl) (vals := #[]) (by rfl) (impl_faultNames _) ?_; rintro e w2 ⟨rfl, hw⟩; have b2 : Below w1.heap.size w1 w2 := (by rw [hw]; exact (Below.refl _ _).drew.alloc (Nat.le_refl _) _); have y2 : w2.heap[w1.heap.size]? = some (.cells #[.string ⟨(fwL 0).toArray⟩, .string ⟨(fwL 1).toArray⟩, .string ⟨(fwL 2).toArray⟩, .string ⟨(fwL 3).toArray⟩] 9) := (by rw [hw]; exact heap_last _ _); have n2 : w2.cell? ⟨w1.heap.size, k.toNat, none⟩ = some (.string ⟨(fwL k).toArray⟩) := (by rw [cell_blk y2]; exact names_at k0 k1); have n2l : w1.heap.size < w2.heap.size := (Array.getElem?_eq_some_iff.1 y2).1; have z0' := (b2.cell lt0).trans z0; have z1' := (b2.cell lt0).trans z1; have z2l : w.heap.size < w2.heap.size := (by omega); have B2 := Lib.hid b2; clear hw y2 b2 z0 z1; have z0 := z0'; have z1 := z1'; clear z0' z1'; refine ⟨_, rfl, ?_⟩) | (refine step_callG (by rfl) 36 Tryd.func36 (by decide +kernel) (by rfl) _ _ (by rfl) (vals := #[.int .i64 l]) (by rfl) (impl_Decimal _ _ (by omega) (by omega) (tab_keep HT1.out B2.out)) ?_; rintro e w3 ⟨rfl, b3⟩; have BW3 := Lib.hid (Below.trans_size BW.out (Below.trans_size B2.out b3)); have n3 := (b3.cell n2l).trans n2; have z0' := (b3.cell z2l).trans z0; have z1' := (b3.cell z2l).trans z1; clear z0 z1 b3 n2; have z0 := z0'; have z1 := z1'; clear z0' z1'; refine ⟨_, rfl, ?_⟩))
  all_goals (
  clear ha hb
  go_wp2_with fail
  go_ret
  exact ⟨by rw [HL.out, ← str_app, ← str_app]; rfl, BW3.out⟩)
end Go.Proofs.YtkhjmokjbiepgaaDoor
