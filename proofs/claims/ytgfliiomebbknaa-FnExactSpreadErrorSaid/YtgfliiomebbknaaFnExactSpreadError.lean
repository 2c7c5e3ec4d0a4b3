/- The law FnExactSpreadError returns true for every input, and its arguments read afterwards as they read before: no condition. -/
import Derived.Test.YtgfliiomebbknaaGuard
import Derived.OpenShut
import Derived.ShutString
import Derived.ChangeOld
import Derived.Below
namespace Go.Proofs.Ytgfliiomebbknaa.fnExactSpreadError
open Go.ChangeShapes Go.WideShapes Go.ChangeAt Go.RowKit
open Go.ChangeMaps (open_string shut_string)
set_option linter.unusedVariables false

theorem own : ownKnob Try.prog.godebug = none := by kernel_rfl
theorem laidOut : laidOutB Try.prog = true := by kernel_rfl

theorem walk (a0 : Int) (a1 : Int) (w : World) (w0 : (Lit.int .i64 a0).wf = true) (w1 : (Lit.int .i64 a1).wf = true) :
    Calls Try.prog 10 #[.int .i64 a0, .int .i64 a1] w fun e w' => e = .returned (.bool true) ∧ Below w.heap.size w w' := by
  have hl := splR_len a0 a1
  go_enter Try.func10, Try.ntmps10
  go_wp2_with fail
  refine (spec_SpreadError _ _ _).mono ?_; rintro e w1 ⟨v1, rfl, o1, b1⟩
  have O1 := Lib.hid o1; have B1 := Lib.hid b1; clear o1 b1
  go_wp2_with fail
  refine (impl_SpreadError _ _ _).mono ?_; rintro e w2 ⟨v2, rfl, o2, b2⟩
  have O2 := Lib.hid o2; have O12 := Lib.hid (own_keep b2 O1.out); have B2 := Lib.hid (Below.trans_size B1.out b2); clear o2 b2
  have S1 := Lib.hid B1.out.size
  go_wp2_with fail
  refine (laws_eqInt64S _ O2.out O12.out).mono ?_; rintro e w3 ⟨rfl, b3⟩
  have O3 := Lib.hid (own_keep b3 O2.out); have O13 := Lib.hid (own_keep b3 O12.out); have B3 := Lib.hid (Below.trans_size B2.out b3); clear b3
  go_wp2_with fail
  refine (laws_markInt64S _ 1 O3.out (by omega) (by omega) (by omega)).mono ?_; rintro e w4 ⟨rfl, o4, g4⟩
  have O4 := Lib.hid o4; have O14 := Lib.hid (own_grown O13.out g4 (own_apart O1.out O3.out (Nat.le_refl _)))
  have B4 := Lib.hid (grown_below B3.out O3.out g4 S1.out B3.out.size); clear o4 g4
  go_wp2_with fail
  refine (laws_heldInt64S _ 1 _ O4.out (by omega) (by omega) (by omega)).mono ?_; rintro e w5 ⟨rfl, rfl⟩
  go_wp2_with fail
  refine (impl_SpreadError _ _ _).mono ?_; rintro e w6 ⟨v6, rfl, o6, b6⟩
  have O6 := Lib.hid o6; have O46 := Lib.hid (own_keep b6 O4.out); have O16 := Lib.hid (own_keep b6 O14.out); have B6 := Lib.hid (Below.trans_size B4.out b6); clear o6 b6
  go_wp2_with fail
  refine (laws_eqInt64S _ O6.out O16.out).mono ?_; rintro e w7 ⟨rfl, b7⟩
  have O47 := Lib.hid (own_keep b7 O46.out); have B7 := Lib.hid (Below.trans_size B6.out b7); clear b7
  go_wp2_with fail
  refine (laws_heldInt64S _ 1 _ O47.out (by omega) (by omega) (by omega)).mono ?_; rintro e w8 ⟨rfl, rfl⟩
  go_wp2_with fail
  go_ret
  exact ⟨rfl, B7.out⟩

set_option maxRecDepth 100000 in
theorem lifted (os : Os) (started : os.Started) (H : Type) (enc : TypeId × Value → H) :
    ReturnsInHanded {} Try.checked os 10 .any (Rows.fnExactSpreadErrorSpec.pre6 enc Try.prog Try.f10 Rows.fnExactSpreadErrorRow.domain false) (Rows.fnExactSpreadErrorSpec.post enc Try.prog Try.f10 false true false false) := by
  refine returnsInHanded_of_change (C := Try.checked) own started (by kernel_rfl) Try.func10
    (ChangeSpec.witness6 (enc := enc) (C := Try.checked) false ⟨#[], #[.int .i64 0, .int .i64 0], []⟩ 8 (by kernel_rfl) (by kernel_rfl) (by kernel_rfl) (by kernel_rfl)) ?_
  intro W base args ds gs before hval0 hW hcnd _
  have hval : ∀ (j : Nat) t v, Try.f10.params[j]? = some t → args[j]? = some v → Value.okWide Try.prog W .any base t v := hval0
  have hW' := hW
  obtain ⟨p, q, hA0, hV, rfl, hfz, hnd⟩ := hW
  have hA : DataW.TrodAll enc Try.prog W 0 (fun _ => true) true Try.f10.params.toList args.toList ds p := hA0
  rw [Try.params10] at hA hval
  obtain ⟨v0, vs0, d0, ds0, p0, q0, hargs, rfl, rfl, h0, r0⟩ := trodAll_cons hA
  obtain ⟨v1, vs1, d1, ds1, p1, q1, rfl, rfl, rfl, h1, r1⟩ := trodAll_cons r0
  obtain ⟨rfl, rfl, rfl⟩ := trodAll_nil r1
  obtain rfl : args = #[v0, v1] := by cases args; simp_all
  obtain ⟨rfl, rfl⟩ := trodVars_none hV
  have k0 := h0
  have lt0 : ∀ x ∈ p0, x.block < W.heap.size := by obtain ⟨m, hm⟩ := k0; exact DataW.trod_lt m _ _ _ hm
  obtain ⟨a0, rfl, rfl, rfl, w0⟩ := open_int Try.underlying2 (hval 0 2 v0 rfl rfl) h0
  have k1 := h1
  have lt1 : ∀ x ∈ p1, x.block < W.heap.size := by obtain ⟨m, hm⟩ := k1; exact DataW.trod_lt m _ _ _ hm
  obtain ⟨a1, rfl, rfl, rfl, w1⟩ := open_int Try.underlying2 (hval 1 2 v1 rfl rfl) h1
  clear hA0 hval0
  refine (walk a0 a1 W w0 w1).mono fun e W' ⟨he, bel⟩ => ?_
  subst he
  exact ⟨_, rfl, _, _, _, [], _, [], hW', trodAll_mk1 (shut_bool Try.underlying4 _), (trodAll_cons_mk (Below.trod laidOut (by kernel_rfl) (of_decide_eq_true (by kernel_rfl)) k0 bel lt0) (trodAll_cons_mk (Below.trod laidOut (by kernel_rfl) (of_decide_eq_true (by kernel_rfl)) k1 bel lt1) trodAll_mk0)), rfl, bel.frame _, fun h => by cases h⟩

theorem over : Rows.fnExactSpreadErrorRow.holds Try.pinned (OpenSpec.ofChange Rows.fnExactSpreadErrorSpec) :=
  OpenClaim.holds_of_wide 10 Try.f10 rfl rfl rfl rfl rfl rfl rfl ⟨rfl, rfl, rfl, rfl, rfl⟩ rfl rfl rfl rfl rfl (by kernel_rfl) Try.func10 (by kernel_rfl)
    (of_decide_eq_true (by kernel_rfl)) (by unfold Func.isWrapper; first | (rw [if_pos (by decide +kernel)]; kernel_rfl) | (rw [if_neg (by decide +kernel)]; exact ⟨rfl, rfl⟩))
    (fun os started H enc _ => lifted os started H enc)

theorem proved : Rows.FnExactSpreadErrorSaid := over
#print axioms proved
end Go.Proofs.Ytgfliiomebbknaa.fnExactSpreadError
