/- The law FnExactTableFault returns true for every input, and its arguments read afterwards as they read before: no condition. -/
import Derived.Test.YtcooabjcikcpiaaAdt4
import Derived.OpenShut
import Derived.ShutString
import Derived.ChangeOld
import Derived.Below
namespace Go.Proofs.Ytcooabjcikcpiaa.fnExactTableFault
open Go.ChangeShapes Go.WideShapes Go.ChangeAt Go.RowKit
open Go.ChangeMaps (open_string shut_string)
set_option linter.unusedVariables false

theorem own : ownKnob Try.prog.godebug = none := by kernel_rfl
theorem laidOut : laidOutB Try.prog = true := by kernel_rfl

set_option maxHeartbeats 1000000 in
theorem walk (a0 : Int) (a1 : Option Addr) (len1 cap1 : Nat) (z1 : List Int) (w : World) (w0 : (Lit.int .i64 a0).wf = true) (w1 : IsRec w a1 len1 cap1 z1) :
    Calls Try.prog 6 #[.int .i64 a0, .slice a1 len1 cap1] w fun e w' => e = .returned (.bool true) ∧ Below w.heap.size w w' := by
  obtain ⟨lL, -⟩ := w1.len_le
  have W1 := Lib.hid w1; clear w1
  by_cases h0 : (len1 : Int) ≤ 1048576
  · generalize hZ0 : z1.take (len1 * 5) = Z0 at *
    have HZ0 := Lib.hid hZ0; clear hZ0
    go_enter Try.func6, Try.ntmps6
    go_wp2_with fail
    refine (laws_szRS _ _ _ _ _ lL (by omega) (by omega)).mono ?_; rintro e w' ⟨rfl, rfl⟩
    rw [if_pos h0]
    go_wp2_with fail
    refine (laws_toRS _ _ _ _ _ W1.out (by omega)).mono ?_; rintro e w1 ⟨v1, rfl, o1, b1⟩
    rw [HZ0.out] at o1
    have P1 := Lib.hid o1; have B1 := Lib.hid b1; clear o1 b1
    go_wp2_with fail
    refine (spec_TableFault a0 _ P1.out (by omega)).mono ?_; rintro e w3 ⟨rfl, b3⟩
    have B3 := Lib.hid (Below.trans_size B1.out b3); clear b3
    go_wp2_with fail
    refine (laws_toRS _ _ _ _ _ (W1.out.below B3.out) (by omega)).mono ?_; rintro e w4 ⟨x4, rfl, o4, b4⟩
    rw [HZ0.out] at o4
    have X4 := Lib.hid o4; have B4 := Lib.hid (Below.trans_size B3.out b4); clear o4 b4
    go_wp2_with fail
    refine (impl_TableFault a0 _ X4.out (by omega)).mono ?_; rintro e w6 ⟨rfl, b6⟩
    have X6 := Lib.hid (recr_keep b6 X4.out); have B6 := Lib.hid (Below.trans_size B4.out b6); clear b6
    generalize tfV a0 Z0 = bb at *
    generalize tfC a0 Z0 = cc at *
    go_wp2_with fail
    refine (laws_toRS _ _ _ _ _ (W1.out.below B6.out) (by omega)).mono ?_; rintro e w7 ⟨p7, rfl, o7, b7⟩
    rw [HZ0.out] at o7
    have P7 := Lib.hid o7; have X7 := Lib.hid (recr_keep b7 X6.out); have B7 := Lib.hid (Below.trans_size B6.out b7); clear o7 b7
    go_wp2_with fail
    refine (laws_eqRS _ X7.out P7.out).mono ?_; rintro e w8 ⟨rfl, b8⟩
    have B8 := Lib.hid (Below.trans_size B7.out b8); clear b8
    go_wp2_with fail
    go_ret
    exact ⟨rfl, B8.out⟩
  · go_enter Try.func6, Try.ntmps6
    go_wp2_with fail
    refine (laws_szRS _ _ _ _ _ lL (by omega) (by omega)).mono ?_; rintro e w' ⟨rfl, rfl⟩
    rw [if_neg (Int.not_le.2 h0)]
    go_wp2_with fail
    go_ret
    exact ⟨rfl, Below.refl _ _⟩

set_option maxRecDepth 100000 in
theorem lifted (os : Os) (started : os.Started) (H : Type) (enc : TypeId × Value → H) :
    ReturnsInHanded {} Try.checked os 6 .any (Rows.fnExactTableFaultSpec.pre6 enc Try.prog Try.f6 Rows.fnExactTableFaultRow.domain false) (Rows.fnExactTableFaultSpec.post enc Try.prog Try.f6 false true false false) := by
  refine returnsInHanded_of_change (C := Try.checked) own started (by kernel_rfl) Try.func6
    (ChangeSpec.witness6 (enc := enc) (C := Try.checked) false ⟨#[], #[.int .i64 0, .slice none 0 0], []⟩ 8 (by kernel_rfl) (by kernel_rfl) (by kernel_rfl) (by kernel_rfl)) ?_
  intro W base args ds gs before hval0 hW hcnd _
  have hval : ∀ (j : Nat) t v, Try.f6.params[j]? = some t → args[j]? = some v → Value.okWide Try.prog W .any base t v := hval0
  have hW' := hW
  obtain ⟨p, q, hA0, hV, rfl, hfz, hnd⟩ := hW
  have hA : DataW.TrodAll enc Try.prog W 0 (fun _ => true) true Try.f6.params.toList args.toList ds p := hA0
  rw [Try.params6] at hA hval
  obtain ⟨v0, vs0, d0, ds0, p0, q0, hargs, rfl, rfl, h0, r0⟩ := trodAll_cons hA
  obtain ⟨v1, vs1, d1, ds1, p1, q1, rfl, rfl, rfl, h1, r1⟩ := trodAll_cons r0
  obtain ⟨rfl, rfl, rfl⟩ := trodAll_nil r1
  obtain rfl : args = #[v0, v1] := by cases args; simp_all
  obtain ⟨rfl, rfl⟩ := trodVars_none hV
  have k0 := h0
  have lt0 : ∀ x ∈ p0, x.block < W.heap.size := by obtain ⟨m, hm⟩ := k0; exact DataW.trod_lt m _ _ _ hm
  obtain ⟨a0, rfl, rfl, rfl, w0⟩ := open_int Try.underlying2 (hval 0 2 v0 rfl rfl) h0
  obtain ⟨a1, len1, cap1, rfl⟩ := okWide_slice Try.underlying46 (hval 1 46 v1 rfl rfl)
  have k1 := h1
  have lt1 : ∀ x ∈ p1, x.block < W.heap.size := by obtain ⟨m, hm⟩ := k1; exact DataW.trod_lt m _ _ _ hm
  obtain ⟨z1, w1⟩ : ∃ zs, IsRec W a1 len1 cap1 zs := by
    obtain ⟨fuel, hf⟩ := h1
    obtain ⟨a, l, c, zs, hcs, hr⟩ := open_recs Try.underlying46 Try.underlying77 (by kernel_rfl) (fun i hi => by
      match i, hi with
      | 0, _ => exact ⟨_, rfl, rfl, Try.underlying2, by kernel_rfl⟩
      | 1, _ => exact ⟨_, rfl, rfl, Try.underlying2, by kernel_rfl⟩
      | 2, _ => exact ⟨_, rfl, rfl, Try.underlying2, by kernel_rfl⟩
      | 3, _ => exact ⟨_, rfl, rfl, Try.underlying2, by kernel_rfl⟩
      | 4, _ => exact ⟨_, rfl, rfl, Try.underlying2, by kernel_rfl⟩) hf
    simp [Value.cells] at hcs
    obtain ⟨rfl, rfl, rfl⟩ := hcs
    exact ⟨zs, hr⟩
  clear hA0 hval0
  refine (walk a0 a1 len1 cap1 z1 W w0 w1).mono fun e W' ⟨he, bel⟩ => ?_
  subst he
  exact ⟨_, rfl, _, _, _, [], _, [], hW', trodAll_mk1 (shut_bool Try.underlying4 _), (trodAll_cons_mk (Below.trod laidOut (by kernel_rfl) (of_decide_eq_true (by kernel_rfl)) k0 bel lt0) (trodAll_cons_mk (Below.trod laidOut (by kernel_rfl) (of_decide_eq_true (by kernel_rfl)) k1 bel lt1) trodAll_mk0)), rfl, bel.frame _, fun h => by cases h⟩

theorem over : Rows.fnExactTableFaultRow.holds Try.pinned (OpenSpec.ofChange Rows.fnExactTableFaultSpec) :=
  OpenClaim.holds_of_wide 6 Try.f6 rfl rfl rfl rfl rfl rfl rfl ⟨rfl, rfl, rfl, rfl, rfl⟩ rfl rfl rfl rfl rfl (by kernel_rfl) Try.func6 (by kernel_rfl)
    (of_decide_eq_true (by kernel_rfl)) (by unfold Func.isWrapper; first | (rw [if_pos (by decide +kernel)]; kernel_rfl) | (rw [if_neg (by decide +kernel)]; exact ⟨rfl, rfl⟩))
    (fun os started H enc _ => lifted os started H enc)

theorem proved : Rows.FnExactTableFaultSaid := over
#print axioms proved
end Go.Proofs.Ytcooabjcikcpiaa.fnExactTableFault
