/- The law FnExactMatchOf returns true for every input, and its arguments read afterwards as they read before: no condition. -/
import Derived.Test.YtaipfcbphfjgoaaMof
import Derived.OpenShut
import Derived.ShutString
import Derived.ChangeOld
import Derived.Below
namespace Go.Proofs.Ytaipfcbphfjgoaa.fnExactMatchOf
open Go.ChangeShapes Go.WideShapes Go.ChangeAt Go.RowKit
open Go.ChangeMaps (open_string shut_string)
set_option linter.unusedVariables false

theorem own : ownKnob Try.prog.godebug = none := by kernel_rfl
theorem laidOut : laidOutB Try.prog = true := by kernel_rfl

set_option maxHeartbeats 1000000 in
theorem walk (a0 : Option Addr) (len0 cap0 : Nat) (z0 : List Int) (a1 : Int) (w : World) (w0 : IsRec w a0 len0 cap0 z0) (w1 : (Lit.int .i64 a1).wf = true) :
    Calls Try.prog 8 #[.slice a0 len0 cap0, .int .i64 a1] w fun e w' => e = .returned (.bool true) ∧ Below w.heap.size w w' := by
  obtain ⟨lL, -⟩ := w0.len_le
  have W0 := Lib.hid w0; clear w0
  by_cases h0 : (len0 : Int) ≤ 1048576
  · generalize hZ0 : z0.take (len0 * 2) = Z0 at *
    have HZ0 := Lib.hid hZ0; clear hZ0
    go_enter Try.func8, Try.ntmps8
    go_wp2_with fail
    refine (laws_szRS _ _ _ _ _ lL (by omega) (by omega)).mono ?_; rintro e w' ⟨rfl, rfl⟩
    rw [if_pos h0]
    go_wp2_with fail
    refine (laws_toRS _ _ _ _ _ W0.out (by omega)).mono ?_; rintro e w1 ⟨v1, rfl, o1, b1⟩
    rw [HZ0.out] at o1
    have P1 := Lib.hid o1; have B1 := Lib.hid b1; clear o1 b1
    go_wp2_with fail
    refine (spec_MatchOf a1 _ P1.out (by omega)).mono ?_; rintro e w3 ⟨rfl, b3⟩
    have B3 := Lib.hid (Below.trans_size B1.out b3); clear b3
    go_wp2_with fail
    refine (laws_toRS _ _ _ _ _ (W0.out.below B3.out) (by omega)).mono ?_; rintro e w4 ⟨x4, rfl, o4, b4⟩
    rw [HZ0.out] at o4
    have X4 := Lib.hid o4; have B4 := Lib.hid (Below.trans_size B3.out b4); clear o4 b4
    go_wp2_with fail
    refine (impl_MatchOf a1 _ X4.out (by omega)).mono ?_; rintro e w6 ⟨rfl, b6⟩
    have X6 := Lib.hid (recr_keep b6 X4.out); have B6 := Lib.hid (Below.trans_size B4.out b6); clear b6
    generalize mofV Z0 a1 = bb at *
    generalize mofC Z0 a1 = cc at *
    go_wp2_with fail
    refine (laws_toRS _ _ _ _ _ (W0.out.below B6.out) (by omega)).mono ?_; rintro e w7 ⟨p7, rfl, o7, b7⟩
    rw [HZ0.out] at o7
    have P7 := Lib.hid o7; have X7 := Lib.hid (recr_keep b7 X6.out); have B7 := Lib.hid (Below.trans_size B6.out b7); clear o7 b7
    go_wp2_with fail
    refine (laws_eqRS _ X7.out P7.out).mono ?_; rintro e w8 ⟨rfl, b8⟩
    have B8 := Lib.hid (Below.trans_size B7.out b8); clear b8
    go_wp2_with fail
    go_ret
    exact ⟨rfl, B8.out⟩
  · go_enter Try.func8, Try.ntmps8
    go_wp2_with fail
    refine (laws_szRS _ _ _ _ _ lL (by omega) (by omega)).mono ?_; rintro e w' ⟨rfl, rfl⟩
    rw [if_neg (Int.not_le.2 h0)]
    go_wp2_with fail
    go_ret
    exact ⟨rfl, Below.refl _ _⟩

set_option maxRecDepth 100000 in
theorem lifted (os : Os) (started : os.Started) (H : Type) (enc : TypeId × Value → H) :
    ReturnsInHanded {} Try.checked os 8 .any (Rows.fnExactMatchOfSpec.pre6 enc Try.prog Try.f8 Rows.fnExactMatchOfRow.domain false) (Rows.fnExactMatchOfSpec.post enc Try.prog Try.f8 false true false false) := by
  refine returnsInHanded_of_change (C := Try.checked) own started (by kernel_rfl) Try.func8
    (ChangeSpec.witness6 (enc := enc) (C := Try.checked) false ⟨#[], #[.slice none 0 0, .int .i64 0], []⟩ 8 (by kernel_rfl) (by kernel_rfl) (by kernel_rfl) (by kernel_rfl)) ?_
  intro W base args ds gs before hval0 hW hcnd _
  have hval : ∀ (j : Nat) t v, Try.f8.params[j]? = some t → args[j]? = some v → Value.okWide Try.prog W .any base t v := hval0
  have hW' := hW
  obtain ⟨p, q, hA0, hV, rfl, hfz, hnd⟩ := hW
  have hA : DataW.TrodAll enc Try.prog W 0 (fun _ => true) true Try.f8.params.toList args.toList ds p := hA0
  rw [Try.params8] at hA hval
  obtain ⟨v0, vs0, d0, ds0, p0, q0, hargs, rfl, rfl, h0, r0⟩ := trodAll_cons hA
  obtain ⟨v1, vs1, d1, ds1, p1, q1, rfl, rfl, rfl, h1, r1⟩ := trodAll_cons r0
  obtain ⟨rfl, rfl, rfl⟩ := trodAll_nil r1
  obtain rfl : args = #[v0, v1] := by cases args; simp_all
  obtain ⟨rfl, rfl⟩ := trodVars_none hV
  obtain ⟨a0, len0, cap0, rfl⟩ := okWide_slice Try.underlying22 (hval 0 22 v0 rfl rfl)
  have k0 := h0
  have lt0 : ∀ x ∈ p0, x.block < W.heap.size := by obtain ⟨m, hm⟩ := k0; exact DataW.trod_lt m _ _ _ hm
  obtain ⟨z0, w0⟩ : ∃ zs, IsRec W a0 len0 cap0 zs := by
    obtain ⟨fuel, hf⟩ := h0
    obtain ⟨a, l, c, zs, hcs, hr⟩ := open_recs Try.underlying22 Try.underlying49 (by kernel_rfl) (fun i hi => by
      match i, hi with
      | 0, _ => exact ⟨_, rfl, rfl, Try.underlying2, by kernel_rfl⟩
      | 1, _ => exact ⟨_, rfl, rfl, Try.underlying2, by kernel_rfl⟩) hf
    simp [Value.cells] at hcs
    obtain ⟨rfl, rfl, rfl⟩ := hcs
    exact ⟨zs, hr⟩
  have k1 := h1
  have lt1 : ∀ x ∈ p1, x.block < W.heap.size := by obtain ⟨m, hm⟩ := k1; exact DataW.trod_lt m _ _ _ hm
  obtain ⟨a1, rfl, rfl, rfl, w1⟩ := open_int Try.underlying2 (hval 1 2 v1 rfl rfl) h1
  clear hA0 hval0
  refine (walk a0 len0 cap0 z0 a1 W w0 w1).mono fun e W' ⟨he, bel⟩ => ?_
  subst he
  exact ⟨_, rfl, _, _, _, [], _, [], hW', trodAll_mk1 (shut_bool Try.underlying4 _), (trodAll_cons_mk (Below.trod laidOut (by kernel_rfl) (of_decide_eq_true (by kernel_rfl)) k0 bel lt0) (trodAll_cons_mk (Below.trod laidOut (by kernel_rfl) (of_decide_eq_true (by kernel_rfl)) k1 bel lt1) trodAll_mk0)), rfl, bel.frame _, fun h => by cases h⟩

theorem over : Rows.fnExactMatchOfRow.holds Try.pinned (OpenSpec.ofChange Rows.fnExactMatchOfSpec) :=
  OpenClaim.holds_of_wide 8 Try.f8 rfl rfl rfl rfl rfl rfl rfl ⟨rfl, rfl, rfl, rfl, rfl⟩ rfl rfl rfl rfl rfl (by kernel_rfl) Try.func8 (by kernel_rfl)
    (of_decide_eq_true (by kernel_rfl)) (by unfold Func.isWrapper; first | (rw [if_pos (by decide +kernel)]; kernel_rfl) | (rw [if_neg (by decide +kernel)]; exact ⟨rfl, rfl⟩))
    (fun os started H enc _ => lifted os started H enc)

theorem proved : Rows.FnExactMatchOfSaid := over
#print axioms proved
end Go.Proofs.Ytaipfcbphfjgoaa.fnExactMatchOf
