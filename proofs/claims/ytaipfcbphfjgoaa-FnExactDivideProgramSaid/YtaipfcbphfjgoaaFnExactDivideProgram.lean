/- The law FnExactDivideProgram returns true for every input, and its arguments read afterwards as they read before: no condition. -/
import Derived.Test.YtaipfcbphfjgoaaDiv
import Derived.OpenShut
import Derived.ShutString
import Derived.ChangeOld
import Derived.Below
namespace Go.Proofs.Ytaipfcbphfjgoaa.fnExactDivideProgram
open Go.ChangeShapes Go.WideShapes Go.ChangeAt Go.RowKit
open Go.ChangeMaps (open_string shut_string)
set_option linter.unusedVariables false

theorem own : ownKnob Try.prog.godebug = none := by kernel_rfl
theorem laidOut : laidOutB Try.prog = true := by kernel_rfl

theorem len_n (a0 : Int) : dvN a0 ≤ 1000 := by
  unfold dvN
  split
  · rename_i h
    have := inB_iff.1 h
    have := cntT_le a0.toNat
    unfold divN frontN
    split <;> omega
  · omega
set_option maxHeartbeats 1000000 in
theorem walk (a0 : Int) (w : World) (w0 : (Lit.int .i64 a0).wf = true) :
    Calls Try.prog 4 #[.int .i64 a0] w fun e w' => e = .returned (.bool true) ∧ Below w.heap.size w w' := by
  have hLn := len_n a0
  have S := Lib.hid (fun wx => spec_DivideProgram a0 wx)
  have I := Lib.hid (fun wx => impl_DivideProgram a0 wx)
  generalize dvL a0 = L at S I
  generalize dvN a0 = n at S I hLn
  generalize dvC a0 = cc at S I
  go_enter Try.func4, Try.ntmps4
  go_wp2_with fail
  refine (S.out _).mono ?_; rintro e w1 ⟨v1, rfl, o1, b1⟩
  have R1 := Lib.hid o1; have B1 := Lib.hid b1; have s1 := b1.size; clear o1 b1
  go_wp2_with fail
  refine (I.out _).mono ?_; rintro e w2 ⟨v2, rfl, o2, b2⟩
  have GR := Lib.hid (apart_lt (a := v1) (b := v2) (fun k hk => (recr_block_lt R1.out k hk).2) (fun k hk => (recr_block_lt o2 k hk).1) (Nat.le_refl _))
  have R2 := Lib.hid (recr_keep b2 R1.out); have G2 := Lib.hid o2; have B2 := Lib.hid (Below.trans_size B1.out b2); have s2 := b2.size; clear o2 b2
  go_wp2_with fail
  refine (laws_eqRS _ G2.out R2.out).mono ?_; rintro e w3 ⟨rfl, b3⟩
  have R3 := Lib.hid (recr_keep b3 R2.out); have G3 := Lib.hid (recr_keep b3 G2.out); have B3 := Lib.hid (Below.trans_size B2.out b3); have s3 := b3.size; clear b3
  go_wp2_with fail
  refine (laws_markRS _ 1 G3.out (by omega) (by omega) (by omega)).mono ?_; rintro e w4 ⟨rfl, o4, g4⟩
  have R4 := Lib.hid (recr_apart_grown R3.out g4 (GR.out.symm)); have G4 := Lib.hid o4; have B4 := Lib.hid (recr_grown_below B3.out G3.out g4 (by omega) (by omega)); have s4 := g4.size; clear o4 g4
  go_wp2_with fail
  refine (laws_heldRS _ 1 n G4.out (by omega) (by omega) (by omega)).mono ?_; rintro e w5 ⟨rfl, rfl⟩
  go_wp2_with fail
  refine (I.out _).mono ?_; rintro e w6 ⟨v6, rfl, o6, b6⟩
  have R6 := Lib.hid (recr_keep b6 R4.out); have G6 := Lib.hid (recr_keep b6 G4.out); have H6 := Lib.hid o6; have B6 := Lib.hid (Below.trans_size B4.out b6); have s6 := b6.size; clear o6 b6
  go_wp2_with fail
  refine (laws_eqRS _ H6.out R6.out).mono ?_; rintro e w7 ⟨rfl, b7⟩
  have G7 := Lib.hid (recr_keep b7 G6.out); have B7 := Lib.hid (Below.trans_size B6.out b7); have s7 := b7.size; clear b7
  go_wp2_with fail
  refine (laws_heldRS _ 1 n G7.out (by omega) (by omega) (by omega)).mono ?_; rintro e w8 ⟨rfl, rfl⟩
  go_wp2_with fail
  go_ret
  exact ⟨rfl, B7.out⟩

set_option maxRecDepth 100000 in
theorem lifted (os : Os) (started : os.Started) (H : Type) (enc : TypeId × Value → H) :
    ReturnsInHanded {} Try.checked os 4 .any (Rows.fnExactDivideProgramSpec.pre6 enc Try.prog Try.f4 Rows.fnExactDivideProgramRow.domain false) (Rows.fnExactDivideProgramSpec.post enc Try.prog Try.f4 false true false false) := by
  refine returnsInHanded_of_change (C := Try.checked) own started (by kernel_rfl) Try.func4
    (ChangeSpec.witness6 (enc := enc) (C := Try.checked) false ⟨#[], #[.int .i64 0], []⟩ 8 (by kernel_rfl) (by kernel_rfl) (by kernel_rfl) (by kernel_rfl)) ?_
  intro W base args ds gs before hval0 hW hcnd _
  have hval : ∀ (j : Nat) t v, Try.f4.params[j]? = some t → args[j]? = some v → Value.okWide Try.prog W .any base t v := hval0
  have hW' := hW
  obtain ⟨p, q, hA0, hV, rfl, hfz, hnd⟩ := hW
  have hA : DataW.TrodAll enc Try.prog W 0 (fun _ => true) true Try.f4.params.toList args.toList ds p := hA0
  rw [Try.params4] at hA hval
  obtain ⟨v0, vs0, d0, ds0, p0, q0, hargs, rfl, rfl, h0, r0⟩ := trodAll_cons hA
  obtain ⟨rfl, rfl, rfl⟩ := trodAll_nil r0
  obtain rfl : args = #[v0] := by cases args; simp_all
  obtain ⟨rfl, rfl⟩ := trodVars_none hV
  have k0 := h0
  have lt0 : ∀ x ∈ p0, x.block < W.heap.size := by obtain ⟨m, hm⟩ := k0; exact DataW.trod_lt m _ _ _ hm
  obtain ⟨a0, rfl, rfl, rfl, w0⟩ := open_int Try.underlying2 (hval 0 2 v0 rfl rfl) h0
  clear hA0 hval0
  refine (walk a0 W w0).mono fun e W' ⟨he, bel⟩ => ?_
  subst he
  exact ⟨_, rfl, _, _, _, [], _, [], hW', trodAll_mk1 (shut_bool Try.underlying4 _), (trodAll_cons_mk (Below.trod laidOut (by kernel_rfl) (of_decide_eq_true (by kernel_rfl)) k0 bel lt0) trodAll_mk0), rfl, bel.frame _, fun h => by cases h⟩

theorem over : Rows.fnExactDivideProgramRow.holds Try.pinned (OpenSpec.ofChange Rows.fnExactDivideProgramSpec) :=
  OpenClaim.holds_of_wide 4 Try.f4 rfl rfl rfl rfl rfl rfl rfl ⟨rfl, rfl, rfl, rfl, rfl⟩ rfl rfl rfl rfl rfl (by kernel_rfl) Try.func4 (by kernel_rfl)
    (of_decide_eq_true (by kernel_rfl)) (by unfold Func.isWrapper; first | (rw [if_pos (by decide +kernel)]; kernel_rfl) | (rw [if_neg (by decide +kernel)]; exact ⟨rfl, rfl⟩))
    (fun os started H enc _ => lifted os started H enc)

theorem proved : Rows.FnExactDivideProgramSaid := over
#print axioms proved
end Go.Proofs.Ytaipfcbphfjgoaa.fnExactDivideProgram
