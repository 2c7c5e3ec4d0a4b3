/- The law FnExactFlatStrokes returns true for every input, and its arguments read afterwards as they read before: no condition. -/
import Derived.Test.YtaipfcbphfjgoaaFsk
import Derived.OpenShut
import Derived.ShutString
import Derived.ChangeOld
import Derived.Below
namespace Go.Proofs.Ytaipfcbphfjgoaa.fnExactFlatStrokes
open Go.ChangeShapes Go.WideShapes Go.ChangeAt Go.RowKit
open Go.ChangeMaps (open_string shut_string)
set_option linter.unusedVariables false

theorem own : ownKnob Try.prog.godebug = none := by kernel_rfl
theorem laidOut : laidOutB Try.prog = true := by kernel_rfl

set_option maxHeartbeats 1000000 in
theorem walk (a0 : Option Addr) (len0 cap0 : Nat) (z0 : List Int) (w : World) (w0 : IsRec w a0 len0 cap0 z0) :
    Calls Try.prog 9 #[.slice a0 len0 cap0] w fun e w' => e = .returned (.bool true) ∧ Below w.heap.size w w' := by
  obtain ⟨lL, -⟩ := w0.len_le
  have W0 := Lib.hid w0; clear w0
  by_cases h0 : (len0 : Int) ≤ 1048576
  rotate_left
  · go_enter Try.func9, Try.ntmps9
    go_wp2_with fail
    refine (laws_szRS _ _ _ _ _ lL (by omega) (by omega)).mono ?_; rintro e w' ⟨rfl, rfl⟩
    rw [if_neg (show ¬ (len0 : Int) ≤ 1048576 by omega)]
    go_wp2_with fail
    go_ret
    exact ⟨rfl, Below.refl _ _⟩
  have hlen : len0 ≤ 1048576 := by omega
  have hLn := fsL_len (z0.take (len0 * 2)) len0
  generalize hZ0 : z0.take (len0 * 2) = Z at *
  have HZ := Lib.hid hZ0; clear hZ0
  have S := Lib.hid (fun (B : Nat) (v : Value) wx (h : OwnR wx B v len0 Z) => spec_FlatStrokes wx h hlen)
  have I := Lib.hid (fun (B : Nat) (v : Value) wx (h : OwnR wx B v len0 Z) => impl_FlatStrokes wx h hlen)
  generalize fsL Z len0 = L at S I hLn
  generalize fsC Z len0 = cc at S I
  go_enter Try.func9, Try.ntmps9
  go_wp2_with fail
  refine (laws_szRS _ _ _ _ _ lL (by omega) (by omega)).mono ?_; rintro e w' ⟨rfl, rfl⟩
  rw [if_pos h0]
  go_wp2_with fail
  refine (laws_toRS _ _ _ _ _ W0.out hlen).mono ?_; rintro e w1 ⟨u1, rfl, o1, b1⟩
  rw [HZ.out] at o1
  have U1 := Lib.hid o1; have B1 := Lib.hid b1; have s1 := b1.size; clear o1 b1
  go_wp2_with fail
  refine (S.out _ _ _ U1.out).mono ?_; rintro e w2 ⟨v2, rfl, o2, b2⟩
  have R2 := Lib.hid o2; have B2 := Lib.hid (Below.trans_size B1.out b2); have s2 := b2.size; clear o2 b2
  go_wp2_with fail
  refine (laws_toRS _ _ _ _ _ (W0.out.below B2.out) hlen).mono ?_; rintro e w3 ⟨x, rfl, o3, b3⟩
  rw [HZ.out] at o3
  have RX := Lib.hid (apart_lt (a := v2) (b := x) (fun k hk => (own_block_lt R2.out k hk).2) (fun k hk => (recr_block_lt o3 k hk).1) (Nat.le_refl _))
  have X3 := Lib.hid o3; have R3 := Lib.hid (own_keep b3 R2.out); have B3 := Lib.hid (Below.trans_size B2.out b3); have s3 := b3.size; clear o3 b3
  go_wp2_with fail
  refine (I.out _ _ _ X3.out).mono ?_; rintro e w4 ⟨g, rfl, o4, b4⟩
  have GR := Lib.hid (apart_lt (a := v2) (b := g) (fun k hk => (own_block_lt R3.out k hk).2) (fun k hk => (own_block_lt o4 k hk).1) (Nat.le_refl _))
  have GX := Lib.hid (apart_lt (a := x) (b := g) (fun k hk => (recr_block_lt X3.out k hk).2) (fun k hk => (own_block_lt o4 k hk).1) (Nat.le_refl _))
  have G4 := Lib.hid o4; have R4 := Lib.hid (own_keep b4 R3.out); have X4 := Lib.hid (recr_keep b4 X3.out); have B4 := Lib.hid (Below.trans_size B3.out b4); have s4 := b4.size; clear o4 b4
  go_wp2_with fail
  refine (laws_eqInt64S _ G4.out R4.out).mono ?_; rintro e w5 ⟨rfl, b5⟩
  have G5 := Lib.hid (own_keep b5 G4.out); have R5 := Lib.hid (own_keep b5 R4.out); have X5 := Lib.hid (recr_keep b5 X4.out); have B5 := Lib.hid (Below.trans_size B4.out b5); have s5 := b5.size; clear b5
  go_wp2_with fail
  refine (laws_toRS _ _ _ _ _ (W0.out.below B5.out) hlen).mono ?_; rintro e w6 ⟨y, rfl, o6, b6⟩
  rw [HZ.out] at o6
  have Y6 := Lib.hid o6; have G6 := Lib.hid (own_keep b6 G5.out); have R6 := Lib.hid (own_keep b6 R5.out); have X6 := Lib.hid (recr_keep b6 X5.out); have B6 := Lib.hid (Below.trans_size B5.out b6); have s6 := b6.size; clear o6 b6
  go_wp2_with fail
  refine (laws_eqRS _ X6.out Y6.out).mono ?_; rintro e w7 ⟨rfl, b7⟩
  have G7 := Lib.hid (own_keep b7 G6.out); have R7 := Lib.hid (own_keep b7 R6.out); have X7 := Lib.hid (recr_keep b7 X6.out); have B7 := Lib.hid (Below.trans_size B6.out b7); have s7 := b7.size; clear b7
  go_wp2_with fail
  refine (laws_markRS _ 1 X7.out (by omega) (by omega) (by omega)).mono ?_; rintro e w8 ⟨rfl, o8, g8⟩
  have G8 := Lib.hid (apart_grown G7.out g8 GX.out); have R8 := Lib.hid (apart_grown R7.out g8 (RX.out.symm)); have B8 := Lib.hid (recr_grown_below B7.out X7.out g8 (by omega) (by omega)); have s8 := g8.size; clear o8 g8
  go_wp2_with fail
  refine (laws_eqInt64S _ G8.out R8.out).mono ?_; rintro e w9 ⟨rfl, b9⟩
  have G9 := Lib.hid (own_keep b9 G8.out); have R9 := Lib.hid (own_keep b9 R8.out); have B9 := Lib.hid (Below.trans_size B8.out b9); have s9 := b9.size; clear b9
  go_wp2_with fail
  refine (laws_markInt64S _ 1 G9.out (by omega) (by omega) (by omega)).mono ?_; rintro e w10 ⟨rfl, o10, g10⟩
  have G10 := Lib.hid o10; have R10 := Lib.hid (apart_grown R9.out g10 (GR.out.symm)); have B10 := Lib.hid (grown_below B9.out G9.out g10 (by omega) (by omega)); have s10 := g10.size; clear o10 g10
  go_wp2_with fail
  refine (laws_heldInt64S _ 1 _ G10.out (by omega) (by omega) (by omega)).mono ?_; rintro e w11 ⟨rfl, rfl⟩
  go_wp2_with fail
  refine (laws_toRS _ _ _ _ _ (W0.out.below B10.out) hlen).mono ?_; rintro e w12 ⟨y2, rfl, o12, b12⟩
  rw [HZ.out] at o12
  have Y12 := Lib.hid o12; have G12 := Lib.hid (own_keep b12 G10.out); have R12 := Lib.hid (own_keep b12 R10.out); have B12 := Lib.hid (Below.trans_size B10.out b12); have s12 := b12.size; clear o12 b12
  go_wp2_with fail
  refine (I.out _ _ _ Y12.out).mono ?_; rintro e w13 ⟨h, rfl, o13, b13⟩
  have H13 := Lib.hid o13; have G13 := Lib.hid (own_keep b13 G12.out); have R13 := Lib.hid (own_keep b13 R12.out); have B13 := Lib.hid (Below.trans_size B12.out b13); have s13 := b13.size; clear o13 b13
  go_wp2_with fail
  refine (laws_eqInt64S _ H13.out R13.out).mono ?_; rintro e w14 ⟨rfl, b14⟩
  have G14 := Lib.hid (own_keep b14 G13.out); have B14 := Lib.hid (Below.trans_size B13.out b14); clear b14
  go_wp2_with fail
  refine (laws_heldInt64S _ 1 _ G14.out (by omega) (by omega) (by omega)).mono ?_; rintro e w15 ⟨rfl, rfl⟩
  go_wp2_with fail
  go_ret
  exact ⟨rfl, B14.out⟩

set_option maxRecDepth 100000 in
theorem lifted (os : Os) (started : os.Started) (H : Type) (enc : TypeId × Value → H) :
    ReturnsInHanded {} Try.checked os 9 .any (Rows.fnExactFlatStrokesSpec.pre6 enc Try.prog Try.f9 Rows.fnExactFlatStrokesRow.domain false) (Rows.fnExactFlatStrokesSpec.post enc Try.prog Try.f9 false true false false) := by
  refine returnsInHanded_of_change (C := Try.checked) own started (by kernel_rfl) Try.func9
    (ChangeSpec.witness6 (enc := enc) (C := Try.checked) false ⟨#[], #[.slice none 0 0], []⟩ 8 (by kernel_rfl) (by kernel_rfl) (by kernel_rfl) (by kernel_rfl)) ?_
  intro W base args ds gs before hval0 hW hcnd _
  have hval : ∀ (j : Nat) t v, Try.f9.params[j]? = some t → args[j]? = some v → Value.okWide Try.prog W .any base t v := hval0
  have hW' := hW
  obtain ⟨p, q, hA0, hV, rfl, hfz, hnd⟩ := hW
  have hA : DataW.TrodAll enc Try.prog W 0 (fun _ => true) true Try.f9.params.toList args.toList ds p := hA0
  rw [Try.params9] at hA hval
  obtain ⟨v0, vs0, d0, ds0, p0, q0, hargs, rfl, rfl, h0, r0⟩ := trodAll_cons hA
  obtain ⟨rfl, rfl, rfl⟩ := trodAll_nil r0
  obtain rfl : args = #[v0] := by cases args; simp_all
  obtain ⟨rfl, rfl⟩ := trodVars_none hV
  obtain ⟨a0, len0, cap0, rfl⟩ := okWide_slice Try.underlying22 (hval 0 22 v0 rfl rfl)
  have k0 := h0
  have lt0 : ∀ x ∈ p0, x.block < W.heap.size := by obtain ⟨m, hm⟩ := k0; exact DataW.trod_lt m _ _ _ hm
  obtain ⟨z0, w0⟩ : ∃ zs, IsRec W a0 len0 cap0 zs := by
    obtain ⟨fuel, hf⟩ := h0
    obtain ⟨a, l, c, zs, hcs, hr⟩ := open_recs Try.underlying22 Try.underlying49 (by kernel_rfl) (fun i hi => by
      match i, hi with
      | 0, _ => exact ⟨_, rfl, rfl, Try.underlying2, by kernel_rfl⟩
      | 1, _ => exact ⟨_, rfl, rfl, Try.underlying2, by kernel_rfl⟩) hf
    simp [Value.cells] at hcs
    obtain ⟨rfl, rfl, rfl⟩ := hcs
    exact ⟨zs, hr⟩
  clear hA0 hval0
  refine (walk a0 len0 cap0 z0 W w0).mono fun e W' ⟨he, bel⟩ => ?_
  subst he
  exact ⟨_, rfl, _, _, _, [], _, [], hW', trodAll_mk1 (shut_bool Try.underlying4 _), (trodAll_cons_mk (Below.trod laidOut (by kernel_rfl) (of_decide_eq_true (by kernel_rfl)) k0 bel lt0) trodAll_mk0), rfl, bel.frame _, fun h => by cases h⟩

theorem over : Rows.fnExactFlatStrokesRow.holds Try.pinned (OpenSpec.ofChange Rows.fnExactFlatStrokesSpec) :=
  OpenClaim.holds_of_wide 9 Try.f9 rfl rfl rfl rfl rfl rfl rfl ⟨rfl, rfl, rfl, rfl, rfl⟩ rfl rfl rfl rfl rfl (by kernel_rfl) Try.func9 (by kernel_rfl)
    (of_decide_eq_true (by kernel_rfl)) (by unfold Func.isWrapper; first | (rw [if_pos (by decide +kernel)]; kernel_rfl) | (rw [if_neg (by decide +kernel)]; exact ⟨rfl, rfl⟩))
    (fun os started H enc _ => lifted os started H enc)

theorem proved : Rows.FnExactFlatStrokesSaid := over
#print axioms proved
end Go.Proofs.Ytaipfcbphfjgoaa.fnExactFlatStrokes
