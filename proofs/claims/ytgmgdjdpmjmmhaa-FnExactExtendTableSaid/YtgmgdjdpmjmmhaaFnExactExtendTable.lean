/- The law FnExactExtendTable returns true for every input, and its arguments read afterwards as they read before: no condition. -/
import Derived.Test.YtgmgdjdpmjmmhaaExt
import Derived.Test.YtgmgdjdpmjmmhaaTab
import Derived.OpenShut
import Derived.ShutString
import Derived.ChangeOld
import Derived.Below
namespace Go.Proofs.Ytgmgdjdpmjmmhaa.fnExactExtendTable
open Go.ChangeShapes Go.WideShapes Go.ChangeAt Go.RowKit
open Go.ChangeMaps (open_string shut_string)
set_option linter.unusedVariables false

theorem own : ownKnob Try.prog.godebug = none := by kernel_rfl
theorem laidOut : laidOutB Try.prog = true := by kernel_rfl

theorem walk (a0 : Option Addr) (len0 cap0 : Nat) (z0 : List Int) (a1 : Int) (a2 : Int) (w : World) (w0 : IsRow .i64 w a0 len0 cap0 z0) (w1 : (Lit.int .i64 a1).wf = true) (w2 : (Lit.int .i64 a2).wf = true) :
    Calls Try.prog 11 #[.slice a0 len0 cap0, .int .i64 a1, .int .i64 a2] w fun e w' => e = .returned (.bool true) ∧ Below w.heap.size w w' := by
  by_cases hbig : 1048576 < len0
  · go_enter Try.func11, Try.ntmps11
    go_wp2
    go_ret
    exact ⟨rfl, Below.refl _ _⟩
  have hlen : len0 ≤ 1048576 := by omega
  have hzl : (z0.take len0).length ≤ 1048576 := by rw [List.length_take]; omega
  have HLR := extR_len (z0.take len0) a1 a2
  have W0 := Lib.hid w0; clear w0
  generalize hZ : z0.take len0 = Z at *
  have HZ := Lib.hid hZ; clear hZ
  go_enter Try.func11, Try.ntmps11
  go_wp2_with fail
  refine (laws_toInt64S _ _ _ _ _ W0.out hlen).mono ?_; rintro e w1 ⟨v1, rfl, o1, b1⟩
  rw [HZ.out] at o1
  have O1 := Lib.hid o1; have B1 := Lib.hid b1; clear o1 b1
  go_wp2_with fail
  refine (spec_ExtendTable _ _ _ O1.out).mono ?_; rintro e w2 ⟨r, rfl, o2, b2⟩
  have R2 := Lib.hid o2; have B2 := Lib.hid (Below.trans_size B1.out b2); clear o2 b2
  go_wp2_with fail
  refine (laws_toInt64S _ _ _ _ _ (W0.out.below B2.out) hlen).mono ?_; rintro e w3 ⟨x, rfl, o3, b3⟩
  rw [HZ.out] at o3
  have X3 := Lib.hid o3; have R3 := Lib.hid (own_keep b3 R2.out); have B3 := Lib.hid (Below.trans_size B2.out b3); clear o3 b3
  have RX := Lib.hid (apart_new R2.out X3.out (Nat.le_refl _))
  go_wp2_with fail
  refine (impl_ExtendTable _ _ _ X3.out).mono ?_; rintro e w4 ⟨g, rfl, o4, b4⟩
  have G4 := Lib.hid o4; have R4 := Lib.hid (own_keep b4 R3.out); have X4 := Lib.hid (own_keep b4 X3.out); have B4 := Lib.hid (Below.trans_size B3.out b4); clear o4 b4
  have GX := Lib.hid (apart_new X3.out G4.out (Nat.le_refl _)); have GR := Lib.hid (apart_new R3.out G4.out (Nat.le_refl _))
  go_wp2_with fail
  refine (laws_eqInt64S _ G4.out R4.out).mono ?_; rintro e w5 ⟨rfl, b5⟩
  have G5 := Lib.hid (own_keep b5 G4.out); have R5 := Lib.hid (own_keep b5 R4.out); have X5 := Lib.hid (own_keep b5 X4.out); have B5 := Lib.hid (Below.trans_size B4.out b5); clear b5
  go_wp2_with fail
  refine (laws_toInt64S _ _ _ _ _ (W0.out.below B5.out) hlen).mono ?_; rintro e w6 ⟨y, rfl, o6, b6⟩
  rw [HZ.out] at o6
  have Y6 := Lib.hid o6; have G6 := Lib.hid (own_keep b6 G5.out); have R6 := Lib.hid (own_keep b6 R5.out); have X6 := Lib.hid (own_keep b6 X5.out); have B6 := Lib.hid (Below.trans_size B5.out b6); clear o6 b6
  go_wp2_with fail
  refine (laws_eqInt64S _ X6.out Y6.out).mono ?_; rintro e w7 ⟨rfl, b7⟩
  have G7 := Lib.hid (own_keep b7 G6.out); have R7 := Lib.hid (own_keep b7 R6.out); have X7 := Lib.hid (own_keep b7 X6.out); have B7 := Lib.hid (Below.trans_size B6.out b7); clear b7
  have XB := Lib.hid (Nat.le_trans B2.out.size (Nat.le_refl _))
  go_wp2_with fail
  refine (laws_markInt64S _ 1 X7.out (by omega) (by omega) (by omega)).mono ?_; rintro e w8 ⟨rfl, o8, g8⟩
  have G8 := Lib.hid (apart_grown G7.out g8 GX.out); have R8 := Lib.hid (apart_grown R7.out g8 (RX.out.symm)); have B8 := Lib.hid (grown_below B7.out X7.out g8 B2.out.size B7.out.size); clear o8 g8
  go_wp2_with fail
  refine (laws_eqInt64S _ G8.out R8.out).mono ?_; rintro e w9 ⟨rfl, b9⟩
  have G9 := Lib.hid (own_keep b9 G8.out); have R9 := Lib.hid (own_keep b9 R8.out); have B9 := Lib.hid (Below.trans_size B8.out b9); clear b9
  go_wp2_with fail
  refine (laws_markInt64S _ 1 G9.out (by omega) (by omega) (by omega)).mono ?_; rintro e w10 ⟨rfl, o10, g10⟩
  have G10 := Lib.hid o10; have R10 := Lib.hid (apart_grown R9.out g10 (GR.out.symm)); have B10 := Lib.hid (grown_below B9.out G9.out g10 B3.out.size B9.out.size); clear o10 g10
  go_wp2_with fail
  refine (laws_heldInt64S _ 1 _ G10.out (by omega) (by omega) (by omega)).mono ?_; rintro e w11 ⟨rfl, rfl⟩
  go_wp2_with fail
  refine (laws_toInt64S _ _ _ _ _ (W0.out.below B10.out) hlen).mono ?_; rintro e w12 ⟨y2, rfl, o12, b12⟩
  rw [HZ.out] at o12
  have Y12 := Lib.hid o12; have G12 := Lib.hid (own_keep b12 G10.out); have R12 := Lib.hid (own_keep b12 R10.out); have B12 := Lib.hid (Below.trans_size B10.out b12); clear o12 b12
  go_wp2_with fail
  refine (impl_ExtendTable _ _ _ Y12.out).mono ?_; rintro e w13 ⟨h, rfl, o13, b13⟩
  have H13 := Lib.hid o13; have G13 := Lib.hid (own_keep b13 G12.out); have R13 := Lib.hid (own_keep b13 R12.out); have B13 := Lib.hid (Below.trans_size B12.out b13); clear o13 b13
  go_wp2_with fail
  refine (laws_eqInt64S _ H13.out R13.out).mono ?_; rintro e w14 ⟨rfl, b14⟩
  have G14 := Lib.hid (own_keep b14 G13.out); have B14 := Lib.hid (Below.trans_size B13.out b14); clear b14
  go_wp2_with fail
  refine (laws_heldInt64S _ 1 _ G14.out (by omega) (by omega) (by omega)).mono ?_; rintro e w15 ⟨rfl, rfl⟩
  go_wp2_with fail
  go_ret
  exact ⟨rfl, B14.out⟩

set_option maxRecDepth 100000 in
theorem lifted (os : Os) (started : os.Started) (H : Type) (enc : TypeId × Value → H) :
    ReturnsInHanded {} Try.checked os 11 .any (Rows.fnExactExtendTableSpec.pre6 enc Try.prog Try.f11 Rows.fnExactExtendTableRow.domain false) (Rows.fnExactExtendTableSpec.post enc Try.prog Try.f11 false true false false) := by
  refine returnsInHanded_of_change (C := Try.checked) own started (by kernel_rfl) Try.func11
    (ChangeSpec.witness6 (enc := enc) (C := Try.checked) false ⟨#[], #[.slice none 0 0, .int .i64 0, .int .i64 0], []⟩ 8 (by kernel_rfl) (by kernel_rfl) (by kernel_rfl) (by kernel_rfl)) ?_
  intro W base args ds gs before hval0 hW hcnd _
  have hval : ∀ (j : Nat) t v, Try.f11.params[j]? = some t → args[j]? = some v → Value.okWide Try.prog W .any base t v := hval0
  have hW' := hW
  obtain ⟨p, q, hA0, hV, rfl, hfz, hnd⟩ := hW
  have hA : DataW.TrodAll enc Try.prog W 0 (fun _ => true) true Try.f11.params.toList args.toList ds p := hA0
  rw [Try.params11] at hA hval
  obtain ⟨v0, vs0, d0, ds0, p0, q0, hargs, rfl, rfl, h0, r0⟩ := trodAll_cons hA
  obtain ⟨v1, vs1, d1, ds1, p1, q1, rfl, rfl, rfl, h1, r1⟩ := trodAll_cons r0
  obtain ⟨v2, vs2, d2, ds2, p2, q2, rfl, rfl, rfl, h2, r2⟩ := trodAll_cons r1
  obtain ⟨rfl, rfl, rfl⟩ := trodAll_nil r2
  obtain rfl : args = #[v0, v1, v2] := by cases args; simp_all
  obtain ⟨rfl, rfl⟩ := trodVars_none hV
  obtain ⟨a0, len0, cap0, rfl⟩ := okWide_slice Try.underlying22 (hval 0 22 v0 rfl rfl)
  have k0 := h0
  have lt0 : ∀ x ∈ p0, x.block < W.heap.size := by obtain ⟨m, hm⟩ := k0; exact DataW.trod_lt m _ _ _ hm
  obtain ⟨z0, w0⟩ : ∃ zs, IsRow .i64 W a0 len0 cap0 zs := by
    obtain ⟨fuel, hf⟩ := h0
    rcases open_ints Try.underlying22 Try.underlying2 (by kernel_rfl) hf with ⟨hcs, _⟩ | ⟨x, l, c, zs, hcs, _, hl, hm, hz, _, hcell, hwz⟩
    · simp [Value.cells] at hcs
      obtain ⟨rfl, rfl, rfl⟩ := hcs
      exact ⟨[], .inl ⟨rfl, rfl, rfl, rfl⟩⟩
    · simp [Value.cells] at hcs
      obtain ⟨rfl, rfl, rfl⟩ := hcs
      exact ⟨zs, .inr ⟨_, rfl, hl, hm, by simpa using hz, hcell, hwz⟩⟩
  have k1 := h1
  have lt1 : ∀ x ∈ p1, x.block < W.heap.size := by obtain ⟨m, hm⟩ := k1; exact DataW.trod_lt m _ _ _ hm
  obtain ⟨a1, rfl, rfl, rfl, w1⟩ := open_int Try.underlying2 (hval 1 2 v1 rfl rfl) h1
  have k2 := h2
  have lt2 : ∀ x ∈ p2, x.block < W.heap.size := by obtain ⟨m, hm⟩ := k2; exact DataW.trod_lt m _ _ _ hm
  obtain ⟨a2, rfl, rfl, rfl, w2⟩ := open_int Try.underlying2 (hval 2 2 v2 rfl rfl) h2
  clear hA0 hval0
  refine (walk a0 len0 cap0 z0 a1 a2 W w0 w1 w2).mono fun e W' ⟨he, bel⟩ => ?_
  subst he
  exact ⟨_, rfl, _, _, _, [], _, [], hW', trodAll_mk1 (shut_bool Try.underlying4 _), (trodAll_cons_mk (Below.trod laidOut (by kernel_rfl) (of_decide_eq_true (by kernel_rfl)) k0 bel lt0) (trodAll_cons_mk (Below.trod laidOut (by kernel_rfl) (of_decide_eq_true (by kernel_rfl)) k1 bel lt1) (trodAll_cons_mk (Below.trod laidOut (by kernel_rfl) (of_decide_eq_true (by kernel_rfl)) k2 bel lt2) trodAll_mk0))), rfl, bel.frame _, fun h => by cases h⟩

theorem over : Rows.fnExactExtendTableRow.holds Try.pinned (OpenSpec.ofChange Rows.fnExactExtendTableSpec) :=
  OpenClaim.holds_of_wide 11 Try.f11 rfl rfl rfl rfl rfl rfl rfl ⟨rfl, rfl, rfl, rfl, rfl⟩ rfl rfl rfl rfl rfl (by kernel_rfl) Try.func11 (by kernel_rfl)
    (of_decide_eq_true (by kernel_rfl)) (by unfold Func.isWrapper; first | (rw [if_pos (by decide +kernel)]; kernel_rfl) | (rw [if_neg (by decide +kernel)]; exact ⟨rfl, rfl⟩))
    (fun os started H enc _ => lifted os started H enc)

theorem proved : Rows.FnExactExtendTableSaid := over
#print axioms proved
end Go.Proofs.Ytgmgdjdpmjmmhaa.fnExactExtendTable
