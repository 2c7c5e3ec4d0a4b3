/- The law FnExactMultiplyProgram returns true for every input, and its arguments read afterwards as they read before: no condition. -/
import Derived.Test.YtidpoeojkifonaaMul
import Derived.OpenShut
import Derived.ShutString
import Derived.ChangeOld
import Derived.Below
namespace Go.Proofs.Ytidpoeojkifonaa.fnExactMultiplyProgram
open Go.ChangeShapes Go.WideShapes Go.ChangeAt Go.RowKit
open Go.ChangeMaps (open_string shut_string)
set_option linter.unusedVariables false

theorem own : ownKnob Try.prog.godebug = none := by kernel_rfl
theorem laidOut : laidOutB Try.prog = true := by kernel_rfl

theorem few_ok {b : Nat} (hb : 2 ≤ b) (hb2 : b ≤ 16) : ∀ n : Nat, allT (few b n) = true ∧ (few b n).length ≤ n := by
  intro n
  induction n using Nat.strongRecOn with
  | ind n ih =>
    by_cases h0 : n = 0
    · subst h0; rw [few_zero]; exact ⟨rfl, Nat.le_refl _⟩
    · have hm : n % b < b := Nat.mod_lt _ (by omega)
      cases hk : keepB b n
      · have d := few_dec hb h0 hk
        have i := ih _ d
        rw [few_up hb h0 hk]
        refine ⟨?_, by rw [List.length_cons]; omega⟩
        show (isT _ && allT _) = true
        rw [i.1, isT_in (by omega) (by omega)]; rfl
      · have d := div_lt' hb h0
        have i := ih _ d
        rw [few_keep hb h0 hk]
        refine ⟨?_, by rw [List.length_cons]; omega⟩
        show (isT _ && allT _) = true
        rw [i.1, isT_in (by omega) (by omega)]; rfl
theorem pln_ok {b : Nat} (hb : 2 ≤ b) (hb2 : b ≤ 16) : ∀ n : Nat, allT (pln b n) = true ∧ (pln b n).length ≤ n := by
  intro n
  induction n using Nat.strongRecOn with
  | ind n ih =>
    by_cases h0 : n = 0
    · subst h0; rw [pln_zero]; exact ⟨rfl, Nat.le_refl _⟩
    · have hm : n % b < b := Nat.mod_lt _ (by omega)
      have d := div_lt' hb h0
      have i := ih _ d
      rw [pln_rec hb h0]
      refine ⟨?_, by rw [List.length_cons]; omega⟩
      show (isT _ && allT _) = true
      rw [i.1, isT_in (by omega) (by omega)]; rfl
theorem turns_ok (b n : Int) (sh : Bool) : allT (turnsL b n sh) = true ∧ (turnsL b n sh).length ≤ 62500000 := by
  unfold turnsL
  split
  · rename_i h
    unfold tin at h; simp only [Bool.and_eq_true] at h
    have a := inB_iff.1 h.1; have c := inB_iff.1 h.2
    have f := few_ok (b := b.toNat) (by omega) (by omega) n.toNat
    have g := pln_ok (b := b.toNat) (by omega) (by omega) n.toNat
    split
    · exact ⟨f.1, by omega⟩
    · exact ⟨g.1, by omega⟩
  · exact ⟨rfl, by simp⟩
theorem mul_len (ts : List Int) : ∀ j, (mulTo ts j).length ≤ 4 * j := by
  intro j
  induction j with
  | zero => simp [mulTo]
  | succ j ih =>
    have hs : ∀ x, (signL x).length ≤ 2 := by intro x; unfold signL; split <;> (try split) <;> simp
    have h2 : (if j = 0 then ([] : List Int) else [4, 1]).length ≤ 2 := by split <;> simp
    have := hs (nth ts j)
    show (mulTo ts j ++ ((if j = 0 then [] else [4, 1]) ++ signL (nth ts j))).length ≤ _
    rw [List.length_append, List.length_append]
    omega
theorem len_n (a0 a1 : Int) (a2 : Bool) : muN a0 a1 a2 ≤ 500000000 := by
  have h := (turns_ok a0 a1 a2).2
  have h2 := mul_len (turnsL a0 a1 a2) (turnsL a0 a1 a2).length
  unfold muN muL
  omega
set_option maxHeartbeats 1000000 in
theorem walk (a0 : Int) (a1 : Int) (a2 : Bool) (w : World) (w0 : (Lit.int .i64 a0).wf = true) (w1 : (Lit.int .i64 a1).wf = true) :
    Calls Try.prog 13 #[.int .i64 a0, .int .i64 a1, .bool a2] w fun e w' => e = .returned (.bool true) ∧ Below w.heap.size w w' := by
  have hLn := len_n a0 a1 a2
  have S := Lib.hid (fun wx => spec_MultiplyProgram a0 a1 a2 wx (turns_ok a0 a1 a2).1 (turns_ok a0 a1 a2).2)
  have I := Lib.hid (fun wx => impl_MultiplyProgram a0 a1 a2 wx)
  generalize muL a0 a1 a2 = L at S I
  generalize muN a0 a1 a2 = n at S I hLn
  generalize codeR a0 a1 = cc at S I
  go_enter Try.func13, Try.ntmps13
  go_wp2_with fail
  refine (S.out _).mono ?_; rintro e w1 ⟨v1, rfl, o1, b1⟩
  have R1 := Lib.hid o1; have B1 := Lib.hid b1; have s1 := b1.size; clear o1 b1
  go_wp2_with fail
  refine (I.out _).mono ?_; rintro e w2 ⟨v2, rfl, o2, b2⟩
  have GR := Lib.hid (apart_lt (a := v1) (b := v2) (fun k hk => (recr_block_lt R1.out k hk).2) (fun k hk => (recr_block_lt o2 k hk).1) (Nat.le_refl _))
  have R2 := Lib.hid (recr_keep b2 R1.out); have G2 := Lib.hid o2; have B2 := Lib.hid (Below.trans_size B1.out b2); have s2 := b2.size; clear o2 b2
  go_wp2_with fail
  refine (laws_eqRS _ G2.out R2.out).mono ?_; rintro e w3 ⟨rfl, b3⟩
  have R3 := Lib.hid (recr_keep b3 R2.out); have G3 := Lib.hid (recr_keep b3 G2.out); have B3 := Lib.hid (Below.trans_size B2.out b3); have s3 := b3.size; clear b3
  go_wp2_with fail
  refine (laws_markRS _ 1 G3.out (by omega) (by omega) (by omega)).mono ?_; rintro e w4 ⟨rfl, o4, g4⟩
  have R4 := Lib.hid (recr_apart_grown R3.out g4 (GR.out.symm)); have G4 := Lib.hid o4; have B4 := Lib.hid (recr_grown_below B3.out G3.out g4 (by omega) (by omega)); have s4 := g4.size; clear o4 g4
  go_wp2_with fail
  refine (laws_heldRS _ 1 n G4.out (by omega) (by omega) (by omega)).mono ?_; rintro e w5 ⟨rfl, rfl⟩
  go_wp2_with fail
  refine (I.out _).mono ?_; rintro e w6 ⟨v6, rfl, o6, b6⟩
  have R6 := Lib.hid (recr_keep b6 R4.out); have G6 := Lib.hid (recr_keep b6 G4.out); have H6 := Lib.hid o6; have B6 := Lib.hid (Below.trans_size B4.out b6); have s6 := b6.size; clear o6 b6
  go_wp2_with fail
  refine (laws_eqRS _ H6.out R6.out).mono ?_; rintro e w7 ⟨rfl, b7⟩
  have G7 := Lib.hid (recr_keep b7 G6.out); have B7 := Lib.hid (Below.trans_size B6.out b7); have s7 := b7.size; clear b7
  go_wp2_with fail
  refine (laws_heldRS _ 1 n G7.out (by omega) (by omega) (by omega)).mono ?_; rintro e w8 ⟨rfl, rfl⟩
  go_wp2_with fail
  go_ret
  exact ⟨rfl, B7.out⟩

set_option maxRecDepth 100000 in
theorem lifted (os : Os) (started : os.Started) (H : Type) (enc : TypeId × Value → H) :
    ReturnsInHanded {} Try.checked os 13 .any (Rows.fnExactMultiplyProgramSpec.pre6 enc Try.prog Try.f13 Rows.fnExactMultiplyProgramRow.domain false) (Rows.fnExactMultiplyProgramSpec.post enc Try.prog Try.f13 false true false false) := by
  refine returnsInHanded_of_change (C := Try.checked) own started (by kernel_rfl) Try.func13
    (ChangeSpec.witness6 (enc := enc) (C := Try.checked) false ⟨#[], #[.int .i64 0, .int .i64 0, .bool false], []⟩ 8 (by kernel_rfl) (by kernel_rfl) (by kernel_rfl) (by kernel_rfl)) ?_
  intro W base args ds gs before hval0 hW hcnd _
  have hval : ∀ (j : Nat) t v, Try.f13.params[j]? = some t → args[j]? = some v → Value.okWide Try.prog W .any base t v := hval0
  have hW' := hW
  obtain ⟨p, q, hA0, hV, rfl, hfz, hnd⟩ := hW
  have hA : DataW.TrodAll enc Try.prog W 0 (fun _ => true) true Try.f13.params.toList args.toList ds p := hA0
  rw [Try.params13] at hA hval
  obtain ⟨v0, vs0, d0, ds0, p0, q0, hargs, rfl, rfl, h0, r0⟩ := trodAll_cons hA
  obtain ⟨v1, vs1, d1, ds1, p1, q1, rfl, rfl, rfl, h1, r1⟩ := trodAll_cons r0
  obtain ⟨v2, vs2, d2, ds2, p2, q2, rfl, rfl, rfl, h2, r2⟩ := trodAll_cons r1
  obtain ⟨rfl, rfl, rfl⟩ := trodAll_nil r2
  obtain rfl : args = #[v0, v1, v2] := by cases args; simp_all
  obtain ⟨rfl, rfl⟩ := trodVars_none hV
  have k0 := h0
  have lt0 : ∀ x ∈ p0, x.block < W.heap.size := by obtain ⟨m, hm⟩ := k0; exact DataW.trod_lt m _ _ _ hm
  obtain ⟨a0, rfl, rfl, rfl, w0⟩ := open_int Try.underlying2 (hval 0 2 v0 rfl rfl) h0
  have k1 := h1
  have lt1 : ∀ x ∈ p1, x.block < W.heap.size := by obtain ⟨m, hm⟩ := k1; exact DataW.trod_lt m _ _ _ hm
  obtain ⟨a1, rfl, rfl, rfl, w1⟩ := open_int Try.underlying2 (hval 1 2 v1 rfl rfl) h1
  have k2 := h2
  have lt2 : ∀ x ∈ p2, x.block < W.heap.size := by obtain ⟨m, hm⟩ := k2; exact DataW.trod_lt m _ _ _ hm
  obtain ⟨a2, rfl, rfl, rfl⟩ := open_bool Try.underlying4 (hval 2 4 v2 rfl rfl) h2
  clear hA0 hval0
  refine (walk a0 a1 a2 W w0 w1).mono fun e W' ⟨he, bel⟩ => ?_
  subst he
  exact ⟨_, rfl, _, _, _, [], _, [], hW', trodAll_mk1 (shut_bool Try.underlying4 _), (trodAll_cons_mk (Below.trod laidOut (by kernel_rfl) (of_decide_eq_true (by kernel_rfl)) k0 bel lt0) (trodAll_cons_mk (Below.trod laidOut (by kernel_rfl) (of_decide_eq_true (by kernel_rfl)) k1 bel lt1) (trodAll_cons_mk (Below.trod laidOut (by kernel_rfl) (of_decide_eq_true (by kernel_rfl)) k2 bel lt2) trodAll_mk0))), rfl, bel.frame _, fun h => by cases h⟩

theorem over : Rows.fnExactMultiplyProgramRow.holds Try.pinned (OpenSpec.ofChange Rows.fnExactMultiplyProgramSpec) :=
  OpenClaim.holds_of_wide 13 Try.f13 rfl rfl rfl rfl rfl rfl rfl ⟨rfl, rfl, rfl, rfl, rfl⟩ rfl rfl rfl rfl rfl (by kernel_rfl) Try.func13 (by kernel_rfl)
    (of_decide_eq_true (by kernel_rfl)) (by unfold Func.isWrapper; first | (rw [if_pos (by decide +kernel)]; kernel_rfl) | (rw [if_neg (by decide +kernel)]; exact ⟨rfl, rfl⟩))
    (fun os started H enc _ => lifted os started H enc)

theorem proved : Rows.FnExactMultiplyProgramSaid := over
#print axioms proved
end Go.Proofs.Ytidpoeojkifonaa.fnExactMultiplyProgram
