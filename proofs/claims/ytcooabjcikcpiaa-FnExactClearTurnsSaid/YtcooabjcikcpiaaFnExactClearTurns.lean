/- The law FnExactClearTurns returns true for every input, and its arguments read afterwards as they read before: no condition. -/
import Derived.Test.YtcooabjcikcpiaaReg2
import Derived.OpenShut
import Derived.ShutString
import Derived.ChangeOld
import Derived.Below
import Derived.Lib.SmallJoins
import Derived.Deep.RegionHeld3
namespace Go.Proofs.Ytcooabjcikcpiaa.fnExactClearTurns
open Go.ChangeShapes Go.WideShapes Go.ChangeAt Go.RowKit
open Go.ChangeMaps (open_string shut_string)
set_option linter.unusedVariables false

theorem own : ownKnob Try.prog.godebug = none := by kernel_rfl
theorem laidOut : laidOutB Try.prog = true := by kernel_rfl

set_option maxHeartbeats 1000000 in
theorem walk (n0 : Int) (a0 : Option Addr) (len0 cap0 : Nat) (z0 : List Int) (w : World) (w0 : IsRow .i64 w a0 len0 cap0 z0) :
    Calls Try.prog 5 #[.agg #[.int .i64 n0, .slice a0 len0 cap0]] w fun e w' => e = .returned (.bool true) ∧ Below w.heap.size w w' := by
  have l0 := w0.len_le
  have W0 := Lib.hid w0; clear w0
  by_cases g0 : len0 ≤ 1048576
  rotate_left
  · go_enter Try.func5, Try.ntmps5
    go_wp2_with fail
    refine (laws_szRegister _ _ _ _ _ _ l0 (by omega) (by omega)).mono ?_; rintro e w1 ⟨rfl, b1⟩
    rw [if_neg (show ¬ (len0 : Int) ≤ 1048576 by omega)]
    have B1 := Lib.hid b1; clear b1
    obtain ⟨x0, -, hsz1, -⟩ := blk1 B1.out
    have p00 := cell_blk x0 0; have p01 := cell_blk x0 1; clear x0
    have ht0 : w.heap.size < w1.heap.size := (by omega)
    go_wp2_with fail
    go_ret
    exact ⟨rfl, (blk1 B1.out).2.1⟩
  have hz0 : (z0.take len0).length ≤ 1048576 := by rw [List.length_take]; omega
  generalize hZ0 : z0.take len0 = Z0 at *; have HZ0 := Lib.hid hZ0; clear hZ0
  go_enter Try.func5, Try.ntmps5
  go_wp2_with fail
  refine (laws_szRegister _ _ _ _ _ _ l0 (by omega) (by omega)).mono ?_; rintro e w1 ⟨rfl, b1⟩
  rw [if_pos (show (len0 : Int) ≤ 1048576 by omega)]
  have B1 := Lib.hid b1; clear b1
  obtain ⟨x0, -, hsz1, -⟩ := blk1 B1.out
  have p00 := cell_blk x0 0; have p01 := cell_blk x0 1; clear x0
  have ht0 : w.heap.size < w1.heap.size := (by omega)
  have HLR := clL_len n0 Z0
  go_wp2_with fail
  refine (laws_toRegister _ _ _ _ _ _ (W0.out.below (blk1 B1.out).2.1) (by omega)).mono ?_; rintro e w2 ⟨v2, rfl, o2, b2⟩
  rw [HZ0.out] at o2
  have B2 := Lib.hid (Below.trans_size B1.out b2); have P2 := Lib.hid o2; clear b2 o2
  obtain ⟨x0, -, hsz2, -⟩ := blk1 B2.out
  clear p00 p01 hsz1 ht0; have p00 := cell_blk x0 0; have p01 := cell_blk x0 1; clear x0
  have ht0 : w.heap.size < w2.heap.size := (by omega)
  go_wp2_with fail
  refine (spec_ClearTurns _ _ P2.out hz0).mono ?_; rintro e w3 ⟨v3, rfl, o3, b3⟩
  have P3 := Lib.hid (own_keep b3 P2.out); have B3 := Lib.hid (Below.trans_size B2.out b3); have R3 := Lib.hid o3; clear b3 o3
  obtain ⟨x0, -, hsz3, -⟩ := blk1 B3.out
  clear p00 p01 hsz2 ht0; have p00 := cell_blk x0 0; have p01 := cell_blk x0 1; clear x0
  have ht0 : w.heap.size < w3.heap.size := (by omega)
  go_wp2_with fail
  refine (laws_toRegister _ _ _ _ _ _ (W0.out.below (blk1 B3.out).2.1) (by omega)).mono ?_; rintro e w4 ⟨v4, rfl, o4, b4⟩
  rw [HZ0.out] at o4
  have R4 := Lib.hid (own_keep b4 R3.out); have B4 := Lib.hid (Below.trans_size B3.out b4); have X4 := Lib.hid o4; obtain ⟨q4, c4, rfl, -, -⟩ := own_form o4; clear b4 o4
  obtain ⟨x0, -, hsz4, -⟩ := blk1 B4.out
  clear p00 p01 hsz3 ht0; have p00 := cell_blk x0 0; have p01 := cell_blk x0 1; clear x0
  have ht0 : w.heap.size < w4.heap.size := (by omega)
  have RX := Lib.hid (apart_new R3.out X4.out (Nat.le_refl _))
  go_wp2_with fail
  refine (impl_ClearTurns _ _ (own_alloc X4.out _) hz0).mono ?_; rintro e w5 ⟨v5, rfl, o5, b5⟩
  have R5 := Lib.hid (own_keep b5 (own_alloc R4.out _)); have X5 := Lib.hid (own_keep b5 (own_alloc X4.out _)); have B5 := Lib.hid (Below.trans_size (B4.out.alloc B4.out.size _) b5); have VX5 := Lib.hid b5; have G5 := Lib.hid o5; clear b5 o5
  obtain ⟨x0, -, hsz5, -⟩ := blk1 B5.out
  clear p00 p01 hsz4 ht0; have p00 := cell_blk x0 0; have p01 := cell_blk x0 1; clear x0
  have ht0 : w.heap.size < w5.heap.size := (by omega)
  obtain ⟨y0, -, hsvX, -⟩ := blk1 VX5.out; have rX0 := cell_blk y0 0; have rX1 := cell_blk y0 1; clear y0
  have huX : w4.heap.size < w5.heap.size := (by omega)
  have GX := Lib.hid (apart_new (own_alloc X4.out _) G5.out (Nat.le_refl _)); have GR := Lib.hid (apart_new (own_alloc R4.out _) G5.out (Nat.le_refl _))
  go_wp2_with fail
  refine (laws_eqInt64S _ G5.out R5.out).mono ?_; rintro e w6 ⟨rfl, b6⟩
  have R6 := Lib.hid (own_keep b6 R5.out); have X6 := Lib.hid (own_keep b6 X5.out); have G6 := Lib.hid (own_keep b6 G5.out); have B6 := Lib.hid (Below.trans_size B5.out b6); have VX6 := Lib.hid (Below.trans_size VX5.out b6); clear b6
  obtain ⟨x0, -, hsz6, -⟩ := blk1 B6.out
  clear p00 p01 hsz5 ht0 huX rX0 rX1 hsvX; have p00 := cell_blk x0 0; have p01 := cell_blk x0 1; clear x0
  have ht0 : w.heap.size < w6.heap.size := (by omega)
  obtain ⟨y0, -, hsvX, -⟩ := blk1 VX6.out; have rX0 := cell_blk y0 0; have rX1 := cell_blk y0 1; clear y0
  have huX : w4.heap.size < w6.heap.size := (by omega)
  go_wp2_with fail
  go_region_held3 (fun w' => w'.cell? ⟨w.heap.size, 0, none⟩ = some (.int .i64 n0) ∧ w'.cell? ⟨w.heap.size, 1, none⟩ = some (.slice a0 len0 cap0) ∧ w'.cell? ⟨w4.heap.size, 0, none⟩ = some (.int .i64 n0) ∧ w'.cell? ⟨w4.heap.size, 1, none⟩ = some (.slice q4 Z0.length c4)) (first | go_keep | (refine ⟨?_, ?_, ?_, ?_⟩ <;> assumption)) (first | (go_at_call 16; refine (laws_eqRegister _ _ X7.out U7.out).mono ?_; rintro e w8 ⟨rfl, b8⟩; have R8 := Lib.hid (own_keep b8 R7.out); have X8 := Lib.hid (own_keep b8 X7.out); have G8 := Lib.hid (own_keep b8 G7.out); have U8 := Lib.hid (own_keep b8 U7.out); have B8 := Lib.hid (Below.trans_size B7.out b8); have VX8 := Lib.hid (Below.trans_size VX7.out b8); clear b8; obtain ⟨x0, -, hsz8, -⟩ := blk1 B8.out; clear p00 p01 hsz7 ht0 huX rX0 rX1 hsvX; have p00 := cell_blk x0 0; have p01 := cell_blk x0 1; clear x0; have ht0 : w.heap.size < w8.heap.size := (by omega); obtain ⟨y0, -, hsvX, -⟩ := blk1 VX8.out; have rX0 := cell_blk y0 0; have rX1 := cell_blk y0 1; clear y0; have huX : w4.heap.size < w8.heap.size := (by omega)) | (go_at_call 21; refine (laws_toRegister _ a0 len0 cap0 z0 _ (W0.out.below (blk1 B6.out.drew).2.1) (by omega)).mono ?_; rintro e w7 ⟨v7, rfl, o7, b7⟩; rw [HZ0.out] at o7; have R7 := Lib.hid (own_keep b7 (own_drew R6.out)); have X7 := Lib.hid (own_keep b7 (own_drew X6.out)); have G7 := Lib.hid (own_keep b7 (own_drew G6.out)); have B7 := Lib.hid (Below.trans_size B6.out.drew b7); have VX7 := Lib.hid (Below.trans_size VX6.out.drew b7); have U7 := Lib.hid o7; clear b7 o7; obtain ⟨x0, -, hsz7, -⟩ := blk1 B7.out; clear p00 p01 hsz6 ht0 huX rX0 rX1 hsvX; have p00 := cell_blk x0 0; have p01 := cell_blk x0 1; clear x0; have ht0 : w.heap.size < w7.heap.size := (by omega); obtain ⟨y0, -, hsvX, -⟩ := blk1 VX7.out; have rX0 := cell_blk y0 0; have rX1 := cell_blk y0 1; clear y0; have huX : w4.heap.size < w7.heap.size := (by omega)))
  go_wp2_with fail
  refine (laws_markRegister _ _ 1 X8.out (by omega) (by omega) (by omega)).mono ?_; rintro e w9 ⟨rfl, z9, g9⟩
  have G9 := Lib.hid (apart_grown (own_alloc G8.out z9) g9 GX.out); have R9 := Lib.hid (apart_grown (own_alloc R8.out z9) g9 (RX.out.symm)); have B9 := Lib.hid (grown_below (B8.out.alloc B8.out.size z9) (own_alloc X8.out z9) g9 B3.out.size (B8.out.alloc B8.out.size z9).size); clear g9
  obtain ⟨x0, -, hsz9, -⟩ := blk1 B9.out
  clear p00 p01 hsz8 ht0 huX rX0 rX1 hsvX; have p00 := cell_blk x0 0; have p01 := cell_blk x0 1; clear x0
  have ht0 : w.heap.size < w9.heap.size := (by omega)
  go_wp2_with fail
  refine (laws_eqInt64S _ G9.out R9.out).mono ?_; rintro e w10 ⟨rfl, b10⟩
  have R10 := Lib.hid (own_keep b10 R9.out); have G10 := Lib.hid (own_keep b10 G9.out); have B10 := Lib.hid (Below.trans_size B9.out b10); clear b10
  obtain ⟨x0, -, hsz10, -⟩ := blk1 B10.out
  clear p00 p01 hsz9 ht0; have p00 := cell_blk x0 0; have p01 := cell_blk x0 1; clear x0
  have ht0 : w.heap.size < w10.heap.size := (by omega)
  go_wp2_with fail
  refine (laws_markInt64S _ 1 G10.out (by omega) (by omega) (by omega)).mono ?_; rintro e w11 ⟨rfl, o11, g11⟩
  have G11 := Lib.hid o11; have R11 := Lib.hid (apart_grown R10.out g11 (GR.out.symm)); have B11 := Lib.hid (grown_below B10.out G10.out g11 (B4.out.alloc B4.out.size _).size B10.out.size); clear o11 g11
  obtain ⟨x0, -, hsz11, -⟩ := blk1 B11.out
  clear p00 p01 hsz10 ht0; have p00 := cell_blk x0 0; have p01 := cell_blk x0 1; clear x0
  have ht0 : w.heap.size < w11.heap.size := (by omega)
  go_wp2_with fail
  refine (laws_heldInt64S _ 1 _ G11.out (by omega) (by omega) (by omega)).mono ?_; rintro e w12 ⟨rfl, rfl⟩
  go_wp2_with fail
  refine (laws_toRegister _ _ _ _ _ _ (W0.out.below (blk1 B11.out).2.1) (by omega)).mono ?_; rintro e w12 ⟨v12, rfl, o12, b12⟩
  rw [HZ0.out] at o12
  have R12 := Lib.hid (own_keep b12 R11.out); have G12 := Lib.hid (own_keep b12 G11.out); have B12 := Lib.hid (Below.trans_size B11.out b12); have Y12 := Lib.hid o12; clear b12 o12
  obtain ⟨x0, -, hsz12, -⟩ := blk1 B12.out
  clear p00 p01 hsz11 ht0; have p00 := cell_blk x0 0; have p01 := cell_blk x0 1; clear x0
  have ht0 : w.heap.size < w12.heap.size := (by omega)
  go_wp2_with fail
  refine (impl_ClearTurns _ _ Y12.out hz0).mono ?_; rintro e w13 ⟨v13, rfl, o13, b13⟩
  have R13 := Lib.hid (own_keep b13 R12.out); have G13 := Lib.hid (own_keep b13 G12.out); have Y13 := Lib.hid (own_keep b13 Y12.out); have B13 := Lib.hid (Below.trans_size B12.out b13); have H13 := Lib.hid o13; clear b13 o13
  obtain ⟨x0, -, hsz13, -⟩ := blk1 B13.out
  clear p00 p01 hsz12 ht0; have p00 := cell_blk x0 0; have p01 := cell_blk x0 1; clear x0
  have ht0 : w.heap.size < w13.heap.size := (by omega)
  go_wp2_with fail
  refine (laws_eqInt64S _ H13.out R13.out).mono ?_; rintro e w14 ⟨rfl, b14⟩
  have R14 := Lib.hid (own_keep b14 R13.out); have G14 := Lib.hid (own_keep b14 G13.out); have Y14 := Lib.hid (own_keep b14 Y13.out); have H14 := Lib.hid (own_keep b14 H13.out); have B14 := Lib.hid (Below.trans_size B13.out b14); clear b14
  obtain ⟨x0, -, hsz14, -⟩ := blk1 B14.out
  clear p00 p01 hsz13 ht0; have p00 := cell_blk x0 0; have p01 := cell_blk x0 1; clear x0
  have ht0 : w.heap.size < w14.heap.size := (by omega)
  go_wp2_with fail
  refine (laws_heldInt64S _ 1 _ G14.out (by omega) (by omega) (by omega)).mono ?_; rintro e w15 ⟨rfl, rfl⟩
  go_wp2_with fail
  go_ret
  exact ⟨rfl, (blk1 B14.out).2.1⟩

set_option maxRecDepth 100000 in
theorem lifted (os : Os) (started : os.Started) (H : Type) (enc : TypeId × Value → H) :
    ReturnsInHanded {} Try.checked os 5 .any (Rows.fnExactClearTurnsSpec.pre6 enc Try.prog Try.f5 Rows.fnExactClearTurnsRow.domain false) (Rows.fnExactClearTurnsSpec.post enc Try.prog Try.f5 false true false false) := by
  refine returnsInHanded_of_change (C := Try.checked) own started (by kernel_rfl) Try.func5
    (ChangeSpec.witness6 (enc := enc) (C := Try.checked) false ⟨#[], #[.agg #[.int .i64 0, .slice none 0 0]], []⟩ 8 (by kernel_rfl) (by kernel_rfl) (by kernel_rfl) (by kernel_rfl)) ?_
  intro W base args ds gs before hval0 hW hcnd _
  have hval : ∀ (j : Nat) t v, Try.f5.params[j]? = some t → args[j]? = some v → Value.okWide Try.prog W .any base t v := hval0
  have hW' := hW
  obtain ⟨p, q, hA0, hV, rfl, hfz, hnd⟩ := hW
  have hA : DataW.TrodAll enc Try.prog W 0 (fun _ => true) true Try.f5.params.toList args.toList ds p := hA0
  rw [Try.params5] at hA hval
  obtain ⟨v0, vs0, d0, ds0, p0, q0, hargs, rfl, rfl, h0, r0⟩ := trodAll_cons hA
  obtain ⟨rfl, rfl, rfl⟩ := trodAll_nil r0
  obtain rfl : args = #[v0] := by cases args; simp_all
  obtain ⟨rfl, rfl⟩ := trodVars_none hV

  have k0 := h0
  have lt0 : ∀ x ∈ p0, x.block < W.heap.size := by obtain ⟨m, hm⟩ := k0; exact DataW.trod_lt m _ _ _ hm
  obtain ⟨c00, c01, y00, y01, m0, rfl, rfl, rfl, e00, e01⟩ := Go.Joins.open_agg2 Try.underlying24 (by kernel_rfl) (by kernel_rfl) (hval 0 24 v0 rfl rfl) h0
  obtain ⟨n0, q00, -, -⟩ := DataW.trod_int Try.underlying2 e00
  simp at q00; subst q00
  obtain ⟨a0, len0, cap0, z0, rfl, w0⟩ : ∃ a len cap zs, c01 = .slice a len cap ∧ IsRow .i64 W a len cap zs := by
    rcases open_ints Try.underlying22 Try.underlying2 (by kernel_rfl) e01 with ⟨hcs, _⟩ | ⟨x, l, c, zs, hcs, _, hl, hm, hz, _, hcell, hwz⟩
    · simp at hcs; exact ⟨none, 0, 0, [], hcs, .inl ⟨rfl, rfl, rfl, rfl⟩⟩
    · simp at hcs; exact ⟨some x, l, c, zs, hcs, .inr ⟨_, rfl, hl, hm, by simpa using hz, hcell, hwz⟩⟩
  clear hA0 hval0
  refine (walk n0 a0 len0 cap0 z0 W w0).mono fun e W' ⟨he, bel⟩ => ?_
  subst he
  exact ⟨_, rfl, _, _, _, [], _, [], hW', trodAll_mk1 (shut_bool Try.underlying4 _), (trodAll_cons_mk (Below.trod laidOut (by kernel_rfl) (of_decide_eq_true (by kernel_rfl)) k0 bel lt0) trodAll_mk0), rfl, bel.frame _, fun h => by cases h⟩

theorem over : Rows.fnExactClearTurnsRow.holds Try.pinned (OpenSpec.ofChange Rows.fnExactClearTurnsSpec) :=
  OpenClaim.holds_of_wide 5 Try.f5 rfl rfl rfl rfl rfl rfl rfl ⟨rfl, rfl, rfl, rfl, rfl⟩ rfl rfl rfl rfl rfl (by kernel_rfl) Try.func5 (by kernel_rfl)
    (of_decide_eq_true (by kernel_rfl)) (by unfold Func.isWrapper; first | (rw [if_pos (by decide +kernel)]; kernel_rfl) | (rw [if_neg (by decide +kernel)]; exact ⟨rfl, rfl⟩))
    (fun os started H enc _ => lifted os started H enc)

theorem proved : Rows.FnExactClearTurnsSaid := over
#print axioms proved
end Go.Proofs.Ytcooabjcikcpiaa.fnExactClearTurns
