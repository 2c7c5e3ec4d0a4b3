/- The law FnExactEngineText returns true for every input, and its arguments read afterwards as they read before: no condition. -/
import Derived.Test.YtkhjmokjbiepgaaDoorEty
import Derived.Test.YtkhjmokjbiepgaaDoorTie
import Derived.Test.YtkhjmokjbiepgaaDoorCards
import Derived.SevenTiedAt
import Derived.LaidMore
import Derived.Stop.Joined
import Derived.Stop.LaidErr
import Derived.OpenShut
import Derived.ShutString
import Derived.ChangeOld
import Derived.Below
import Derived.Lib.SmallJoins
import Derived.Deep.RegionHeld3
namespace Go.Proofs.YtkhjmokjbiepgaaDoor.fnExactEngineText
open Go.ChangeShapes Go.WideShapes Go.ChangeAt Go.RowKit
open Go.ChangeMaps (open_string shut_string)
set_option linter.unusedVariables false

theorem own : ownKnob Tryd.prog.godebug = none := by kernel_rfl
theorem laidOut : laidOutB Tryd.prog = true := by kernel_rfl

set_option maxHeartbeats 4000000 in
set_option maxRecDepth 100000 in
theorem walk (n0 : Int) (a0 : Option Addr) (len0 cap0 : Nat) (z0 : List Int) (w : World) (w0 : IsRow .i64 w a0 len0 cap0 z0) (hT : TabW w) :
    Calls Tryd.prog 6 #[.agg #[.int .i64 n0, .slice a0 len0 cap0]] w fun e w' => e = .returned (.bool true) ∧ Below w.heap.size w w' := by
  have HT := Lib.hid hT; clear hT
  have l0 := w0.len_le
  have W0 := Lib.hid w0; clear w0
  by_cases g0 : len0 ≤ 1048576
  rotate_left
  · go_enter Tryd.func6, Tryd.ntmps6
    go_wp2_with fail
    refine (laws_szEngine _ _ _ _ _ _ l0 (by omega) (by omega)).mono ?_; rintro e w1 ⟨rfl, b1⟩
    rw [if_neg (show ¬ (len0 : Int) ≤ 1048576 by omega)]
    have B1 := Lib.hid b1; clear b1
    obtain ⟨x0, -, hsz1, -⟩ := blk1 B1.out
    have p00 := cell_blk x0 0; have p01 := cell_blk x0 1; clear x0
    have ht0 : w.heap.size < w1.heap.size := (by omega)
    go_wp2_with fail
    go_ret
    exact ⟨rfl, (blk1 B1.out).2.1⟩
  have hz0 : (z0.take len0).length ≤ 1048576 := by rw [List.length_take]; omega
  generalize hZ0 : z0.take len0 = Z0 at *; have HZ0 := Lib.hid hZ0; clear hZ0
  go_enter Tryd.func6, Tryd.ntmps6
  go_wp2_with fail
  refine (laws_szEngine _ _ _ _ _ _ l0 (by omega) (by omega)).mono ?_; rintro e w1 ⟨rfl, b1⟩
  rw [if_pos (show (len0 : Int) ≤ 1048576 by omega)]
  have B1 := Lib.hid b1; clear b1
  obtain ⟨x0, -, hsz1, -⟩ := blk1 B1.out
  have p00 := cell_blk x0 0; have p01 := cell_blk x0 1; clear x0
  have ht0 : w.heap.size < w1.heap.size := (by omega)
  go_wp2_with fail
  refine (laws_toEngine _ _ _ _ _ _ (W0.out.below (blk1 B1.out).2.1) (by omega)).mono ?_; rintro e w2 ⟨v2, rfl, o2, b2⟩
  rw [HZ0.out] at o2
  have B2 := Lib.hid (Below.trans_size B1.out b2); have P2 := Lib.hid o2; clear b2 o2
  obtain ⟨x0, -, hsz2, -⟩ := blk1 B2.out
  clear p00 p01 hsz1 ht0; have p00 := cell_blk x0 0; have p01 := cell_blk x0 1; clear x0
  have ht0 : w.heap.size < w2.heap.size := (by omega)
  go_wp2_with fail
  refine (spec_EngineText _ _ P2.out hz0).mono ?_; rintro e w3 ⟨rfl, b3⟩
  have P3 := Lib.hid (own_keep b3 P2.out); have B3 := Lib.hid (Below.trans_size B2.out b3); clear b3
  obtain ⟨x0, -, hsz3, -⟩ := blk1 B3.out
  clear p00 p01 hsz2 ht0; have p00 := cell_blk x0 0; have p01 := cell_blk x0 1; clear x0
  have ht0 : w.heap.size < w3.heap.size := (by omega)
  go_wp2_with fail
  refine (laws_toEngine _ _ _ _ _ _ (W0.out.below (blk1 B3.out).2.1) (by omega)).mono ?_; rintro e w4 ⟨v4, rfl, o4, b4⟩
  rw [HZ0.out] at o4
  have P4 := Lib.hid (own_keep b4 P3.out); have B4 := Lib.hid (Below.trans_size B3.out b4); have X4 := Lib.hid o4; obtain ⟨q4, c4, rfl, -, -⟩ := own_form o4; clear b4 o4
  obtain ⟨x0, -, hsz4, -⟩ := blk1 B4.out
  clear p00 p01 hsz3 ht0; have p00 := cell_blk x0 0; have p01 := cell_blk x0 1; clear x0
  have ht0 : w.heap.size < w4.heap.size := (by omega)
  go_wp2_with fail
  refine (impl_EngineText _ _ (own_alloc X4.out _) hz0 (tab_keep HT.out ((blk1 (B4.out.alloc B4.out.size _)).2.1))).mono ?_; rintro e w5 ⟨rfl, b5⟩
  have P5 := Lib.hid (own_keep b5 (own_alloc P4.out _)); have X5 := Lib.hid (own_keep b5 (own_alloc X4.out _)); have B5 := Lib.hid (Below.trans_size (B4.out.alloc B4.out.size _) b5); have VX5 := Lib.hid b5; clear b5
  obtain ⟨x0, -, hsz5, -⟩ := blk1 B5.out
  clear p00 p01 hsz4 ht0; have p00 := cell_blk x0 0; have p01 := cell_blk x0 1; clear x0
  have ht0 : w.heap.size < w5.heap.size := (by omega)
  obtain ⟨y0, -, hsvX, -⟩ := blk1 VX5.out; have rX0 := cell_blk y0 0; have rX1 := cell_blk y0 1; clear y0
  have huX : w4.heap.size < w5.heap.size := (by omega)
  go_wp2_with fail
  go_region_held3 (fun w' => w'.cell? ⟨w.heap.size, 0, none⟩ = some (.int .i64 n0) ∧ w'.cell? ⟨w.heap.size, 1, none⟩ = some (.slice a0 len0 cap0) ∧ w'.cell? ⟨w4.heap.size, 0, none⟩ = some (.int .i64 n0) ∧ w'.cell? ⟨w4.heap.size, 1, none⟩ = some (.slice q4 Z0.length c4)) (first | go_keep | (refine ⟨?_, ?_, ?_, ?_⟩ <;> assumption)) (first | (go_at_call 22; refine (laws_eqEngine _ _ X6.out U6.out).mono ?_; rintro e w7 ⟨rfl, b7⟩; have P7 := Lib.hid (own_keep b7 P6.out); have X7 := Lib.hid (own_keep b7 X6.out); have U7 := Lib.hid (own_keep b7 U6.out); have B7 := Lib.hid (Below.trans_size B6.out b7); have VX7 := Lib.hid (Below.trans_size VX6.out b7); clear b7; obtain ⟨x0, -, hsz7, -⟩ := blk1 B7.out; clear p00 p01 hsz6 ht0 huX rX0 rX1 hsvX; have p00 := cell_blk x0 0; have p01 := cell_blk x0 1; clear x0; have ht0 : w.heap.size < w7.heap.size := (by omega); obtain ⟨y0, -, hsvX, -⟩ := blk1 VX7.out; have rX0 := cell_blk y0 0; have rX1 := cell_blk y0 1; clear y0; have huX : w4.heap.size < w7.heap.size := (by omega)) | (go_at_call 20; refine (laws_toEngine _ a0 len0 cap0 z0 _ (W0.out.below (blk1 B5.out.drew).2.1) (by omega)).mono ?_; rintro e w6 ⟨v6, rfl, o6, b6⟩; rw [HZ0.out] at o6; have P6 := Lib.hid (own_keep b6 (own_drew P5.out)); have X6 := Lib.hid (own_keep b6 (own_drew X5.out)); have B6 := Lib.hid (Below.trans_size B5.out.drew b6); have VX6 := Lib.hid (Below.trans_size VX5.out.drew b6); have U6 := Lib.hid o6; clear b6 o6; obtain ⟨x0, -, hsz6, -⟩ := blk1 B6.out; clear p00 p01 hsz5 ht0 huX rX0 rX1 hsvX; have p00 := cell_blk x0 0; have p01 := cell_blk x0 1; clear x0; have ht0 : w.heap.size < w6.heap.size := (by omega); obtain ⟨y0, -, hsvX, -⟩ := blk1 VX6.out; have rX0 := cell_blk y0 0; have rX1 := cell_blk y0 1; clear y0; have huX : w4.heap.size < w6.heap.size := (by omega)))
  go_wp2_with fail
  go_ret
  exact ⟨rfl, (blk1 B7.out).2.1⟩

theorem gTab : Tryd.prog.globalNamed "internal/strconv.uint64pow10" = some 0 := by kernel_rfl
theorem tTab : (Tryd.prog.globals[0]?).map (·.type) = some 104 := by kernel_rfl
theorem cTab : Tryd.prog.cellsOf 104 = 20 := by kernel_rfl
theorem door_met (os : Os) (args : Array Value) : laidMetH Tryd.prog Rows.fnExactEngineTextRow.laid ((World.doorLaid Tryd.prog 400 os).forCall (fun _ _ => 0) ⟨#[], args, []⟩).memory :=
  laidMetH_of_parts3 (fuel := 8) (laidMet_of_run' 8 (by kernel_rfl) (by kernel_rfl)) (by kernel_rfl) (by kernel_rfl)
theorem tab_of_laid {W : World} (h : laidMetH Tryd.prog Rows.fnExactEngineTextRow.laid W) : TabW W := by
  rw [MakeChecks.laidMetH_plain _ _ _ (by kernel_rfl)] at h
  exact Lib.tabIs_of_head gTab tTab Tryd.underlying104 Tryd.underlying94 (by kernel_rfl) cTab (show laidMet Tryd.prog [("internal/strconv.uint64pow10", Lib.tabData .u64 Lib.pow10Tab)] W from laidMet.tail (laidMet.tail h))
set_option maxRecDepth 100000 in
theorem lifted (os : Os) (started : os.Started) (H : Type) (enc : TypeId × Value → H) :
    ReturnsInHanded {} Tryd.checked os 6 .any (fun w args => (Rows.fnExactEngineTextSpec.pre enc Tryd.prog Tryd.f6 [] false w args ∧ laidMetH Tryd.prog Rows.fnExactEngineTextRow.laid w) ∧ sizedMet enc Tryd.prog Tryd.f6 (OpenSpec.ofChange Rows.fnExactEngineTextSpec) false w args) (Rows.fnExactEngineTextSpec.post enc Tryd.prog Tryd.f6 false true false false) := by
  refine returnsInHanded_of_change_and (C := Tryd.checked) (X := fun w _ => laidMetH Tryd.prog Rows.fnExactEngineTextRow.laid w) (fun _ _ _ hh h => h.of_heap hh) own started (by kernel_rfl) Tryd.func6
    (ChangeSpec.witness_shaped (enc := enc) (C := Tryd.checked) (os := os) (X := fun w _ => laidMetH Tryd.prog Rows.fnExactEngineTextRow.laid w) false (World.doorLaid Tryd.prog 400 os) #[.agg #[.int .i64 0, .slice none 0 0]] 8 rfl (World.shaped_of_RefB (by kernel_rfl) (by kernel_rfl)) (by kernel_rfl) (by kernel_rfl) (by kernel_rfl) (door_met os _)) ?_
  intro W base args ds gs before hval0 hW _ _ hL _
  have hval : ∀ (j : Nat) t v, Tryd.f6.params[j]? = some t → args[j]? = some v → Value.okWide Tryd.prog W .any base t v := hval0
  have hW' := hW
  obtain ⟨p, q, hA0, hV, rfl, hfz, hnd⟩ := hW
  have hA : DataW.TrodAll enc Tryd.prog W 0 (fun _ => true) true Tryd.f6.params.toList args.toList ds p := hA0
  rw [Tryd.params6] at hA hval
  obtain ⟨v0, vs0, d0, ds0, p0, q0, hargs, rfl, rfl, h0, r0⟩ := trodAll_cons hA
  obtain ⟨rfl, rfl, rfl⟩ := trodAll_nil r0
  obtain rfl : args = #[v0] := by cases args; simp_all
  obtain ⟨rfl, rfl⟩ := trodVars_none hV

  have k0 := h0
  have lt0 : ∀ x ∈ p0, x.block < W.heap.size := by obtain ⟨m, hm⟩ := k0; exact DataW.trod_lt m _ _ _ hm
  obtain ⟨c00, c01, y00, y01, m0, rfl, rfl, rfl, e00, e01⟩ := Go.Joins.open_agg2 Tryd.underlying42 (by kernel_rfl) (by kernel_rfl) (hval 0 42 v0 rfl rfl) h0
  obtain ⟨n0, q00, -, -⟩ := DataW.trod_int Tryd.underlying2 e00
  simp at q00; subst q00
  obtain ⟨a0, len0, cap0, z0, rfl, w0⟩ : ∃ a len cap zs, c01 = .slice a len cap ∧ IsRow .i64 W a len cap zs := by
    rcases open_ints Tryd.underlying28 Tryd.underlying2 (by kernel_rfl) e01 with ⟨hcs, _⟩ | ⟨x, l, c, zs, hcs, _, hl, hm, hz, _, hcell, hwz⟩
    · simp at hcs; exact ⟨none, 0, 0, [], hcs, .inl ⟨rfl, rfl, rfl, rfl⟩⟩
    · simp at hcs; exact ⟨some x, l, c, zs, hcs, .inr ⟨_, rfl, hl, hm, by simpa using hz, hcell, hwz⟩⟩
  clear hA0 hval0
  refine (walk n0 a0 len0 cap0 z0 W w0 (tab_of_laid hL)).mono fun e W' ⟨he, bel⟩ => ?_
  subst he
  exact ⟨_, rfl, _, _, _, [], _, [], hW', trodAll_mk1 (shut_bool Tryd.underlying4 _), (trodAll_cons_mk (Below.trod laidOut (by kernel_rfl) (of_decide_eq_true (by kernel_rfl)) k0 bel lt0) trodAll_mk0), rfl, bel.frame _, fun h => by cases h⟩

theorem over : Rows.fnExactEngineTextRow.holds Tryd.pinned (OpenSpec.ofChange Rows.fnExactEngineTextSpec) :=
  OpenClaim.holds_of_wide 6 Tryd.f6 rfl rfl rfl rfl rfl rfl rfl ⟨rfl, rfl, rfl, rfl, rfl⟩ rfl rfl rfl rfl rfl (by kernel_rfl) Tryd.func6 (by kernel_rfl)
    (of_decide_eq_true (by kernel_rfl)) (by unfold Func.isWrapper; first | (rw [if_pos (by decide +kernel)]; kernel_rfl) | (rw [if_neg (by decide +kernel)]; exact ⟨rfl, rfl⟩))
    (fun os started H enc _ => lifted os started H enc)

theorem proved : Rows.FnExactEngineTextCardSaid :=
  Claim7.holds_tied_plain_at .later [] [.data, .data, .data] true (true, "d00711664a8f31de06e55a721d79665ffefde19273e2505f4918150e1bab782e") false
    over (fun _ h => by cases h) (by kernel_rfl) (fun _ h => by cases h) fnExactEngineText_row_tie rfl ⟨rfl, rfl⟩ (by kernel_rfl) rfl
    (fun f fn hf hfn => by
      obtain rfl : f = 6 := Option.some.inj ((show Tryd.prog.funcNamed "loop.example/g00930/laws.FnExactEngineText" = some 6 by kernel_rfl).symm.trans hf) |>.symm
      obtain rfl : fn = Tryd.f6 := (Option.some.inj (Tryd.func6.symm.trans hfn)).symm
      exact ⟨by kernel_rfl, fun j t ht => by
        rw [Tryd.params6] at ht
        have hm : t ∈ [42] := by simpa using Array.mem_of_getElem? ht
        have hall : ([42].all fun u => !Tryd.prog.wantsStandIn u) = true := by kernel_rfl
        exact (show Tryd.prog.wantsStandIn t = false by simpa using List.all_eq_true.1 hall t hm)⟩)
    (by kernel_rfl)
#print axioms proved
end Go.Proofs.YtkhjmokjbiepgaaDoor.fnExactEngineText
