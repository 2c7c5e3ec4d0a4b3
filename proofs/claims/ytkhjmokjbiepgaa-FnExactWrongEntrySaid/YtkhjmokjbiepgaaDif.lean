/- Differences of lists of numbers: the functions of both packages. -/
import Derived.IntWalk
import Derived.Deep.RegionHeld3
import Derived.Deep.AppendLies
import Derived.Test.YtkhjmokjbiepgaaInts
import Derived.Test.YtkhjmokjbiepgaaDifP
namespace Go.Proofs.Ytkhjmokjbiepgaa
open Go.ChangeShapes Go.WideShapes Go.ChangeAt Go.RowKit
theorem impl_copyNumbers {B : Nat} {v : Value} {zs : List Int} (w : World) (h : Own w B v zs) (hl : zs.length ≤ 1000000) :
    Calls Try.prog 73 #[v] w (RetOwn w zs) := by
  have HO := Lib.hid h; clear h
  go_enter Try.func73, Try.ntmps73
  go_wp2_with (at_builtin; refine wp_apps rfl _ _ rfl (own_empty w w.heap.size (Nat.le_refl _)) (own_alloc HO.out _) rfl rfl (by simp; omega) (by simp) ?_; intro v' w' ho' hg')
  have HF := Lib.hid (grown_below ((Below.refl w.heap.size w).alloc (Nat.le_refl _) _) (own_empty w w.heap.size (Nat.le_refl _)) hg' (Nat.le_refl _) (by simp))
  have HO' := Lib.hid ho'; clear ho' hg'
  go_ret
  exact ⟨_, rfl, by simpa using HO'.out, HF.out⟩
set_option maxHeartbeats 1000000 in
theorem impl_lessBefore {B : Nat} {v : Value} {zs : List Int} (w : World) (h : Own w B v zs) (hl : zs.length ≤ 30) (hb : bdd 1000000000000000000 zs) :
    Calls Try.prog 88 #[v] w (RetOwn w (dif zs)) := by
  obtain ⟨a, cap, rfl, hm, hc⟩ := own_form h
  have HC := Lib.hid hc; have HBD := Lib.hid hb; have HLT := Lib.hid (own_block_lt h); clear hc h hb
  go_enter Try.func88, Try.ntmps88
  go_wp2_with fail
  go_loopw [3, 4] (fun o i wr => ∃ j : Nat, (j = 0 ∨ j + 1 ≤ zs.length) ∧ i = .int .i64 (j + 1) ∧ Own wr w.heap.size o ((dif zs).take j) ∧ Below w.heap.size w wr ∧ w.heap.size ≤ wr.heap.size) (fun _ i _ => (100 - intOf i).toNat)
  case atStart => exact ⟨0, .inl rfl, rfl, own_empty _ _ (Nat.le_refl _), (Below.refl _ _).alloc (Nat.le_refl _) _, by simp⟩
  case round =>
    obtain ⟨j, hj, rfl, ho, hbw, hs⟩ := hrel
    have HO := Lib.hid ho; have HB := Lib.hid hbw; clear ho hbw
    by_cases hlt : j + 1 < zs.length
    · obtain ⟨g, rfl, q0⟩ := HC.out j (by omega)
      obtain ⟨g', e', q1⟩ := HC.out (j + 1) hlt
      obtain rfl : g = g' := by simpa using e'
      clear e'
      have gl := (HLT.out g rfl).2
      have q2 : wr.cell? ⟨g, j, none⟩ = some (.int .i64 (nth zs j)) := by rw [HB.out.cell (p := ⟨g, j, none⟩) gl]; exact q0
      have q3 : wr.cell? ⟨g, j + 1, none⟩ = some (.int .i64 (nth zs (j + 1))) := by rw [HB.out.cell (p := ⟨g, j + 1, none⟩) gl]; exact q1
      clear q0 q1
      have bj := bdd_at HBD.out (i := j) (by omega)
      have bk := bdd_at HBD.out (i := j + 1) hlt
      have e1 : IntKind.i64.wrap (nth zs (j + 1) - nth zs j) = nth zs (j + 1) - nth zs j := IntWalk.i64_in _ (by unfold nth; omega)
      have e2 : IntKind.i64.wrap ((j : Int) + 1 - 1) = (j : Int) := by rw [show (j : Int) + 1 - 1 = j by omega]; exact IntWalk.i64_in _ (by omega)
      go_wp2
      have e3 : IntKind.i64.wrap (j : Int) = (j : Int) := IntWalk.i64_in _ (by omega)
      have i1 : (0 : Int) ≤ (j : Int) + 1 := by omega
      have i2 : (j : Int) + 1 < (zs.length : Int) := by omega
      have i3 : (0 : Int) ≤ (j : Int) := by omega
      have i4 : (j : Int) < (zs.length : Int) := by omega
      have i5 : ((j : Int) + 1).toNat = j + 1 := by omega
      have ne : u3.ownBlock ≠ some g := fun e => by have := (own_block_lt HO.out g e).1; omega
      have gl2 : g < wr.heap.size := by omega
      go_region_held3 (fun w' => w'.cell? ⟨g, j, none⟩ = some (.int .i64 (nth zs j)) ∧ w'.cell? ⟨g, j + 1, none⟩ = some (.int .i64 (nth zs (j + 1))))
        (first | go_keep | (go_split_ands; refine ⟨?_, ?_⟩ <;> (rw [hg'.cell_far _ (by simp; omega) (Ne.symm ne)]; assumption)))
        ((refine step_app (by rfl) _ _ (by rfl) _ _ (own_drew (own_alloc HO.out _)) (by rfl) (by rfl) (by simp; rfl) (by rw [List.length_take]; omega) (by simp; omega) ?_; intro v' w' ho' hg'))
      clear e1 e2 e3 i1 i2 i3 i4 i5 q2 q3
      obtain ⟨hb', hs'⟩ := app_below_d HB.out HO.out hg' (Nat.le_refl _) hs
      have HT := Lib.hid (dif_take hlt)
      have HO' := Lib.hid ho'; have HB' := Lib.hid hb'; clear ho' hb' hg' bj bk
      go_wp2
      go_roundw
      case rel => exact ⟨j + 1, .inr (by omega), by go_num, by rw [HT.out]; exact HO'.out, HB'.out, hs'⟩
      case measure => simp [intOf]; omega
    · have HF := Lib.hid (show (dif zs).take j = dif zs from List.take_of_length_le (by rw [dif_len]; omega))
      go_wp2
      go_ret
      exact ⟨_, rfl, by have := HO.out; rw [HF.out] at this; exact this, HB.out⟩
theorem spec_l00Own {B : Nat} {v : Value} {zs : List Int} (w : World) (h : Own w B v zs) (hl : zs.length ≤ 1000000) :
    Calls Try.prog 32 #[v] w (RetOwn w zs) := by
  have HO := Lib.hid h; clear h
  go_enter Try.func32, Try.ntmps32
  go_wp2_with (at_builtin; refine wp_apps rfl _ _ rfl (own_empty w w.heap.size (Nat.le_refl _)) (own_alloc HO.out _) rfl rfl (by simp; omega) (by simp) ?_; intro v' w' ho' hg')
  have HF := Lib.hid (grown_below ((Below.refl w.heap.size w).alloc (Nat.le_refl _) _) (own_empty w w.heap.size (Nat.le_refl _)) hg' (Nat.le_refl _) (by simp))
  have HO' := Lib.hid ho'; clear ho' hg'
  go_ret
  exact ⟨_, rfl, by simpa using HO'.out, HF.out⟩
set_option maxHeartbeats 1000000 in
theorem spec_l15Next {B : Nat} {v : Value} {zs : List Int} (w : World) (h : Own w B v zs) (hl : zs.length ≤ 30) (hb : bdd 1000000000000000000 zs) :
    Calls Try.prog 86 #[v] w (RetOwn w (dif zs)) := by
  obtain ⟨a, cap, rfl, hm, hc⟩ := own_form h
  have HC := Lib.hid hc; have HBD := Lib.hid hb; have HLT := Lib.hid (own_block_lt h); clear hc h hb
  go_enter Try.func86, Try.ntmps86
  go_wp2_with fail
  go_loopw [3, 4] (fun o i wr => ∃ j : Nat, (j = 0 ∨ j + 1 ≤ zs.length) ∧ i = .int .i64 (j + 1) ∧ Own wr w.heap.size o ((dif zs).take j) ∧ Below w.heap.size w wr ∧ w.heap.size ≤ wr.heap.size) (fun _ i _ => (100 - intOf i).toNat)
  case atStart => exact ⟨0, .inl rfl, rfl, own_empty _ _ (Nat.le_refl _), (Below.refl _ _).alloc (Nat.le_refl _) _, by simp⟩
  case round =>
    obtain ⟨j, hj, rfl, ho, hbw, hs⟩ := hrel
    have HO := Lib.hid ho; have HB := Lib.hid hbw; clear ho hbw
    by_cases hlt : j + 1 < zs.length
    · obtain ⟨g, rfl, q0⟩ := HC.out j (by omega)
      obtain ⟨g', e', q1⟩ := HC.out (j + 1) hlt
      obtain rfl : g = g' := by simpa using e'
      clear e'
      have gl := (HLT.out g rfl).2
      have q2 : wr.cell? ⟨g, j, none⟩ = some (.int .i64 (nth zs j)) := by rw [HB.out.cell (p := ⟨g, j, none⟩) gl]; exact q0
      have q3 : wr.cell? ⟨g, j + 1, none⟩ = some (.int .i64 (nth zs (j + 1))) := by rw [HB.out.cell (p := ⟨g, j + 1, none⟩) gl]; exact q1
      clear q0 q1
      have bj := bdd_at HBD.out (i := j) (by omega)
      have bk := bdd_at HBD.out (i := j + 1) hlt
      have e1 : IntKind.i64.wrap (nth zs (j + 1) - nth zs j) = nth zs (j + 1) - nth zs j := IntWalk.i64_in _ (by unfold nth; omega)
      have e2 : IntKind.i64.wrap ((j : Int) + 1 - 1) = (j : Int) := by rw [show (j : Int) + 1 - 1 = j by omega]; exact IntWalk.i64_in _ (by omega)
      go_wp2
      have e3 : IntKind.i64.wrap (j : Int) = (j : Int) := IntWalk.i64_in _ (by omega)
      have i1 : (0 : Int) ≤ (j : Int) + 1 := by omega
      have i2 : (j : Int) + 1 < (zs.length : Int) := by omega
      have i3 : (0 : Int) ≤ (j : Int) := by omega
      have i4 : (j : Int) < (zs.length : Int) := by omega
      have i5 : ((j : Int) + 1).toNat = j + 1 := by omega
      have ne : u3.ownBlock ≠ some g := fun e => by have := (own_block_lt HO.out g e).1; omega
      have gl2 : g < wr.heap.size := by omega
      go_region_held3 (fun w' => w'.cell? ⟨g, j, none⟩ = some (.int .i64 (nth zs j)) ∧ w'.cell? ⟨g, j + 1, none⟩ = some (.int .i64 (nth zs (j + 1))))
        (first | go_keep | (go_split_ands; refine ⟨?_, ?_⟩ <;> (rw [hg'.cell_far _ (by simp; omega) (Ne.symm ne)]; assumption)))
        ((refine step_app (by rfl) _ _ (by rfl) _ _ (own_drew (own_alloc HO.out _)) (by rfl) (by rfl) (by simp; rfl) (by rw [List.length_take]; omega) (by simp; omega) ?_; intro v' w' ho' hg'))
      clear e1 e2 e3 i1 i2 i3 i4 i5 q2 q3
      obtain ⟨hb', hs'⟩ := app_below_d HB.out HO.out hg' (Nat.le_refl _) hs
      have HT := Lib.hid (dif_take hlt)
      have HO' := Lib.hid ho'; have HB' := Lib.hid hb'; clear ho' hb' hg' bj bk
      go_wp2
      go_roundw
      case rel => exact ⟨j + 1, .inr (by omega), by go_num, by rw [HT.out]; exact HO'.out, HB'.out, hs'⟩
      case measure => simp [intOf]; omega
    · have HF := Lib.hid (show (dif zs).take j = dif zs from List.take_of_length_le (by rw [dif_len]; omega))
      go_wp2
      go_ret
      exact ⟨_, rfl, by have := HO.out; rw [HF.out] at this; exact this, HB.out⟩
end Go.Proofs.Ytkhjmokjbiepgaa
