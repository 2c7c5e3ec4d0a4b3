/- The functions that give the name of a kind: each returns what one plain function of the kind says, and makes new memory at most. -/
import Derived.Test.YthckgjlljodkhaaBase
namespace Go.Proofs.Ythckgjlljodkhaa
open Go.ChangeShapes Go.WideShapes Go.ChangeAt Go.RowKit
def lfName (k : Int) : ByteArray := if k = 0 then "none".toUTF8 else if k = 1 then "word".toUTF8 else if k = 2 then "number".toUTF8 else if k = 3 then "open".toUTF8 else if k = 4 then "end".toUTF8 else if k = 5 then "deep".toUTF8 else ByteArray.empty
theorem lfName_out {k : Int} (h : k < 0 ∨ 5 < k) : lfName k = ByteArray.empty := by
  unfold lfName
  repeat rw [if_neg (by omega)]

set_option maxHeartbeats 400000 in
theorem spec_LineFaultName (k : Int) (w : World) :
    Calls Try.prog 9 #[.int .i64 k] w fun e w' => e = .returned (.string (lfName k)) ∧ Below w.heap.size w w' := by
  have h : (k < 0 ∨ 5 < k) ∨ k = 0 ∨ k = 1 ∨ k = 2 ∨ k = 3 ∨ k = 4 ∨ k = 5 := by omega
  rcases h with h | rfl | rfl | rfl | rfl | rfl | rfl
  · rw [lfName_out h]
    have hb := inB_false h
    go_enter Try.func9, Try.ntmps9
    go_wp2_with (go_at_call 21; refine (spec_l00In _ _ _ _).mono ?_; rintro e w' ⟨rfl, rfl⟩)
    all_goals go_ret
    all_goals exact ⟨rfl, by (repeat (first | exact Below.refl _ _ | apply Below.drew | refine Below.alloc ?_ ?_ _)) <;> simp⟩
  all_goals
    go_enter Try.func9, Try.ntmps9
    go_wp2_with (go_at_call 21; refine (spec_l00In _ _ _ _).mono ?_; rintro e w' ⟨rfl, rfl⟩; rw [inB_true (by omega) (by omega)])
    go_ret
    exact ⟨rfl, by (repeat (first | exact Below.refl _ _ | apply Below.drew | refine Below.alloc ?_ ?_ _)) <;> simp⟩

set_option maxHeartbeats 400000 in
theorem impl_LineFaultName (k : Int) (w : World) :
    Calls Try.prog 10 #[.int .i64 k] w fun e w' => e = .returned (.string (lfName k)) ∧ Below w.heap.size w w' := by
  have h : (k < 0 ∨ 5 < k) ∨ k = 0 ∨ k = 1 ∨ k = 2 ∨ k = 3 ∨ k = 4 ∨ k = 5 := by omega
  rcases h with h | rfl | rfl | rfl | rfl | rfl | rfl
  · rw [lfName_out h]
    have hb := inB_false h
    go_enter Try.func10, Try.ntmps10
    go_wp2_with (go_at_call 22; refine (impl_between _ _ _ _).mono ?_; rintro e w' ⟨rfl, rfl⟩)
    all_goals go_ret
    all_goals exact ⟨rfl, by (repeat (first | exact Below.refl _ _ | apply Below.drew | refine Below.alloc ?_ ?_ _)) <;> simp⟩
  all_goals
    go_enter Try.func10, Try.ntmps10
    go_wp2_with (go_at_call 22; refine (impl_between _ _ _ _).mono ?_; rintro e w' ⟨rfl, rfl⟩; rw [inB_true (by omega) (by omega)])
    go_ret
    exact ⟨rfl, by (repeat (first | exact Below.refl _ _ | apply Below.drew | refine Below.alloc ?_ ?_ _)) <;> simp⟩

def stName (k : Int) : ByteArray := if k = 1 then "add".toUTF8 else if k = 2 then "sub".toUTF8 else if k = 3 then "right".toUTF8 else if k = 4 then "left".toUTF8 else if k = 5 then "clear".toUTF8 else if k = 6 then "zero".toUTF8 else ByteArray.empty
theorem stName_out {k : Int} (h : k < 1 ∨ 6 < k) : stName k = ByteArray.empty := by
  unfold stName
  repeat rw [if_neg (by omega)]

set_option maxHeartbeats 400000 in
theorem spec_StrokeName (k : Int) (w : World) :
    Calls Try.prog 11 #[.int .i64 k] w fun e w' => e = .returned (.string (stName k)) ∧ Below w.heap.size w w' := by
  have h : (k < 1 ∨ 6 < k) ∨ k = 1 ∨ k = 2 ∨ k = 3 ∨ k = 4 ∨ k = 5 ∨ k = 6 := by omega
  rcases h with h | rfl | rfl | rfl | rfl | rfl | rfl
  · rw [stName_out h]
    have hb := inB_false h
    go_enter Try.func11, Try.ntmps11
    go_wp2_with (go_at_call 23; refine (spec_l10Kind _ _).mono ?_; rintro e w' ⟨rfl, rfl⟩)
    all_goals go_ret
    all_goals exact ⟨rfl, by (repeat (first | exact Below.refl _ _ | apply Below.drew | refine Below.alloc ?_ ?_ _)) <;> simp⟩
  all_goals
    go_enter Try.func11, Try.ntmps11
    go_wp2_with (go_at_call 23; refine (spec_l10Kind _ _).mono ?_; rintro e w' ⟨rfl, rfl⟩; rw [inB_true (by omega) (by omega)])
    go_ret
    exact ⟨rfl, by (repeat (first | exact Below.refl _ _ | apply Below.drew | refine Below.alloc ?_ ?_ _)) <;> simp⟩

set_option maxHeartbeats 400000 in
theorem impl_StrokeName (k : Int) (w : World) :
    Calls Try.prog 12 #[.int .i64 k] w fun e w' => e = .returned (.string (stName k)) ∧ Below w.heap.size w w' := by
  have h : (k < 1 ∨ 6 < k) ∨ k = 1 ∨ k = 2 ∨ k = 3 ∨ k = 4 ∨ k = 5 ∨ k = 6 := by omega
  rcases h with h | rfl | rfl | rfl | rfl | rfl | rfl
  · rw [stName_out h]
    have hb := inB_false h
    go_enter Try.func12, Try.ntmps12
    go_wp2_with (go_at_call 24; refine (impl_isStroke _ _).mono ?_; rintro e w' ⟨rfl, rfl⟩)
    all_goals go_ret
    all_goals exact ⟨rfl, by (repeat (first | exact Below.refl _ _ | apply Below.drew | refine Below.alloc ?_ ?_ _)) <;> simp⟩
  all_goals
    go_enter Try.func12, Try.ntmps12
    go_wp2_with (go_at_call 24; refine (impl_isStroke _ _).mono ?_; rintro e w' ⟨rfl, rfl⟩; rw [inB_true (by omega) (by omega)])
    go_ret
    exact ⟨rfl, by (repeat (first | exact Below.refl _ _ | apply Below.drew | refine Below.alloc ?_ ?_ _)) <;> simp⟩

def prName (k : Int) : ByteArray := if k = 1 then "times".toUTF8 else if k = 2 then "quotient".toUTF8 else if k = 3 then "keep".toUTF8 else if k = 4 then "zero".toUTF8 else ByteArray.empty
theorem prName_out {k : Int} (h : k < 1 ∨ 4 < k) : prName k = ByteArray.empty := by
  unfold prName
  repeat rw [if_neg (by omega)]

set_option maxHeartbeats 400000 in
theorem spec_PromiseName (k : Int) (w : World) :
    Calls Try.prog 13 #[.int .i64 k] w fun e w' => e = .returned (.string (prName k)) ∧ Below w.heap.size w w' := by
  have h : (k < 1 ∨ 4 < k) ∨ k = 1 ∨ k = 2 ∨ k = 3 ∨ k = 4 := by omega
  rcases h with h | rfl | rfl | rfl | rfl
  · rw [prName_out h]
    have hb := inB_false h
    go_enter Try.func13, Try.ntmps13
    go_wp2_with (go_at_call 25; refine (spec_l14Kind _ _).mono ?_; rintro e w' ⟨rfl, rfl⟩)
    all_goals go_ret
    all_goals exact ⟨rfl, by (repeat (first | exact Below.refl _ _ | apply Below.drew | refine Below.alloc ?_ ?_ _)) <;> simp⟩
  all_goals
    go_enter Try.func13, Try.ntmps13
    go_wp2_with (go_at_call 25; refine (spec_l14Kind _ _).mono ?_; rintro e w' ⟨rfl, rfl⟩; rw [inB_true (by omega) (by omega)])
    go_ret
    exact ⟨rfl, by (repeat (first | exact Below.refl _ _ | apply Below.drew | refine Below.alloc ?_ ?_ _)) <;> simp⟩

set_option maxHeartbeats 400000 in
theorem impl_PromiseName (k : Int) (w : World) :
    Calls Try.prog 14 #[.int .i64 k] w fun e w' => e = .returned (.string (prName k)) ∧ Below w.heap.size w w' := by
  have h : (k < 1 ∨ 4 < k) ∨ k = 1 ∨ k = 2 ∨ k = 3 ∨ k = 4 := by omega
  rcases h with h | rfl | rfl | rfl | rfl
  · rw [prName_out h]
    go_enter Try.func14, Try.ntmps14
    go_wp2
    all_goals go_ret
    all_goals exact ⟨rfl, by (repeat (first | exact Below.refl _ _ | apply Below.drew | refine Below.alloc ?_ ?_ _)) <;> simp⟩
  all_goals
    go_enter Try.func14, Try.ntmps14
    go_wp2
    go_ret
    exact ⟨rfl, by (repeat (first | exact Below.refl _ _ | apply Below.drew | refine Below.alloc ?_ ?_ _)) <;> simp⟩
end Go.Proofs.Ythckgjlljodkhaa
