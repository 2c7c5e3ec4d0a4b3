/- Engines: whether one is valid: both packages return the same plain function. -/
import Derived.IntWalk
import Derived.Test.YtkhjmokjbiepgaaDoorAgg
import Derived.Test.YtkhjmokjbiepgaaDoorPow
namespace Go.Proofs.YtkhjmokjbiepgaaDoor
open Go.ChangeShapes Go.WideShapes Go.ChangeAt Go.RowKit
def isCol (wd c : Int) : Bool := inB c 0 (ipow 10 wd.toNat - 1)
def validE (wd : Int) (cs : List Int) : Bool := inB wd 1 12 && (inB cs.length 1 9 && cs.all (isCol wd))
theorem below_a (w : World) (o : Obj) : Below w.heap.size w (w.alloc o) := (Below.refl _ _).alloc (Nat.le_refl _) o
theorem ret_b {c d : Bool} (h2 : c = d) : Ending.returned (.bool c) = .returned (.bool d) := by rw [h2]
theorem below_dd (w : World) (n m : Nat) : Below w.heap.size w ((w.drewN n).drewN m) := (below_drewN w n).trans (below_drewN (w.drewN n) m)
set_option maxHeartbeats 2000000 in
theorem impl_ValidEngine {B : Nat} {v : Value} {xs : List Int} (b : Int) (w : World) (h : Own w B v xs) (hlen : xs.length ≤ 1048576) :
    Calls Tryd.prog 40 #[.agg #[.int .i64 b, v]] w (RetV w (.bool (validE b xs))) := by
  have HO := Lib.hid h
  obtain ⟨a1, c1, rfl, m1, q1⟩ := own_form h
  have QQ := Lib.hid q1; clear q1 h
  cases hb : inB b 1 12
  · have hw := Lib.hid hb
    have HR := Lib.hid (show validE b xs = false from by simp [validE, hb])
    clear hb
    go_enter Tryd.func40, Tryd.ntmps40
    go_wp2_with fail
    refine (impl_isEngineWidth _ _).mono ?_; rintro e w' ⟨rfl, rfl⟩; rw [hw.out]
    go_wp2_with fail
    go_ret
    exact ⟨ret_b HR.out.symm, below_a _ _⟩
  have hw := Lib.hid hb
  obtain ⟨b0, b1⟩ := inB_iff.1 hb
  cases hl : inB xs.length 1 9
  · have hn := Lib.hid hl
    have HR := Lib.hid (show validE b xs = false from by simp [validE, hb, hl])
    clear hb hl
    go_enter Tryd.func40, Tryd.ntmps40
    go_wp2_with fail
    refine (impl_isEngineWidth _ _).mono ?_; rintro e w' ⟨rfl, rfl⟩; rw [hw.out]
    go_wp2_with fail
    refine (impl_between _ _ _ _).mono ?_; rintro e w' ⟨rfl, rfl⟩; rw [hn.out]
    go_wp2_with fail
    go_ret
    exact ⟨ret_b HR.out.symm, below_a _ _⟩
  have hn := Lib.hid hl
  have HR := Lib.hid (show validE b xs = xs.all (isCol b) from by simp [validE, hb, hl])
  clear hb hl
  obtain ⟨t1, t2, t3⟩ := ten_bd (n := b.toNat) (by omega)
  have HT := Lib.hid t1; clear t1
  go_enter Tryd.func40, Tryd.ntmps40
  go_wp2_with fail
  refine (impl_isEngineWidth _ _).mono ?_; rintro e w' ⟨rfl, rfl⟩; rw [hw.out]
  go_wp2_with fail
  refine (impl_between _ _ _ _).mono ?_; rintro e w' ⟨rfl, rfl⟩; rw [hn.out]
  go_wp2_with fail
  go_loop [4, 19] (fun _ i => ∃ j : Nat, j ≤ xs.length ∧ i = .int .i64 j ∧ Hid ((xs.take j).all (isCol b) = true)) (fun _ i => xs.length - (intOf i).toNat)
  case atStart => exact ⟨0, Nat.zero_le _, rfl, rfl⟩
  case round =>
    obtain ⟨j, hj, rfl, hall⟩ := hrel
    by_cases hlt : j < xs.length
    · obtain ⟨g, rfl, q⟩ := QQ.out j hlt
      have gl := World.block_lt_of_cell? w _ q
      cases hp : inB (nth xs j) 0 (ipow 10 b.toNat - 1)
      · have HF := Lib.hid (show xs.all (isCol b) = false from all_fail (p := isCol b) hlt hp)
        have HP := Lib.hid hp; clear hp
        go_wp2_with fail
        refine (impl_modulus _ _ (by omega) (by omega)).mono ?_; rintro e w' ⟨rfl, rfl⟩
        go_wp2_with fail
        refine (impl_between _ _ _ _).mono ?_; rintro e w' ⟨rfl, rfl⟩; rw [HP.out]
        go_wp2_with fail
        go_ret
        exact ⟨ret_b (by rw [HR.out, HF.out]), below_a _ _⟩
      · have HF := Lib.hid (all_step (p := isCol b) hlt hall.out hp)
        have HP := Lib.hid hp; clear hp
        go_wp2_with fail
        refine (impl_modulus _ _ (by omega) (by omega)).mono ?_; rintro e w' ⟨rfl, rfl⟩
        go_wp2_with fail
        refine (impl_between _ _ _ _).mono ?_; rintro e w' ⟨rfl, rfl⟩; rw [HP.out]
        go_wp2_with fail
        go_round
        case rel => exact ⟨j + 1, by omega, by go_num, HF.out⟩
        case measure => first | (simp [intOf]; done) | (simp [intOf]; omega)
    · have HA := Lib.hid (show xs.all (isCol b) = true from all_done (p := isCol b) hlt hall.out)
      clear hall
      go_wp2_with fail
      go_ret
      exact ⟨ret_b (by rw [HR.out, HA.out]), below_a _ _⟩
set_option maxHeartbeats 2000000 in
theorem spec_l16Ok {B : Nat} {v : Value} {xs : List Int} (b : Int) (g0 : Nat) (w : World) (h : Own w B v xs) (hc0 : w.cell? ⟨g0, 0, none⟩ = some (.int .i64 b)) (hc1 : w.cell? ⟨g0, 1, none⟩ = some v) (hlen : xs.length ≤ 1048576) :
    Calls Tryd.prog 38 #[.pointer (some ⟨g0, 0, none⟩)] w (RetV w (.bool (validE b xs))) := by
  have HO := Lib.hid h
  obtain ⟨a1, c1, rfl, m1, q1⟩ := own_form h
  have QQ := Lib.hid q1; clear q1 h
  cases hb : inB b 1 12
  · have hw := Lib.hid hb
    have HR := Lib.hid (show validE b xs = false from by simp [validE, hb])
    clear hb
    go_enter Tryd.func38, Tryd.ntmps38
    go_wp2_with fail
    refine (spec_l16Width _ _).mono ?_; rintro e w' ⟨rfl, rfl⟩; rw [hw.out]
    go_wp2_with fail
    go_ret
    exact ⟨ret_b HR.out.symm, Below.refl _ _⟩
  have hw := Lib.hid hb
  obtain ⟨b0, b1⟩ := inB_iff.1 hb
  cases hl : inB xs.length 1 9
  · have hn := Lib.hid hl
    have HR := Lib.hid (show validE b xs = false from by simp [validE, hb, hl])
    clear hb hl
    go_enter Tryd.func38, Tryd.ntmps38
    go_wp2_with fail
    refine (spec_l16Width _ _).mono ?_; rintro e w' ⟨rfl, rfl⟩; rw [hw.out]
    go_wp2_with fail
    refine (spec_l00In _ _ _ _).mono ?_; rintro e w' ⟨rfl, rfl⟩; rw [hn.out]
    go_wp2_with fail
    go_ret
    exact ⟨ret_b HR.out.symm, Below.refl _ _⟩
  have hn := Lib.hid hl
  have HR := Lib.hid (show validE b xs = xs.all (isCol b) from by simp [validE, hb, hl])
  clear hb hl
  obtain ⟨t1, t2, t3⟩ := ten_bd (n := b.toNat) (by omega)
  have HT := Lib.hid t1; clear t1
  go_enter Tryd.func38, Tryd.ntmps38
  go_wp2_with fail
  refine (spec_l16Width _ _).mono ?_; rintro e w' ⟨rfl, rfl⟩; rw [hw.out]
  go_wp2_with fail
  refine (spec_l00In _ _ _ _).mono ?_; rintro e w' ⟨rfl, rfl⟩; rw [hn.out]
  go_wp2_with fail
  go_loopw [3] (fun i wr => ∃ j : Nat, j ≤ xs.length ∧ i = .int .i64 j ∧ Hid ((xs.take j).all (isCol b) = true) ∧ ∃ n, wr = w.drewN n) (fun i _ => xs.length - (intOf i).toNat)
  case atStart => exact ⟨0, Nat.zero_le _, rfl, rfl, 0, rfl⟩
  case round =>
    obtain ⟨j, hj, rfl, hall, n, rfl⟩ := hrel
    by_cases hlt : j < xs.length
    · obtain ⟨g, rfl, q⟩ := QQ.out j hlt
      cases hp : inB (nth xs j) 0 (ipow 10 b.toNat - 1)
      · have HF := Lib.hid (show xs.all (isCol b) = false from all_fail (p := isCol b) hlt hp)
        have HP := Lib.hid hp; clear hp
        have v1 : IntKind.i64.wrap (ipow 10 b.toNat - 1) = ipow 10 b.toNat - 1 := IntWalk.i64_in _ (by omega)
        have i0 : (0 : Int) ≤ (j : Int) := by omega
        have i1 : (j : Int) < (xs.length : Int) := by omega
        have K := Lib.hid (fun wx => show Calls Tryd.prog 51 #[.int .i64 10, .int .i64 b] wx (fun e w' => e = .returned (.int .i64 (ipow 10 b.toNat)) ∧ wx = w') from by rw [← HT.out]; exact spec_l10Power 10 b wx (by omega) (by omega) (by omega) (by omega))
        have K2 := Lib.hid (fun wx => show Calls Tryd.prog 26 #[.int .i64 (nth xs j), .int .i64 0, .int .i64 (ipow 10 b.toNat - 1)] wx (fun e w' => e = .returned (.bool (inB (nth xs j) 0 (ipow 10 b.toNat - 1))) ∧ wx = w') from spec_l00In _ _ _ wx)
        rw [HP.out] at K2
        go_wp2_with fail
        go_quiet ((first | (go_at_call 51; exact quiet_same2 (K.out _)) | (go_at_call 26; exact quiet_same2 (K2.out _))))
        clear v1 i0 i1
        go_wp2_with fail
        go_ret
        exact ⟨ret_b (by rw [HR.out, HF.out]), by first | exact below_drewN _ _ | exact below_dd _ _ _⟩
      · have HF := Lib.hid (all_step (p := isCol b) hlt hall.out hp)
        have HP := Lib.hid hp; clear hp
        have v1 : IntKind.i64.wrap (ipow 10 b.toNat - 1) = ipow 10 b.toNat - 1 := IntWalk.i64_in _ (by omega)
        have i0 : (0 : Int) ≤ (j : Int) := by omega
        have i1 : (j : Int) < (xs.length : Int) := by omega
        have K := Lib.hid (fun wx => show Calls Tryd.prog 51 #[.int .i64 10, .int .i64 b] wx (fun e w' => e = .returned (.int .i64 (ipow 10 b.toNat)) ∧ wx = w') from by rw [← HT.out]; exact spec_l10Power 10 b wx (by omega) (by omega) (by omega) (by omega))
        have K2 := Lib.hid (fun wx => show Calls Tryd.prog 26 #[.int .i64 (nth xs j), .int .i64 0, .int .i64 (ipow 10 b.toNat - 1)] wx (fun e w' => e = .returned (.bool (inB (nth xs j) 0 (ipow 10 b.toNat - 1))) ∧ wx = w') from spec_l00In _ _ _ wx)
        rw [HP.out] at K2
        go_wp2_with fail
        go_quiet ((first | (go_at_call 51; exact quiet_same2 (K.out _)) | (go_at_call 26; exact quiet_same2 (K2.out _))))
        clear v1 i0 i1
        go_wp2_with fail
        go_roundw
        case rel => exact ⟨j + 1, by omega, by go_num, HF.out, by first | exact ⟨_, rfl⟩ | skip⟩
        case measure => first | (simp [intOf]; done) | (simp [intOf]; omega)
    · have HA := Lib.hid (show xs.all (isCol b) = true from all_done (p := isCol b) hlt hall.out)
      clear hall
      go_wp2_with fail
      go_ret
      exact ⟨ret_b (by rw [HR.out, HA.out]), by first | exact below_drewN _ _ | exact below_dd _ _ _⟩
end Go.Proofs.YtkhjmokjbiepgaaDoor
