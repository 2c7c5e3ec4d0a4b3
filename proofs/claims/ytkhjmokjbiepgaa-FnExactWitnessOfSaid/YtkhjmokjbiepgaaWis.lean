/- Pieces of the reference for WitnessOf: the carry of a digit with a fault; whether a fault is one. -/
import Derived.IntWalk
import Derived.Deep.QuietTactic
import Derived.Deep.RegionLaw
import Derived.BigQuiet
import Derived.Test.YtkhjmokjbiepgaaWit
namespace Go.Proofs.Ytkhjmokjbiepgaa
open Go.ChangeShapes Go.WideShapes Go.ChangeAt Go.RowKit
theorem div_b {b z : Int} (hb : 2 ≤ b) (h0 : 0 ≤ z) (h1 : z < 2 * b) : z / b = if b ≤ z then 1 else 0 := by
  by_cases h : b ≤ z
  · rw [if_pos h]
    have a : z / b < 2 := Int.ediv_lt_of_lt_mul (by omega) h1
    have c : 1 ≤ z / b := by rw [Int.le_ediv_iff_mul_le (by omega)]; omega
    omega
  · rw [if_neg h]; exact Int.ediv_eq_zero_of_lt h0 (by omega)
set_option maxHeartbeats 1000000 in
theorem spec_l08Carry (b s c kd : Int) (w : World) (hb : 2 ≤ b) (hb2 : b ≤ 16) (hs : 0 ≤ s) (hs2 : s < 2 * b - 1) (hc : 0 ≤ c) (hc2 : c ≤ 1) (hk : 0 ≤ kd) (hk2 : kd ≤ 3) :
    Calls Try.prog 91 #[.int .i64 b, .int .i64 s, .int .i64 c, .int .i64 kd] w fun e w' => e = .returned (.int .i64 (outF b s c kd)) ∧ w = w' := by
  have e1 := div_b hb hs (by omega)
  have e2 := div_b (z := s + c) hb (by omega) (by omega)
  have HO := Lib.hid (show outF b s c kd = if kd = 1 then 0 else if kd = 2 then 1 else if kd = 3 then (if b ≤ s then 1 else 0) else (if b ≤ s + c then 1 else 0) from by unfold outF; rw [e1, e2])
  clear e1 e2
  have w1 : IntKind.i64.wrap (s + c) = s + c := IntWalk.i64_in _ (by omega)
  obtain rfl | rfl | rfl | rfl : kd = 0 ∨ kd = 1 ∨ kd = 2 ∨ kd = 3 := by omega
  · by_cases h1 : b ≤ s + c
    · have HR := Lib.hid (show outF b s c 0 = 1 from by rw [HO.out]; simp [h1])
      go_enter Try.func91, Try.ntmps91
      go_wp2_with fail
      go_ret
      exact ⟨by rw [HR.out]; rfl, rfl⟩
    · have HR := Lib.hid (show outF b s c 0 = 0 from by rw [HO.out]; simp [h1])
      go_enter Try.func91, Try.ntmps91
      go_wp2_with fail
      go_ret
      exact ⟨by rw [HR.out]; rfl, rfl⟩
  · have HR := Lib.hid (show outF b s c 1 = 0 from by rw [HO.out]; simp)
    by_cases h1 : b ≤ s + c
    all_goals
      go_enter Try.func91, Try.ntmps91
      go_wp2_with fail
      go_ret
      exact ⟨by rw [HR.out]; rfl, rfl⟩
  · have HR := Lib.hid (show outF b s c 2 = 1 from by rw [HO.out]; simp)
    by_cases h1 : b ≤ s + c
    all_goals
      go_enter Try.func91, Try.ntmps91
      go_wp2_with fail
      go_ret
      exact ⟨by rw [HR.out]; rfl, rfl⟩
  · by_cases h2 : b ≤ s
    · have HR := Lib.hid (show outF b s c 3 = 1 from by rw [HO.out]; simp [h2])
      have h1 : b ≤ s + c := by omega
      go_enter Try.func91, Try.ntmps91
      go_wp2_with fail
      go_ret
      exact ⟨by rw [HR.out]; rfl, rfl⟩
    · have HR := Lib.hid (show outF b s c 3 = 0 from by rw [HO.out]; simp [h2])
      by_cases h1 : b ≤ s + c
      all_goals
        go_enter Try.func91, Try.ntmps91
        go_wp2_with fail
        go_ret
        exact ⟨by rw [HR.out]; rfl, rfl⟩
set_option maxHeartbeats 4000000 in
set_option maxRecDepth 100000 in
theorem spec_l08Ok (wd kd lv : Int) (gl : Nat) (w : World) (c0 : w.cell? ⟨gl, 0, none⟩ = some (.int .i64 kd)) (c1 : w.cell? ⟨gl, 1, none⟩ = some (.int .i64 lv)) :
    Calls Try.prog 51 #[.int .i64 wd, .slice (some ⟨gl, 0, none⟩) 1 1] w fun e w' => e = .returned (.bool (inB wd 1 16 && (inB kd 1 3 && inB lv 0 (wd - 1)))) ∧ ∃ m, w' = w.drewN m := by
  have C0 := Lib.hid c0; have C1 := Lib.hid c1; clear c0 c1
  cases hw : inB wd 1 16
  · have HW := Lib.hid hw; clear hw
    go_enter Try.func51, Try.ntmps51
    go_wp2_with fail
    refine (spec_l07Size _ _).mono ?_; rintro e w' ⟨rfl, rfl⟩; rw [HW.out]
    go_wp2_with fail
    go_ret
    exact ⟨rfl, 0, rfl⟩
  have hwb := inB_iff.1 hw
  have HW := Lib.hid hw; clear hw
  have K1 := Lib.hid (fun wx => spec_l00In kd 1 3 wx)
  have K2 := Lib.hid (fun wx => spec_l00In lv 0 (wd - 1) wx)
  have ww : IntKind.i64.wrap (wd - 1) = wd - 1 := IntWalk.i64_in _ (by omega)
  generalize inB lv 0 (wd - 1) = bl at *
  generalize inB kd 1 3 = bk at *
  cases bk
  · cases bl
    · go_enter Try.func51, Try.ntmps51
      go_wp2_with fail
      refine (spec_l07Size _ _).mono ?_; rintro e w' ⟨rfl, rfl⟩; rw [HW.out]
      go_wp2_with fail
      go_loopw [5] (fun k wr => (k = .int .i64 0 ∨ (k = .int .i64 1 ∧ Hid False)) ∧ ∃ m, wr = w.drewN m) (fun k _ => (1 - intOf k).toNat)
      case atStart => exact ⟨.inl rfl, 0, rfl⟩
      case round =>
        obtain ⟨hk, m, rfl⟩ := hrel
        have k0 := C0.out
        have k1 := C1.out
        rcases hk with rfl | ⟨rfl, ht⟩
        · go_wp2_with fail
          go_quiet (first | (go_at_call 37; first | with_reducible exact quiet_same (K1.out _) | with_reducible exact quiet_same2 (K1.out _) | with_reducible exact quiet_same (K2.out _) | with_reducible exact quiet_same2 (K2.out _)))
          go_wp2_with fail
          first
            | (go_roundw
               case rel => exact ⟨.inr ⟨rfl, Lib.hid True.intro⟩, by first | exact ⟨_, rfl⟩ | exact drewN_ex _ _ _⟩
               case measure => first | (simp [intOf]; done) | (simp [intOf]; omega))
            | (go_ret; exact ⟨rfl, drewN_ex _ _ _⟩)
        · first
            | (exact absurd ht.out not_false)
            | (go_wp2_with fail; go_ret; exact ⟨rfl, _, rfl⟩)
    · go_enter Try.func51, Try.ntmps51
      go_wp2_with fail
      refine (spec_l07Size _ _).mono ?_; rintro e w' ⟨rfl, rfl⟩; rw [HW.out]
      go_wp2_with fail
      go_loopw [5] (fun k wr => (k = .int .i64 0 ∨ (k = .int .i64 1 ∧ Hid False)) ∧ ∃ m, wr = w.drewN m) (fun k _ => (1 - intOf k).toNat)
      case atStart => exact ⟨.inl rfl, 0, rfl⟩
      case round =>
        obtain ⟨hk, m, rfl⟩ := hrel
        have k0 := C0.out
        have k1 := C1.out
        rcases hk with rfl | ⟨rfl, ht⟩
        · go_wp2_with fail
          go_quiet (first | (go_at_call 37; first | with_reducible exact quiet_same (K1.out _) | with_reducible exact quiet_same2 (K1.out _) | with_reducible exact quiet_same (K2.out _) | with_reducible exact quiet_same2 (K2.out _)))
          go_wp2_with fail
          first
            | (go_roundw
               case rel => exact ⟨.inr ⟨rfl, Lib.hid True.intro⟩, by first | exact ⟨_, rfl⟩ | exact drewN_ex _ _ _⟩
               case measure => first | (simp [intOf]; done) | (simp [intOf]; omega))
            | (go_ret; exact ⟨rfl, drewN_ex _ _ _⟩)
        · first
            | (exact absurd ht.out not_false)
            | (go_wp2_with fail; go_ret; exact ⟨rfl, _, rfl⟩)
  · cases bl
    · go_enter Try.func51, Try.ntmps51
      go_wp2_with fail
      refine (spec_l07Size _ _).mono ?_; rintro e w' ⟨rfl, rfl⟩; rw [HW.out]
      go_wp2_with fail
      go_loopw [5] (fun k wr => (k = .int .i64 0 ∨ (k = .int .i64 1 ∧ Hid False)) ∧ ∃ m, wr = w.drewN m) (fun k _ => (1 - intOf k).toNat)
      case atStart => exact ⟨.inl rfl, 0, rfl⟩
      case round =>
        obtain ⟨hk, m, rfl⟩ := hrel
        have k0 := C0.out
        have k1 := C1.out
        rcases hk with rfl | ⟨rfl, ht⟩
        · go_wp2_with fail
          go_quiet (first | (go_at_call 37; first | with_reducible exact quiet_same (K1.out _) | with_reducible exact quiet_same2 (K1.out _) | with_reducible exact quiet_same (K2.out _) | with_reducible exact quiet_same2 (K2.out _)))
          go_wp2_with fail
          first
            | (go_roundw
               case rel => exact ⟨.inr ⟨rfl, Lib.hid True.intro⟩, by first | exact ⟨_, rfl⟩ | exact drewN_ex _ _ _⟩
               case measure => first | (simp [intOf]; done) | (simp [intOf]; omega))
            | (go_ret; exact ⟨rfl, drewN_ex _ _ _⟩)
        · first
            | (exact absurd ht.out not_false)
            | (go_wp2_with fail; go_ret; exact ⟨rfl, _, rfl⟩)
    · go_enter Try.func51, Try.ntmps51
      go_wp2_with fail
      refine (spec_l07Size _ _).mono ?_; rintro e w' ⟨rfl, rfl⟩; rw [HW.out]
      go_wp2_with fail
      go_loopw [5] (fun k wr => (k = .int .i64 0 ∨ (k = .int .i64 1 ∧ Hid True)) ∧ ∃ m, wr = w.drewN m) (fun k _ => (1 - intOf k).toNat)
      case atStart => exact ⟨.inl rfl, 0, rfl⟩
      case round =>
        obtain ⟨hk, m, rfl⟩ := hrel
        have k0 := C0.out
        have k1 := C1.out
        rcases hk with rfl | ⟨rfl, ht⟩
        · go_wp2_with fail
          go_quiet (first | (go_at_call 37; first | with_reducible exact quiet_same (K1.out _) | with_reducible exact quiet_same2 (K1.out _) | with_reducible exact quiet_same (K2.out _) | with_reducible exact quiet_same2 (K2.out _)))
          go_wp2_with fail
          first
            | (go_roundw
               case rel => exact ⟨.inr ⟨rfl, Lib.hid True.intro⟩, by first | exact ⟨_, rfl⟩ | exact drewN_ex _ _ _⟩
               case measure => first | (simp [intOf]; done) | (simp [intOf]; omega))
            | (go_ret; exact ⟨rfl, drewN_ex _ _ _⟩)
        · first
            | (exact absurd ht.out not_false)
            | (go_wp2_with fail; go_ret; exact ⟨rfl, _, rfl⟩)
def kdL (kd : Int) (lv n : Nat) : List Int := (List.replicate n (0 : Int)).set lv kd
theorem kdL_len (kd : Int) (lv n : Nat) : (kdL kd lv n).length = n := by simp [kdL]
theorem kdL_nth {kd : Int} {lv n k : Nat} (h : k < n) : nth (kdL kd lv n) k = kdA kd lv k := by
  unfold kdL kdA nth
  rw [List.getD_eq_getElem?_getD, List.getElem?_set]
  by_cases e : k = lv
  · subst e; rw [if_pos rfl, if_pos rfl]; simp [h]
  · rw [if_neg (fun x => e x.symm), if_neg e]; simp [h]
set_option maxHeartbeats 2000000 in
theorem spec_l08Kinds (n lv : Nat) (kd : Int) (gl : Nat) (w : World) (hn : n ≤ 16) (hl : lv < n) (c0 : w.cell? ⟨gl, 0, none⟩ = some (.int .i64 kd)) (c1 : w.cell? ⟨gl, 1, none⟩ = some (.int .i64 (lv : Int))) :
    Calls Try.prog 90 #[.int .i64 n, .slice (some ⟨gl, 0, none⟩) 1 1] w (RetOwn w (kdL kd lv n)) := by
  have gll : gl < w.heap.size := World.block_lt_of_cell? w _ c0
  have C0 := Lib.hid c0; have C1 := Lib.hid c1; clear c0 c1
  go_enter Try.func90, Try.ntmps90
  go_wp2_with (refine wp_make rfl _ _ rfl n .i64 .i64 _ _ rfl rfl rfl rfl (by omega) (Nat.le_refl _) ?_; intro w1 ho1 hb1; have O1 := Lib.hid ho1; have B1 := Lib.hid hb1; have l1 := (own_block_lt ho1 _ rfl).2; clear ho1 hb1)
  go_loopw [6] (fun k wr => ((k = .int .i64 0 ∧ Own wr w.heap.size (.slice (some ⟨w.heap.size, 0, none⟩) n n) (List.replicate n 0)) ∨ (k = .int .i64 1 ∧ Own wr w.heap.size (.slice (some ⟨w.heap.size, 0, none⟩) n n) (kdL kd lv n))) ∧ Below w.heap.size w wr ∧ w.heap.size < wr.heap.size) (fun k _ => (1 - intOf k).toNat)
  case atStart => exact ⟨.inl ⟨rfl, O1.out⟩, B1.out, l1⟩
  case round =>
    obtain ⟨hk, hb, hs⟩ := hrel
    have HB := Lib.hid hb
    rcases hk with ⟨rfl, ho⟩ | ⟨rfl, ho⟩
    · have k0 := (hb.cell (p := ⟨gl, 0, none⟩) gll).trans C0.out
      have k1 := (hb.cell (p := ⟨gl, 1, none⟩) gll).trans C1.out
      have q1 := own_at ho (by simp) hl
      obtain ⟨q1, q2⟩ := q1
      have S := own_store ho (by simp) lv kd
      have HS := Lib.hid S; clear S ho hb
      have i0 : (0 : Int) ≤ (lv : Int) := by omega
      have i1 : (lv : Int) < (n : Int) := by omega
      go_wp2_with fail
      go_region_law ((fail))
      all_goals (
      go_wp2_with fail
      go_roundw
      case rel => exact ⟨.inr ⟨rfl, HS.out.1⟩, (HB.out.setCell (p := ⟨w.heap.size, lv, none⟩) (Nat.le_refl _) _).drew, by simpa using hs⟩
      case measure => first | (simp [intOf]; done) | (simp [intOf]; omega))
    · have HO := Lib.hid ho; clear ho hb
      go_wp2_with fail
      go_ret
      exact ⟨_, rfl, HO.out, HB.out⟩
end Go.Proofs.Ytkhjmokjbiepgaa
