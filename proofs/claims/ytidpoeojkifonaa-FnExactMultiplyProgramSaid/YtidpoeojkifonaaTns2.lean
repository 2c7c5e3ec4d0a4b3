/- Turns continued: their factor, their number. -/
import Derived.IntWalk
import Derived.Test.YtidpoeojkifonaaTns
namespace Go.Proofs.Ytidpoeojkifonaa
open Go.ChangeShapes Go.WideShapes Go.ChangeAt Go.RowKit
set_option maxHeartbeats 2000000 in
theorem spec_l13Factor {B : Nat} {v : Value} {xs : List Int} (b : Int) (g0 : Nat) (w : World) (h : Own w B v xs) (hc0 : w.cell? ⟨g0, 0, none⟩ = some (.int .i64 b)) (hc1 : w.cell? ⟨g0, 1, none⟩ = some v) (hv : validT b xs = true) :
    Calls Try.prog 63 #[.pointer (some ⟨g0, 0, none⟩)] w (RetV w (.int .i64 (fac b xs xs.length))) := by
  obtain ⟨a1, c1, rfl, m1, q1⟩ := own_form h
  have QQ := Lib.hid q1; clear q1 h
  obtain ⟨⟨b0, b1⟩, h40, hA, hO⟩ := validT_parts hv
  have HA := Lib.hid hA; have HO := Lib.hid hO; clear hv hA hO
  go_enter Try.func63, Try.ntmps63
  go_wp2_with fail
  go_loopw [3, 4] (fun s k wr => ∃ (j : Nat) (X : Int), j ≤ xs.length ∧ k = .int .i64 ((xs.length : Int) - 1 - j) ∧ s = .int .i64 X ∧ -1000000000 ≤ X ∧ X ≤ 1000000000 ∧ Hid (X = fac b xs j) ∧ ∃ n, wr = w.drewN n) (fun _ k _ => (intOf k + 1).toNat)
  case atStart => exact ⟨0, 0, by omega, by simp, rfl, by omega, by omega, rfl, 0, rfl⟩
  case round =>
    obtain ⟨j, X, hj, rfl, rfl, x0, x1, hX, n, rfl⟩ := hrel
    by_cases hlt : j < xs.length
    · obtain ⟨eb0, eb1⟩ := okF_bd (okF_at HO.out (show j + 1 ≤ xs.length by omega))
      obtain ⟨g, rfl, qc⟩ := QQ.out (xs.length - (j + 1)) (by omega)
      have gl := World.block_lt_of_cell? w _ qc
      have t0 := inB_iff.1 (all_get HA.out (j := xs.length - (j + 1)) (by omega))
      obtain ⟨tl, th⟩ := t0
      obtain ⟨p0, p1⟩ := mul16 x0 x1 b0 b1
      have i0 : (0 : Int) ≤ (xs.length : Int) - 1 - (j : Int) := by omega
      have i1 : (xs.length : Int) - 1 - (j : Int) < (xs.length : Int) := by omega
      have i2 : ((xs.length : Int) - 1 - (j : Int)).toNat = xs.length - (j + 1) := by omega
      have HN := Lib.hid (show X * b + nth xs (xs.length - (j + 1)) = fac b xs (j + 1) from by rw [hX.out]; rfl)
      have v1 : IntKind.i64.wrap (X * b) = X * b := IntWalk.i64_in _ (by omega)
      have v2 : IntKind.i64.wrap (X * b + nth xs (xs.length - (j + 1))) = X * b + nth xs (xs.length - (j + 1)) := IntWalk.i64_in _ (by omega)
      have EB := Lib.hid (And.intro eb0 eb1); clear eb0 eb1
      go_wp2_with fail
      go_quiet (fail)
      clear v1 v2 i0 i1 i2
      go_wp2_with fail
      go_roundw
      case rel => exact ⟨j + 1, X * b + nth xs (xs.length - (j + 1)), by omega, by go_num, rfl, by rw [HN.out]; exact EB.out.1, by rw [HN.out]; exact EB.out.2, HN.out, by first | exact ⟨_, rfl⟩ | skip⟩
      case measure => first | (simp [intOf]; done) | (simp [intOf]; omega)
    · obtain rfl : j = xs.length := by omega
      go_wp2_with fail
      go_ret
      exact ⟨ret_int hX.out, by first | exact below_drewN _ _ | exact below_dd _ _ _⟩
theorem spec_FactorOf {B : Nat} {v : Value} {xs : List Int} (b : Int) (w : World) (h : Own w B v xs) (hlen : xs.length ≤ 1048576) :
    Calls Try.prog 31 #[.agg #[.int .i64 b, v]] w (RetV w (.tuple #[.int .i64 (factR b xs).1, .int .i64 (factR b xs).2])) := by
  have HO := Lib.hid h
  obtain ⟨a1, c1, rfl, m1, -⟩ := own_form h
  clear h
  cases hv : validT b xs
  · rw [show factR b xs = (0, 1) from by simp [factR, hv]]
    have HV := Lib.hid hv; clear hv
    go_enter Try.func31, Try.ntmps31
    go_wp2_with fail
    refine (spec_l13Ok b _ _ (own_alloc HO.out _) (cell_blk (heap_last _ _) 0) (cell_blk (heap_last _ _) 1) hlen).mono ?_; rintro e w1 ⟨rfl, b1⟩; rw [HV.out]
    have BW := Lib.hid ((blk1 b1).2.1); clear b1
    go_wp2_with fail
    go_ret2
    exact ⟨rfl, BW.out⟩
  · rw [show factR b xs = (fac b xs xs.length, 0) from by simp [factR, hv]]
    have HV := Lib.hid hv; clear hv
    go_enter Try.func31, Try.ntmps31
    go_wp2_with fail
    refine (spec_l13Ok b _ _ (own_alloc HO.out _) (cell_blk (heap_last _ _) 0) (cell_blk (heap_last _ _) 1) hlen).mono ?_; rintro e w1 ⟨rfl, b1⟩; rw [HV.out]
    have B1 := Lib.hid b1; have O1 := Lib.hid (own_keep b1 (own_alloc HO.out _)); obtain ⟨x0, -, -, -⟩ := blk1 b1; clear b1
    have X0 := Lib.hid x0; clear x0
    go_wp2_with fail
    refine (spec_l13Factor b _ _ O1.out (cell_blk X0.out 0) (cell_blk X0.out 1) HV.out).mono ?_; rintro e w2 ⟨rfl, b2⟩
    have BW := Lib.hid ((blk1 (Below.trans_size B1.out b2)).2.1); clear b2
    go_wp2_with fail
    go_ret2
    exact ⟨rfl, BW.out⟩
theorem impl_FactorOf {B : Nat} {v : Value} {xs : List Int} (b : Int) (w : World) (h : Own w B v xs) (hlen : xs.length ≤ 1048576) :
    Calls Try.prog 32 #[.agg #[.int .i64 b, v]] w (RetV w (.tuple #[.int .i64 (factR b xs).1, .int .i64 (factR b xs).2])) := by
  have HO := Lib.hid h
  obtain ⟨a1, c1, rfl, m1, -⟩ := own_form h
  clear h
  cases hv : validT b xs
  · rw [show factR b xs = (0, 1) from by simp [factR, hv]]
    have HV := Lib.hid hv; clear hv
    go_enter Try.func32, Try.ntmps32
    go_wp2_with fail
    refine (impl_ValidTurns b _ (own_alloc HO.out _) hlen).mono ?_; rintro e w1 ⟨rfl, b1⟩; rw [HV.out]
    have BW := Lib.hid ((blk1 b1).2.1); clear b1
    go_wp2_with fail
    go_ret2
    exact ⟨rfl, BW.out⟩
  · rw [show factR b xs = (fac b xs xs.length, 0) from by simp [factR, hv]]
    have HV := Lib.hid hv
    obtain ⟨⟨b0, b1⟩, h40, hA, hO⟩ := validT_parts hv
    have HA := Lib.hid hA; have HF := Lib.hid (show facR b xs = fac b xs xs.length from by simp [facR, hO]); clear hv hA hO
    go_enter Try.func32, Try.ntmps32
    go_wp2_with fail
    refine (impl_ValidTurns b _ (own_alloc HO.out _) hlen).mono ?_; rintro e w1 ⟨rfl, b1⟩; rw [HV.out]
    have B1 := Lib.hid b1; have O1 := Lib.hid (own_keep b1 (own_alloc HO.out _)); obtain ⟨x0, -, -, -⟩ := blk1 b1; clear b1
    have c0 := cell_blk x0 0; have c1' := cell_blk x0 1; clear x0
    go_wp2_with fail
    refine (impl_TurnDigits_factor b _ O1.out b0 (by assumption) h40 HA.out).mono ?_; rintro e w2 ⟨rfl, b2⟩; rw [HF.out]
    have BW := Lib.hid ((blk1 (Below.trans_size B1.out b2)).2.1); clear b2
    go_wp2_with fail
    go_ret2
    exact ⟨rfl, BW.out⟩
theorem impl_turnsOf {B : Nat} {v : Value} {xs : List Int} (w : World) (h : Own w B v xs) (ha : allT xs = true) (hl : xs.length ≤ 100000000) :
    Calls Try.prog 54 #[v] w fun e w' => e = .returned (.int .i64 (cnt xs xs.length)) ∧ w = w' := by
  obtain ⟨a1, c1, rfl, m1, q1⟩ := own_form h
  have QQ := Lib.hid q1; clear q1 h
  have HA := Lib.hid ha; clear ha
  go_enter Try.func54, Try.ntmps54
  go_wp2_with fail
  go_loop [3, 5, 8] (fun s _ i => ∃ (j : Nat) (X : Int), j ≤ xs.length ∧ i = .int .i64 j ∧ s = .int .i64 X ∧ Hid (X = cnt xs j)) (fun _ _ i => xs.length - (intOf i).toNat)
  case atStart => exact ⟨0, 0, Nat.zero_le _, rfl, rfl, rfl⟩
  case round =>
    obtain ⟨j, X, hj, rfl, rfl, hX⟩ := hrel
    by_cases hlt : j < xs.length
    · obtain ⟨g, rfl, q⟩ := QQ.out j hlt
      have a := iabs16 (all_get HA.out hlt)
      have t := inB_iff.1 (all_get HA.out hlt)
      have c := cnt_bd HA.out j (by omega)
      rw [← hX.out] at c
      obtain ⟨a0, a1⟩ := a; obtain ⟨t0, t1⟩ := t; obtain ⟨k0, k1⟩ := c
      have HN := Lib.hid (show X + iabs (nth xs j) = cnt xs (j + 1) from by rw [hX.out]; rfl)
      go_wp2_with fail
      refine (impl_absolute _ _ (by omega) (by omega)).mono ?_; rintro e w' ⟨rfl, rfl⟩
      go_wp2_with fail
      go_round
      case rel => exact ⟨j + 1, X + iabs (nth xs j), by omega, by go_num, by go_num, HN.out⟩
      case measure => first | (simp [intOf]; done) | (simp [intOf]; omega)
    · obtain rfl : j = xs.length := by omega
      go_wp2_with fail
      go_ret
      exact ⟨ret_int hX.out, rfl⟩
theorem spec_l13Count {B : Nat} {v : Value} {xs : List Int} (g0 : Nat) (w : World) (h : Own w B v xs) (hc1 : w.cell? ⟨g0, 1, none⟩ = some v) (ha : allT xs = true) (hl : xs.length ≤ 100000000) :
    Calls Try.prog 62 #[.pointer (some ⟨g0, 0, none⟩)] w fun e w' => e = .returned (.int .i64 (cnt xs xs.length)) ∧ w = w' := by
  obtain ⟨a1, c1, rfl, m1, q1⟩ := own_form h
  have QQ := Lib.hid q1; clear q1 h
  have HA := Lib.hid ha; clear ha
  go_enter Try.func62, Try.ntmps62
  go_wp2_with fail
  go_loop [3, 4] (fun s i => ∃ (j : Nat) (X : Int), j ≤ xs.length ∧ i = .int .i64 j ∧ s = .int .i64 X ∧ Hid (X = cnt xs j)) (fun _ i => xs.length - (intOf i).toNat)
  case atStart => exact ⟨0, 0, Nat.zero_le _, rfl, rfl, rfl⟩
  case round =>
    obtain ⟨j, X, hj, rfl, rfl, hX⟩ := hrel
    by_cases hlt : j < xs.length
    · obtain ⟨g, rfl, q⟩ := QQ.out j hlt
      have a := iabs16 (all_get HA.out hlt)
      have t := inB_iff.1 (all_get HA.out hlt)
      have c := cnt_bd HA.out j (by omega)
      rw [← hX.out] at c
      obtain ⟨a0, a1⟩ := a; obtain ⟨t0, t1⟩ := t; obtain ⟨k0, k1⟩ := c
      have HN := Lib.hid (show X + iabs (nth xs j) = cnt xs (j + 1) from by rw [hX.out]; rfl)
      go_wp2_with fail
      refine (spec_l04Size _ _ (by omega) (by omega)).mono ?_; rintro e w' ⟨rfl, rfl⟩
      go_wp2_with fail
      go_round
      case rel => exact ⟨j + 1, X + iabs (nth xs j), by omega, by go_num, by go_num, HN.out⟩
      case measure => first | (simp [intOf]; done) | (simp [intOf]; omega)
    · obtain rfl : j = xs.length := by omega
      go_wp2_with fail
      go_ret
      exact ⟨ret_int hX.out, rfl⟩
theorem spec_CountTurns {B : Nat} {v : Value} {xs : List Int} (b : Int) (w : World) (h : Own w B v xs) (hlen : xs.length ≤ 1048576) :
    Calls Try.prog 33 #[.agg #[.int .i64 b, v]] w (RetV w (.tuple #[.int .i64 (cntR b xs).1, .int .i64 (cntR b xs).2])) := by
  have HO := Lib.hid h
  obtain ⟨a1, c1, rfl, m1, -⟩ := own_form h
  clear h
  cases hv : validT b xs
  · rw [show cntR b xs = (0, 1) from by simp [cntR, hv]]
    have HV := Lib.hid hv; clear hv
    go_enter Try.func33, Try.ntmps33
    go_wp2_with fail
    refine (spec_l13Ok b _ _ (own_alloc HO.out _) (cell_blk (heap_last _ _) 0) (cell_blk (heap_last _ _) 1) hlen).mono ?_; rintro e w1 ⟨rfl, b1⟩; rw [HV.out]
    have BW := Lib.hid ((blk1 b1).2.1); clear b1
    go_wp2_with fail
    go_ret2
    exact ⟨rfl, BW.out⟩
  · rw [show cntR b xs = (cnt xs xs.length, 0) from by simp [cntR, hv]]
    have HV := Lib.hid hv
    obtain ⟨-, h40, hA, -⟩ := validT_parts hv
    have HA := Lib.hid hA; clear hv hA
    go_enter Try.func33, Try.ntmps33
    go_wp2_with fail
    refine (spec_l13Ok b _ _ (own_alloc HO.out _) (cell_blk (heap_last _ _) 0) (cell_blk (heap_last _ _) 1) hlen).mono ?_; rintro e w1 ⟨rfl, b1⟩; rw [HV.out]
    have BW := Lib.hid ((blk1 b1).2.1); have O1 := Lib.hid (own_keep b1 (own_alloc HO.out _)); obtain ⟨x0, -, -, -⟩ := blk1 b1; clear b1
    have X0 := Lib.hid x0; have c0 := cell_blk x0 0; have c1' := cell_blk x0 1; clear x0
    go_wp2_with fail
    refine (spec_l13Count _ _ O1.out (cell_blk X0.out 1) HA.out (by omega)).mono ?_; rintro e w2 ⟨rfl, rfl⟩
    go_wp2_with fail
    go_ret2
    exact ⟨rfl, BW.out⟩
theorem impl_CountTurns {B : Nat} {v : Value} {xs : List Int} (b : Int) (w : World) (h : Own w B v xs) (hlen : xs.length ≤ 1048576) :
    Calls Try.prog 34 #[.agg #[.int .i64 b, v]] w (RetV w (.tuple #[.int .i64 (cntR b xs).1, .int .i64 (cntR b xs).2])) := by
  have HO := Lib.hid h
  obtain ⟨a1, c1, rfl, m1, -⟩ := own_form h
  clear h
  cases hv : validT b xs
  · rw [show cntR b xs = (0, 1) from by simp [cntR, hv]]
    have HV := Lib.hid hv; clear hv
    go_enter Try.func34, Try.ntmps34
    go_wp2_with fail
    refine (impl_ValidTurns b _ (own_alloc HO.out _) hlen).mono ?_; rintro e w1 ⟨rfl, b1⟩; rw [HV.out]
    have BW := Lib.hid ((blk1 b1).2.1); clear b1
    go_wp2_with fail
    go_ret2
    exact ⟨rfl, BW.out⟩
  · rw [show cntR b xs = (cnt xs xs.length, 0) from by simp [cntR, hv]]
    have HV := Lib.hid hv
    obtain ⟨-, h40, hA, -⟩ := validT_parts hv
    have HA := Lib.hid hA; clear hv hA
    go_enter Try.func34, Try.ntmps34
    go_wp2_with fail
    refine (impl_ValidTurns b _ (own_alloc HO.out _) hlen).mono ?_; rintro e w1 ⟨rfl, b1⟩; rw [HV.out]
    have BW := Lib.hid ((blk1 b1).2.1); have O1 := Lib.hid (own_keep b1 (own_alloc HO.out _)); obtain ⟨x0, -, -, -⟩ := blk1 b1; clear b1
    have X0 := Lib.hid x0; have c0 := cell_blk x0 0; have c1' := cell_blk x0 1; clear x0
    go_wp2_with fail
    refine (impl_turnsOf _ O1.out HA.out (by omega)).mono ?_; rintro e w2 ⟨rfl, rfl⟩
    go_wp2_with fail
    go_ret2
    exact ⟨rfl, BW.out⟩
end Go.Proofs.Ytidpoeojkifonaa
