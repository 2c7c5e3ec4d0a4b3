/- SetAccumulator of both packages. -/
import Derived.IntWalk
import Derived.Test.YtcooabjcikcpiaaReg
import Derived.Test.YtcooabjcikcpiaaAcc
namespace Go.Proofs.Ytcooabjcikcpiaa
open Go.ChangeShapes Go.WideShapes Go.ChangeAt Go.RowKit
theorem mod_go (c m : Int) (hm : 0 < m) : (c.tmod m + m) % m = c % m := by
  rw [Int.add_emod_right]
  have h := Int.mul_tdiv_add_tmod c m
  have : c.tmod m = c - m * c.tdiv m := by omega
  rw [this, Int.sub_mul_emod_self_left]
theorem tmod_bd (c m : Int) (hm : 0 < m) : -m < c.tmod m ∧ c.tmod m < m := by
  have := Int.tmod_lt_of_pos c hm
  have := Int.lt_tmod_of_pos c hm
  omega
theorem accOk_parts {b n : Int} (h : accOk b n = true) : (2 ≤ b ∧ b ≤ 16 ∧ 1 ≤ n ∧ n ≤ 16) ∧ ipow b n.toNat - 1 ≤ 1000000000000 := by
  simp only [accOk, Bool.and_eq_true, decide_eq_true_eq] at h
  have a := inB_iff.1 h.1.1; have c := inB_iff.1 h.1.2
  exact ⟨⟨a.1, a.2, c.1, c.2⟩, h.2⟩
theorem numOf_of {b n : Int} : numOf b n = if accOk b n then ipow b n.toNat else 0 := by
  unfold numOf accOk
  cases h1 : inB b 2 16 <;> cases h2 : inB n 1 16
  all_goals simp only [Bool.and_true, Bool.and_false, Bool.true_and, Bool.false_and]
  all_goals try rfl
  by_cases h : ipow b n.toNat - 1 ≤ 1000000000000
  · simp [h, (lpow_ppow (inB_iff.1 h1).1 _ h).2]
  · simp [h, (lpow_big (inB_iff.1 h1).1 _ h).2]
def saC (b n x : Int) : Int := if accOk b n then (if inB x (-(ipow b n.toNat / 2)) (ipow b n.toNat - 1 - ipow b n.toNat / 2) then 0 else 5) else 2
def saB (b n x : Int) : Int := if saC b n x = 0 then b else 0
def saL (b n x : Int) : List Int := if saC b n x = 0 then digL b (x % ipow b n.toNat) n.toNat else []
theorem saL_len (b n x : Int) : (saL b n x).length ≤ 1000000 := by
  unfold saL
  split
  · rename_i h
    unfold saC at h
    split at h
    · rename_i h2
      obtain ⟨⟨_, _, _, a4⟩, _⟩ := accOk_parts h2
      simp [digL]; omega
    · cases h
  · simp
theorem impl_isNumber (N x : Int) (w : World) (h1 : 1 ≤ N) (h2 : N ≤ 1000000000001) :
    Calls Try.prog 43 #[.int .i64 N, .int .i64 x] w fun e w' => e = .returned (.bool (inB x (-(N / 2)) (N - 1 - N / 2))) ∧ w = w' := by
  go_enter Try.func43, Try.ntmps43
  go_wp2_with fail
  refine (impl_between _ _ _ _).mono ?_; rintro e w' ⟨rfl, rfl⟩
  go_wp2_with fail
  go_ret
  exact ⟨rfl, rfl⟩
set_option maxHeartbeats 4000000 in
theorem impl_accumulator (b N x : Int) (n : Nat) (w : World) (hb : 2 ≤ b) (hb2 : b ≤ 16) (hn : n ≤ 16) (h1 : 1 ≤ N) (h2 : N ≤ 1000000000001) (hx1 : -1000000000001 ≤ x) (hx2 : x ≤ 1000000000001) :
    Calls Try.prog 44 #[.int .i64 b, .int .i64 n, .int .i64 N, .int .i64 x] w (RetAgg w b (digL b (x % N) n)) := by
  obtain ⟨tb1, tb2⟩ := tmod_bd x N (by omega)
  have hgo := mod_go x N (by omega)
  obtain ⟨R0, hR⟩ : ∃ R, R = x.tmod N := ⟨_, rfl⟩
  obtain ⟨D, hD⟩ : ∃ D, D = x % N := ⟨_, rfl⟩
  have d0 : 0 ≤ D := by rw [hD]; exact Int.emod_nonneg _ (by omega)
  have d1 : D < N := by rw [hD]; exact Int.emod_lt_of_pos _ (by omega)
  have eT := hR.symm
  rw [← hR, ← hD] at hgo
  rw [← hR] at tb1 tb2
  rw [← hD]
  have wR : IntKind.i64.wrap R0 = R0 := IntWalk.i64_in _ (by omega)
  have wS : IntKind.i64.wrap (R0 + N) = R0 + N := IntWalk.i64_in _ (by omega)
  have eT2 : (R0 + N).tmod N = D := by rw [Int.tmod_eq_emod_of_nonneg (by omega)]; exact hgo
  have wD : IntKind.i64.wrap D = D := IntWalk.i64_in _ (by omega)
  have zb : ¬ N = 0 := by omega
  clear hR hD hgo
  have R := Lib.hid (fun wx => impl_registerOf b D n wx hb hb2 d0 (by omega) hn)
  generalize digL b D n = L at *
  generalize decide (dv b D n = 0) = okk at *
  go_enter Try.func44, Try.ntmps44
  go_wp2_with fail
  refine (R.out _).mono ?_; rintro e w1 ⟨v1, rfl, o1, b1⟩
  obtain ⟨x0, bw, hs, he⟩ := blk1 b1
  rw [he] at o1
  have O1 := Lib.hid o1; have BW := Lib.hid bw
  obtain ⟨av, cv, rfl, -, -⟩ := own_form o1
  have c0 := cell_blk x0 0; have c1 := cell_blk x0 1; have f0 := frozen_blk x0 0; have f1 := frozen_blk x0 1
  have lt1 : w.heap.size < w1.heap.size := by omega
  clear o1 b1 bw x0 he
  go_wp2_with fail
  refine bodyPost_ret (v := .agg #[.int .i64 b, .slice av L.length cv]) (by simp [results, Try.results44, go_sem, *]) rfl ?_
  exact ⟨_, rfl, own_alloc (own_base (ownsRow_setCell_below (ownsRow_setCell_below O1.out (by simp) _) (by simp) _) (by omega)) _, ((BW.out.setCell (by simp) _).setCell (by simp) _).alloc (by simp; omega) _⟩
set_option maxHeartbeats 4000000 in
theorem impl_SetAccumulator (b n x : Int) (w : World) :
    Calls Try.prog 15 #[.int .i64 b, .int .i64 n, .int .i64 x] w (RetAggI w (saB b n x) (saL b n x) (saC b n x)) := by
  cases h : accOk b n
  · have HN := Lib.hid (show numOf b n = 0 from by simp [numOf_of, h])
    have hC : saC b n x = 2 := by simp [saC, h]
    rw [show saB b n x = 0 from by simp [saB, hC], show saL b n x = [] from by simp [saL, hC], hC]
    clear h hC
    go_enter Try.func15, Try.ntmps15
    go_wp2_with fail
    refine (impl_numbersOf _ _ _).mono ?_; rintro e w' ⟨rfl, rfl⟩; rw [HN.out]
    go_wp2_with fail
    refine bodyPost_ret (v := .tuple #[.agg #[.int .i64 0, .slice none 0 0], .int .i64 2]) (by simp [results, Try.results15, go_sem, *]) rfl ?_
    exact ⟨_, rfl, own_nil, by first | exact ((below_al _ _).setCell (by simp) _).setCell (by simp) _ | exact below_al _ _⟩
  have HN := Lib.hid (show numOf b n = ipow b n.toNat from by simp [numOf_of, h])
  obtain ⟨⟨a1, a2, a3, a4⟩, a5⟩ := accOk_parts h
  have p := ipow_pos a1 n.toNat
  obtain ⟨n, rfl⟩ := Int.eq_ofNat_of_zero_le (show 0 ≤ n by omega)
  have hsc : saC b n x = if inB x (-(ipow b n / 2)) (ipow b n - 1 - ipow b n / 2) then 0 else 5 := by simp [saC, h]
  have hsl : saL b n x = if saC b n x = 0 then digL b (x % ipow b n) n else [] := by simp [saL]
  rw [Int.toNat_natCast] at *
  generalize ipow b n = N at *
  have zN : ¬ N = 0 := by omega
  cases hi : inB x (-(N / 2)) (N - 1 - N / 2)
  · have hC : saC b n x = 5 := by rw [hsc, hi]; rfl
    rw [show saB b n x = 0 from by simp [saB, hC], show saL b n x = [] from by rw [hsl, hC]; rfl, hC]
    have HI := Lib.hid hi
    clear h hC hi hsc hsl
    go_enter Try.func15, Try.ntmps15
    go_wp2_with fail
    refine (impl_numbersOf _ _ _).mono ?_; rintro e w' ⟨rfl, rfl⟩; rw [HN.out]
    go_wp2_with fail
    refine (impl_isNumber _ _ _ p (by omega)).mono ?_; rintro e w' ⟨rfl, rfl⟩; rw [HI.out]
    go_wp2_with fail
    refine bodyPost_ret (v := .tuple #[.agg #[.int .i64 0, .slice none 0 0], .int .i64 5]) (by simp [results, Try.results15, go_sem, *]) rfl ?_
    exact ⟨_, rfl, own_nil, by first | exact ((below_al _ _).setCell (by simp) _).setCell (by simp) _ | exact below_al _ _⟩
  · have hC : saC b n x = 0 := by rw [hsc, hi]; rfl
    rw [show saB b n x = b from by simp [saB, hC], show saL b n x = digL b (x % N) n from by rw [hsl, hC]; rfl, hC]
    have HI := Lib.hid hi
    have xb := inB_iff.1 hi
    have A := Lib.hid (fun wx => impl_accumulator b N x n wx a1 a2 (by omega) p (by omega) (by omega) (by omega))
    clear h hC hi hsc hsl
    generalize digL b (x % N) n = L at *
    go_enter Try.func15, Try.ntmps15
    go_wp2_with fail
    refine (impl_numbersOf _ _ _).mono ?_; rintro e w' ⟨rfl, rfl⟩; rw [HN.out]
    go_wp2_with fail
    refine (impl_isNumber _ _ _ p (by omega)).mono ?_; rintro e w' ⟨rfl, rfl⟩; rw [HI.out]
    go_wp2_with fail
    refine (A.out _).mono ?_; rintro e w1 ⟨v1, rfl, o1, b1'⟩
    obtain ⟨x0, bw, hs, he⟩ := blk1 b1'
    rw [he] at o1
    have O1 := Lib.hid o1; have BW := Lib.hid bw
    obtain ⟨av, cv, rfl, -, -⟩ := own_form o1
    have c0 := cell_blk x0 0; have c1 := cell_blk x0 1; have f0 := frozen_blk x0 0; have f1 := frozen_blk x0 1
    clear o1 b1' bw x0 he
    go_wp2_with fail
    refine bodyPost_ret (v := .tuple #[.agg #[.int .i64 b, .slice av L.length cv], .int .i64 0]) (by simp [results, Try.results15, go_sem, *]) rfl ?_
    exact ⟨_, rfl, own_base (ownsRow_setCell_below (ownsRow_setCell_below O1.out (by simp) _) (by simp) _) (by omega), (BW.out.setCell (by simp) _).setCell (by simp) _⟩
set_option maxHeartbeats 4000000 in
theorem spec_l09Set (b N x : Int) (n : Nat) (w : World) (hb : 2 ≤ b) (hb2 : b ≤ 16) (hn : n ≤ 16) (hN : lpow b n = N) (h1 : 1 ≤ N) (h2 : N ≤ 1000000000001) (hx1 : -1000000000001 ≤ x) (hx2 : x ≤ 1000000000001) :
    Calls Try.prog 41 #[.int .i64 b, .int .i64 n, .int .i64 x] w (RetAgg w b (digL b (x % N) n)) := by
  have PW := Lib.hid (fun wx => show Calls Try.prog 70 #[.int .i64 b, .int .i64 n] wx (fun e w' => e = .returned (.int .i64 N) ∧ wx = w') from by have := spec_l10Power b n wx hb hb2 (by omega) (by omega); rw [Int.toNat_natCast, hN] at this; exact this)
  clear hN
  obtain ⟨tb1, tb2⟩ := tmod_bd x N (by omega)
  have hgo := mod_go x N (by omega)
  obtain ⟨R0, hR⟩ : ∃ R, R = x.tmod N := ⟨_, rfl⟩
  obtain ⟨D, hD⟩ : ∃ D, D = x % N := ⟨_, rfl⟩
  have d0 : 0 ≤ D := by rw [hD]; exact Int.emod_nonneg _ (by omega)
  have d1 : D < N := by rw [hD]; exact Int.emod_lt_of_pos _ (by omega)
  have eT := hR.symm
  rw [← hR, ← hD] at hgo
  rw [← hR] at tb1 tb2
  rw [← hD]
  have wR : IntKind.i64.wrap R0 = R0 := IntWalk.i64_in _ (by omega)
  have wS : IntKind.i64.wrap (R0 + N) = R0 + N := IntWalk.i64_in _ (by omega)
  have eT2 : (R0 + N).tmod N = D := by rw [Int.tmod_eq_emod_of_nonneg (by omega)]; exact hgo
  have wD : IntKind.i64.wrap D = D := IntWalk.i64_in _ (by omega)
  have zb : ¬ N = 0 := by omega
  clear hR hD hgo
  have R := Lib.hid (fun wx => spec_l02New b D n wx hb hb2 d0 (by omega) hn)
  generalize digL b D n = L at *
  generalize dv b D n = okk at *
  go_enter Try.func41, Try.ntmps41
  go_wp2_with fail
  refine (PW.out _).mono ?_; rintro e w' ⟨rfl, rfl⟩
  go_wp2_with fail
  refine (R.out _).mono ?_; rintro e w1 ⟨v1, rfl, o1, b1⟩
  obtain ⟨x0, bw, hs, he⟩ := blk1 b1
  rw [he] at o1
  have O1 := Lib.hid o1; have BW := Lib.hid bw
  obtain ⟨av, cv, rfl, -, -⟩ := own_form o1
  have c0 := cell_blk x0 0; have c1 := cell_blk x0 1; have f0 := frozen_blk x0 0; have f1 := frozen_blk x0 1
  have lt1 : w.heap.size < w1.heap.size := by omega
  clear o1 b1 bw x0 he
  go_wp2_with fail
  refine bodyPost_ret (v := .agg #[.int .i64 b, .slice av L.length cv]) (by simp [results, Try.results41, go_sem, *]) rfl ?_
  exact ⟨_, rfl, own_alloc (own_base (ownsRow_setCell_below (ownsRow_setCell_below O1.out (by simp) _) (by simp) _) (by omega)) _, ((BW.out.setCell (by simp) _).setCell (by simp) _).alloc (by simp; omega) _⟩
theorem spec_l09In (b x : Int) (n : Nat) (N : Int) (w : World) (hb : 2 ≤ b) (hb2 : b ≤ 16) (hn : n ≤ 16) (hN : lpow b n = N) (h1 : 1 ≤ N) (h2 : N ≤ 1000000000001) :
    Calls Try.prog 40 #[.int .i64 b, .int .i64 n, .int .i64 x] w fun e w' => e = .returned (.bool (inB x (-(N / 2)) (N - 1 - N / 2))) ∧ w = w' := by
  have PW := Lib.hid (fun wx => show Calls Try.prog 70 #[.int .i64 b, .int .i64 n] wx (fun e w' => e = .returned (.int .i64 N) ∧ wx = w') from by have := spec_l10Power b n wx hb hb2 (by omega) (by omega); rw [Int.toNat_natCast, hN] at this; exact this)
  have LW := Lib.hid (fun wx => show Calls Try.prog 69 #[.int .i64 b, .int .i64 n] wx (fun e w' => e = .returned (.int .i64 (N / 2)) ∧ wx = w') from by have := spec_l09Low b n wx hb hb2 (by omega) (by omega); rw [Int.toNat_natCast, hN] at this; exact this)
  clear hN
  go_enter Try.func40, Try.ntmps40
  go_wp2_with fail
  refine (LW.out _).mono ?_; rintro e w' ⟨rfl, rfl⟩
  go_wp2_with fail
  refine (PW.out _).mono ?_; rintro e w' ⟨rfl, rfl⟩
  go_wp2_with fail
  refine (spec_l00In _ _ _ _).mono ?_; rintro e w' ⟨rfl, rfl⟩
  go_wp2_with fail
  go_ret
  exact ⟨rfl, rfl⟩
set_option maxHeartbeats 4000000 in
theorem spec_SetAccumulator (b n x : Int) (w : World) :
    Calls Try.prog 14 #[.int .i64 b, .int .i64 n, .int .i64 x] w (RetAggI w (saB b n x) (saL b n x) (saC b n x)) := by
  cases h : accOk b n
  · have HN := Lib.hid h
    have hC : saC b n x = 2 := by simp [saC, h]
    rw [show saB b n x = 0 from by simp [saB, hC], show saL b n x = [] from by simp [saL, hC], hC]
    clear h hC
    go_enter Try.func14, Try.ntmps14
    go_wp2_with fail
    refine (spec_l09Size _ _ _).mono ?_; rintro e w' ⟨rfl, rfl⟩; rw [HN.out]
    go_wp2_with fail
    refine bodyPost_ret (v := .tuple #[.agg #[.int .i64 0, .slice none 0 0], .int .i64 2]) (by simp [results, Try.results14, go_sem, *]) rfl ?_
    exact ⟨_, rfl, own_nil, by first | exact ((below_al _ _).setCell (by simp) _).setCell (by simp) _ | exact below_al _ _⟩
  have HN := Lib.hid h
  obtain ⟨⟨a1, a2, a3, a4⟩, a5⟩ := accOk_parts h
  have p := ipow_pos a1 n.toNat
  have hlp := (lpow_ppow a1 n.toNat a5).1
  obtain ⟨n, rfl⟩ := Int.eq_ofNat_of_zero_le (show 0 ≤ n by omega)
  have hsc : saC b n x = if inB x (-(ipow b n / 2)) (ipow b n - 1 - ipow b n / 2) then 0 else 5 := by simp [saC, h]
  have hsl : saL b n x = if saC b n x = 0 then digL b (x % ipow b n) n else [] := by simp [saL]
  rw [Int.toNat_natCast] at *
  generalize ipow b n = N at *
  have zN : ¬ N = 0 := by omega
  have IN := Lib.hid (fun wx => spec_l09In b x n N wx a1 a2 (by omega) hlp p (by omega))
  cases hi : inB x (-(N / 2)) (N - 1 - N / 2)
  · have hC : saC b n x = 5 := by rw [hsc, hi]; rfl
    rw [show saB b n x = 0 from by simp [saB, hC], show saL b n x = [] from by rw [hsl, hC]; rfl, hC]
    rw [hi] at IN
    clear h hC hi hsc hsl hlp
    go_enter Try.func14, Try.ntmps14
    go_wp2_with fail
    refine (spec_l09Size _ _ _).mono ?_; rintro e w' ⟨rfl, rfl⟩; rw [HN.out]
    go_wp2_with fail
    refine (IN.out _).mono ?_; rintro e w' ⟨rfl, rfl⟩
    go_wp2_with fail
    refine bodyPost_ret (v := .tuple #[.agg #[.int .i64 0, .slice none 0 0], .int .i64 5]) (by simp [results, Try.results14, go_sem, *]) rfl ?_
    exact ⟨_, rfl, own_nil, by first | exact ((below_al _ _).setCell (by simp) _).setCell (by simp) _ | exact below_al _ _⟩
  · have hC : saC b n x = 0 := by rw [hsc, hi]; rfl
    rw [show saB b n x = b from by simp [saB, hC], show saL b n x = digL b (x % N) n from by rw [hsl, hC]; rfl, hC]
    have xb := inB_iff.1 hi
    have A := Lib.hid (fun wx => spec_l09Set b N x n wx a1 a2 (by omega) hlp p (by omega) (by omega) (by omega))
    rw [hi] at IN
    clear h hC hi hsc hsl hlp
    generalize digL b (x % N) n = L at *
    go_enter Try.func14, Try.ntmps14
    go_wp2_with fail
    refine (spec_l09Size _ _ _).mono ?_; rintro e w' ⟨rfl, rfl⟩; rw [HN.out]
    go_wp2_with fail
    refine (IN.out _).mono ?_; rintro e w' ⟨rfl, rfl⟩
    go_wp2_with fail
    refine (A.out _).mono ?_; rintro e w1 ⟨v1, rfl, o1, b1'⟩
    obtain ⟨x0, bw, hs, he⟩ := blk1 b1'
    rw [he] at o1
    have O1 := Lib.hid o1; have BW := Lib.hid bw
    obtain ⟨av, cv, rfl, -, -⟩ := own_form o1
    have c0 := cell_blk x0 0; have c1 := cell_blk x0 1; have f0 := frozen_blk x0 0; have f1 := frozen_blk x0 1
    clear o1 b1' bw x0 he
    go_wp2_with fail
    refine bodyPost_ret (v := .tuple #[.agg #[.int .i64 b, .slice av L.length cv], .int .i64 0]) (by simp [results, Try.results14, go_sem, *]) rfl ?_
    exact ⟨_, rfl, own_base (ownsRow_setCell_below (ownsRow_setCell_below O1.out (by simp) _) (by simp) _) (by omega), (BW.out.setCell (by simp) _).setCell (by simp) _⟩
end Go.Proofs.Ytcooabjcikcpiaa
