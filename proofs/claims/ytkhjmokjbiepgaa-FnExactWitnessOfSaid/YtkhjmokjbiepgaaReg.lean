/- Registers: the digits of a number, the value of digits, valid registers: contracts of both packages. -/
import Derived.IntWalk
import Derived.Maps.AppendAt
import Derived.Deep.RegionLaw
import Derived.Deep.QuietTactic
import Derived.BigQuiet
import Derived.Test.YtkhjmokjbiepgaaGrow
namespace Go.Proofs.Ytkhjmokjbiepgaa
open Go.ChangeShapes Go.WideShapes Go.ChangeAt Go.RowKit
def dv (b v : Int) : Nat → Int
  | 0 => v
  | k + 1 => dv b v k / b
def dig (b v : Int) (k : Nat) : Int := dv b v k % b
def digL (b v : Int) (n : Nat) : List Int := (List.range n).map (dig b v)
theorem dv_bd {b v : Int} (hb : 2 ≤ b) (hv : 0 ≤ v) : ∀ k, 0 ≤ dv b v k ∧ dv b v k ≤ v := by
  intro k
  induction k with
  | zero => exact ⟨hv, Int.le_refl _⟩
  | succ k ih =>
    show 0 ≤ dv b v k / b ∧ dv b v k / b ≤ v
    have h1 := Int.ediv_nonneg ih.1 (show 0 ≤ b by omega)
    have h2 : dv b v k / b ≤ dv b v k := Int.ediv_le_self _ ih.1
    omega
theorem dig_bd {b v : Int} (hb : 2 ≤ b) (k : Nat) : 0 ≤ dig b v k ∧ dig b v k < b := ⟨Int.emod_nonneg _ (by omega), Int.emod_lt_of_pos _ (by omega)⟩
theorem nth_range_map (f : Nat → Int) {n k : Nat} (h : k < n) : nth ((List.range n).map f) k = f k := by simp [nth, List.getD, h]
theorem range_snoc (f : Nat → Int) (n : Nat) : (List.range (n + 1)).map f = (List.range n).map f ++ [f n] := by rw [List.range_succ, List.map_append]; rfl
theorem own_drewN {w : World} {B : Nat} {v : Value} {zs : List Int} (h : Own w B v zs) (n : Nat) : Own (w.drewN n) B v zs := h
theorem drewN_below (B : Nat) (w : World) (n : Nat) : Below B w (w.drewN n) := ⟨rfl, rfl, rfl, Nat.le_refl _, fun _ _ => rfl⟩
theorem ret_b {c d : Bool} (h2 : c = d) : Ending.returned (.bool c) = .returned (.bool d) := by rw [h2]
theorem below_dd (w : World) (n m : Nat) : Below w.heap.size w ((w.drewN n).drewN m) := (below_drewN w n).trans (below_drewN (w.drewN n) m)
set_option maxHeartbeats 4000000 in
theorem spec_l02New (b v : Int) (n : Nat) (w : World) (hb : 2 ≤ b) (hb2 : b ≤ 16) (hv : 0 ≤ v) (hv2 : v ≤ 2000000000000000) (hn : n ≤ 16) :
    Calls Try.prog 52 #[.int .i64 b, .int .i64 n, .int .i64 v] w (RetAggI w b (digL b v n) (dv b v n)) := by
  go_enter Try.func52, Try.ntmps52
  go_wp2_with fail
  go_loopw [2, 9] (fun vv kk wr => ∃ (t : Nat) (u : Value), kk = .int .i64 t ∧ t ≤ n ∧ vv = .int .i64 (dv b v t) ∧ Own wr w.heap.size u (digL b v t) ∧ some w.heap.size ≠ u.ownBlock ∧ some (w.heap.size + 1) ≠ u.ownBlock ∧ wr.heap[w.heap.size]? = some (.cells #[.int .i64 0, .slice none 0 0] 41) ∧ wr.heap[w.heap.size + 1]? = some (.cells #[.int .i64 b, u] 41) ∧ Below w.heap.size w wr ∧ w.heap.size + 1 + 1 ≤ wr.heap.size) (fun _ kk _ => n - (intOf kk).toNat)
  case atStart =>
    obtain ⟨x0, x1, bw, hs, he⟩ := blk2 (Below.refl _ _)
    exact ⟨0, _, rfl, Nat.zero_le _, rfl, own_nil, by simp [Value.ownBlock], by simp [Value.ownBlock], x0, x1, bw, by omega⟩
  case round =>
    obtain ⟨t, u, rfl, ht, rfl, ho, n4, n5, h4, h5, hbw, hs⟩ := hrel
    have H4 := Lib.hid h4; have H5 := Lib.hid h5; have N4 := Lib.hid n4; have N5 := Lib.hid n5
    have HOL := Lib.hid ho; have HBW := Lib.hid hbw
    obtain ⟨V0, V1⟩ := dv_bd (b := b) hb hv t
    obtain ⟨D0, D1⟩ := dig_bd (b := b) (v := v) hb t
    have hlb : (digL b v t).length ≤ 16 := by simp [digL]; omega
    have HN := Lib.hid (show digL b v t ++ [dig b v t] = digL b v (t + 1) from (range_snoc _ _).symm)
    have HDV := Lib.hid (show dv b v (t + 1) = dv b v t / b from rfl)
    have HLL := Lib.hid (show (digL b v t).length = t from by simp [digL])
    have eT : (dv b v t).tmod b = dig b v t := Int.tmod_eq_emod_of_nonneg V0
    generalize hL : digL b v t = L at *
    have HL := Lib.hid hL; clear hL
    generalize dig b v t = D at *
    generalize hV : dv b v t = V at *
    have HV := Lib.hid hV; clear hV
    obtain ⟨a, cap, rfl, -, -⟩ := own_form ho
    have c0 := cell_blk h5 0; have c1 := cell_blk h5 1; have f1 := frozen_blk h5 1
    clear ho n4 n5
    by_cases hlt : t < n
    · have wD : IntKind.i64.wrap D = D := IntWalk.i64_in _ (by omega)
      have zb : ¬ b = 0 := by omega
      have lt5 : w.heap.size + 1 < wr.heap.size := by omega
      clear hbw h4 h5
      go_wp2_with fail
      go_region_law ((refine step_app_at (by rfl) _ _ (by rfl) _ _ (own_alloc (own_drew HOL.out) _) (by rfl) (by rfl) (by simp; rfl) (by omega) (by simp; omega) ?_; intro v' w9 ho' hg' hloc; obtain ⟨hb', hs'⟩ := app_below HBW.out.drew (own_drew HOL.out) hg' (Nat.le_refl _) (show w.heap.size ≤ wr.heap.size by omega); have X4 := Lib.hid ((hg'.block w.heap.size (by simp; omega) N4.out).trans ((Below.heap_alloc wr.drew _ _ (show w.heap.size < wr.heap.size by omega)).trans H4.out)); have x5 := (hg'.block (w.heap.size + 1) (by simp; omega) N5.out).trans ((Below.heap_alloc wr.drew _ _ (show w.heap.size + 1 < wr.heap.size by omega)).trans H5.out); have hs9 := hg'.size; have M4 := Lib.hid (loc_ne hloc N4.out (by simp; omega)); have M5 := Lib.hid (loc_ne hloc N5.out (by simp; omega)); obtain ⟨av, cv, rfl, -, -⟩ := own_form ho'; have c0 := cell_blk x5 0; have c1 := cell_blk x5 1; have f1 := frozen_blk x5 1; have X5 := Lib.hid x5; have O9 := Lib.hid ho'; have B9 := Lib.hid hb'; clear ho' hb' hg' hloc x5))
      all_goals (
      clear eT wD
      go_wp2_with fail
      go_roundw
      case rel => exact ⟨t + 1, _, by go_num, by omega, by first | (rw [HDV.out]; done) | (rw [HDV.out]; go_num), by rw [← HN.out]; exact own_setCell_ne O9.out M5.out, fun e => M4.out e.symm, fun e => M5.out e.symm, by rw [Below.heap_setCell _ _ _ _ (by first | (simp; done) | (simp; omega))]; exact X4.out, by simpa using setCell_blk X5.out _, B9.out.setCell (by first | (simp; done) | (simp; omega)) _, by simp at *; omega⟩
      case measure => first | (simp [intOf]; done) | (simp [intOf]; omega))
    · obtain rfl : t = n := by omega
      have d0 := cell_blk h4 0; have d1 := cell_blk h4 1; have g0 := frozen_blk h4 0; have g1 := frozen_blk h4 1
      clear h4 h5 hbw
      go_wp2_with fail
      refine bodyPost_ret (v := .tuple #[.agg #[.int .i64 b, .slice a L.length cap], .int .i64 V]) (by simp [results, Try.results52, go_sem, *]) rfl ?_
      exact ⟨_, by rw [HV.out], by rw [HL.out]; exact own_setCell_ne (own_setCell_ne HOL.out (fun e => N4.out e.symm)) (fun e => N4.out e.symm), (HBW.out.setCell (by simp) _).setCell (by simp) _⟩
def RetAggB (w : World) (b : Int) (zs : List Int) (c : Bool) (e : Ending) (w' : World) : Prop := ∃ v, e = .returned (.tuple #[.agg #[.int .i64 b, v], .bool c]) ∧ Own w' w.heap.size v zs ∧ Below w.heap.size w w'
def isD (b d : Int) : Bool := inB d 0 (b - 1)
def valC (b : Int) : List Int → Int
  | [] => 0
  | d :: ds => if 1000000000001 < valC b ds * b + d then 1000000000001 else valC b ds * b + d
def validR (b : Int) (xs : List Int) : Bool := inB b 2 16 && (inB xs.length 1 16 && (xs.all (isD b) && decide (valC b xs ≤ 1000000000000)))
theorem drop_cons {xs : List Int} {i : Nat} (h : i < xs.length) : xs.drop i = nth xs i :: xs.drop (i + 1) := by
  rw [List.drop_eq_getElem_cons h]; simp [nth, List.getD, h]
theorem valC_step (b : Int) {xs : List Int} {i : Nat} (h : i < xs.length) : valC b (xs.drop i) = if 1000000000001 < valC b (xs.drop (i + 1)) * b + nth xs i then 1000000000001 else valC b (xs.drop (i + 1)) * b + nth xs i := by
  rw [drop_cons h]; rfl
theorem valC_bd {b : Int} (hb : 2 ≤ b) : ∀ xs : List Int, (∀ d ∈ xs, 0 ≤ d ∧ d ≤ 15) → 0 ≤ valC b xs ∧ valC b xs ≤ 1000000000001 := by
  intro xs
  induction xs with
  | nil => intro _; exact ⟨by show (0 : Int) ≤ 0; omega, by show (0 : Int) ≤ _; omega⟩
  | cons d ds ih =>
    intro h
    have i := ih (fun x hx => h x (List.mem_cons_of_mem _ hx))
    have a := h d (List.mem_cons_self ..)
    have m := Int.mul_nonneg i.1 (show 0 ≤ b by omega)
    show 0 ≤ (if 1000000000001 < valC b ds * b + d then 1000000000001 else valC b ds * b + d) ∧ (if 1000000000001 < valC b ds * b + d then 1000000000001 else valC b ds * b + d) ≤ 1000000000001
    split <;> omega
theorem nth_mem {xs : List Int} {j : Nat} (hj : j < xs.length) : nth xs j ∈ xs := by
  have : nth xs j = xs[j] := by simp [nth, List.getD, hj]
  rw [this]; exact List.getElem_mem hj
/-- once over the bound, it stays over it -/
theorem valC_over {b : Int} (hb : 2 ≤ b) : ∀ (xs : List Int) (i : Nat), (∀ d ∈ xs, 0 ≤ d ∧ d ≤ 15) → i ≤ xs.length → valC b (xs.drop i) = 1000000000001 → valC b xs = 1000000000001 := by
  intro xs i hd hi h
  induction i with
  | zero => simpa using h
  | succ i ih =>
    apply ih (by omega)
    have a := hd (nth xs i) (nth_mem (by omega))
    rw [valC_step b (by omega), h]
    rw [if_pos (by omega)]
theorem beq_dec (x y : Int) : decide (x = y) = (x == y) := by by_cases h : x = y <;> simp [h]
set_option maxHeartbeats 4000000 in
theorem impl_registerOf (b v : Int) (n : Nat) (w : World) (hb : 2 ≤ b) (hb2 : b ≤ 16) (hv : 0 ≤ v) (hv2 : v ≤ 2000000000000000) (hn : n ≤ 16) :
    Calls Try.prog 58 #[.int .i64 b, .int .i64 n, .int .i64 v] w (RetAggB w b (digL b v n) (decide (dv b v n = 0))) := by
  go_enter Try.func58, Try.ntmps58
  go_wp2_with fail
  go_loopw [2, 12] (fun vv kk wr => ∃ (t : Nat) (u : Value), kk = .int .i64 t ∧ t ≤ n ∧ vv = .int .i64 (dv b v t) ∧ Own wr w.heap.size u (digL b v t) ∧ some w.heap.size ≠ u.ownBlock ∧ some (w.heap.size + 1) ≠ u.ownBlock ∧ wr.heap[w.heap.size]? = some (.cells #[.int .i64 0, .slice none 0 0] 41) ∧ wr.heap[w.heap.size + 1]? = some (.cells #[.int .i64 b, u] 41) ∧ Below w.heap.size w wr ∧ w.heap.size + 1 + 1 ≤ wr.heap.size) (fun _ kk _ => n - (intOf kk).toNat)
  case atStart =>
    obtain ⟨x0, x1, bw, hs, he⟩ := blk2 (Below.refl _ _)
    exact ⟨0, _, rfl, Nat.zero_le _, rfl, own_nil, by simp [Value.ownBlock], by simp [Value.ownBlock], x0, x1, bw, by omega⟩
  case round =>
    obtain ⟨t, u, rfl, ht, rfl, ho, n4, n5, h4, h5, hbw, hs⟩ := hrel
    have H4 := Lib.hid h4; have H5 := Lib.hid h5; have N4 := Lib.hid n4; have N5 := Lib.hid n5
    have HOL := Lib.hid ho; have HBW := Lib.hid hbw
    obtain ⟨V0, V1⟩ := dv_bd (b := b) hb hv t
    obtain ⟨D0, D1⟩ := dig_bd (b := b) (v := v) hb t
    have hlb : (digL b v t).length ≤ 16 := by simp [digL]; omega
    have HN := Lib.hid (show digL b v t ++ [dig b v t] = digL b v (t + 1) from (range_snoc _ _).symm)
    have HDV := Lib.hid (show dv b v (t + 1) = dv b v t / b from rfl)
    have HLL := Lib.hid (show (digL b v t).length = t from by simp [digL])
    have eT : (dv b v t).tmod b = dig b v t := Int.tmod_eq_emod_of_nonneg V0
    generalize hL : digL b v t = L at *
    have HL := Lib.hid hL; clear hL
    generalize dig b v t = D at *
    generalize hV : dv b v t = V at *
    have HV := Lib.hid hV; clear hV
    obtain ⟨a, cap, rfl, -, -⟩ := own_form ho
    have c0 := cell_blk h5 0; have c1 := cell_blk h5 1; have f1 := frozen_blk h5 1
    clear ho n4 n5
    by_cases hlt : t < n
    · have wD : IntKind.i64.wrap D = D := IntWalk.i64_in _ (by omega)
      have zb : ¬ b = 0 := by omega
      have lt5 : w.heap.size + 1 < wr.heap.size := by omega
      clear hbw h4 h5
      go_wp2_with fail
      go_region_law ((refine step_app_at (by rfl) _ _ (by rfl) _ _ (own_alloc (own_drew HOL.out) _) (by rfl) (by rfl) (by simp; rfl) (by omega) (by simp; omega) ?_; intro v' w9 ho' hg' hloc; obtain ⟨hb', hs'⟩ := app_below HBW.out.drew (own_drew HOL.out) hg' (Nat.le_refl _) (show w.heap.size ≤ wr.heap.size by omega); have X4 := Lib.hid ((hg'.block w.heap.size (by simp; omega) N4.out).trans ((Below.heap_alloc wr.drew _ _ (show w.heap.size < wr.heap.size by omega)).trans H4.out)); have x5 := (hg'.block (w.heap.size + 1) (by simp; omega) N5.out).trans ((Below.heap_alloc wr.drew _ _ (show w.heap.size + 1 < wr.heap.size by omega)).trans H5.out); have hs9 := hg'.size; have M4 := Lib.hid (loc_ne hloc N4.out (by simp; omega)); have M5 := Lib.hid (loc_ne hloc N5.out (by simp; omega)); obtain ⟨av, cv, rfl, -, -⟩ := own_form ho'; have c0 := cell_blk x5 0; have c1 := cell_blk x5 1; have f1 := frozen_blk x5 1; have X5 := Lib.hid x5; have O9 := Lib.hid ho'; have B9 := Lib.hid hb'; clear ho' hb' hg' hloc x5))
      all_goals (
      clear eT wD
      go_wp2_with fail
      go_roundw
      case rel => exact ⟨t + 1, _, by go_num, by omega, by first | (rw [HDV.out]; done) | (rw [HDV.out]; go_num), by rw [← HN.out]; exact own_setCell_ne O9.out M5.out, fun e => M4.out e.symm, fun e => M5.out e.symm, by rw [Below.heap_setCell _ _ _ _ (by first | (simp; done) | (simp; omega))]; exact X4.out, by simpa using setCell_blk X5.out _, B9.out.setCell (by first | (simp; done) | (simp; omega)) _, by simp at *; omega⟩
      case measure => first | (simp [intOf]; done) | (simp [intOf]; omega))
    · obtain rfl : t = n := by omega
      have d0 := cell_blk h4 0; have d1 := cell_blk h4 1; have g0 := frozen_blk h4 0; have g1 := frozen_blk h4 1
      clear h4 h5 hbw
      go_wp2_with fail
      refine bodyPost_ret (v := .tuple #[.agg #[.int .i64 b, .slice a L.length cap], .bool (V == 0)]) (by simp [results, Try.results58, go_sem, *]) rfl ?_
      exact ⟨_, by rw [HV.out, beq_dec], by rw [HL.out]; exact own_setCell_ne (own_setCell_ne HOL.out (fun e => N4.out e.symm)) (fun e => N4.out e.symm), (HBW.out.setCell (by simp) _).setCell (by simp) _⟩
theorem isD_bd {b : Int} {xs : List Int} (hb2 : b ≤ 16) (h : xs.all (isD b) = true) : ∀ d ∈ xs, 0 ≤ d ∧ d ≤ 15 := by
  intro d hd
  have := inB_iff.1 (List.all_eq_true.1 h d hd)
  omega
theorem drop_bd {xs : List Int} (h : ∀ d ∈ xs, 0 ≤ d ∧ d ≤ 15) (j : Nat) : ∀ d ∈ xs.drop j, 0 ≤ d ∧ d ≤ 15 := fun d hd => h d (List.mem_of_mem_drop hd)
set_option maxHeartbeats 4000000 in
theorem impl_value {B : Nat} {v : Value} {xs : List Int} (b : Int) (w : World) (h : Own w B v xs) (hb : 2 ≤ b) (hb2 : b ≤ 16) (hd : ∀ d ∈ xs, 0 ≤ d ∧ d ≤ 15) (hl : xs.length ≤ 16) :
    Calls Try.prog 85 #[.agg #[.int .i64 b, v]] w (RetV w (.int .i64 (valC b xs))) := by
  obtain ⟨a1, c1, rfl, m1, q1⟩ := own_form h
  have QQ := Lib.hid q1; have HD := Lib.hid hd; clear q1 h hd
  go_enter Try.func85, Try.ntmps85
  go_wp2_with fail
  go_loopw [3, 4] (fun vv ii wr => ∃ j : Nat, j ≤ xs.length ∧ ii = .int .i64 ((j : Int) - 1) ∧ vv = .int .i64 (valC b (xs.drop j)) ∧ Hid (valC b (xs.drop j) ≤ 1000000000000) ∧ ∃ k, wr = (w.alloc (.cells #[.int .i64 b, .slice a1 xs.length c1] 41)).drewN k) (fun _ ii _ => (intOf ii + 1).toNat)
  case atStart => exact ⟨xs.length, Nat.le_refl _, rfl, by rw [List.drop_length]; rfl, Lib.hid (by rw [List.drop_length]; show (0 : Int) ≤ _; omega), 0, rfl⟩
  case round =>
    obtain ⟨j, hj, rfl, rfl, hle, k, rfl⟩ := hrel
    have bd := valC_bd hb (xs.drop j) (drop_bd HD.out j)
    by_cases h0 : j = 0
    · subst h0
      have HR := Lib.hid (show valC b (xs.drop 0) = valC b xs from by rw [List.drop_zero])
      generalize valC b (xs.drop 0) = V at *
      clear hle
      go_wp2_with fail
      go_ret
      exact ⟨ret_int (by first | rfl | exact HR.out | exact HR.out.symm), (below_al _ _).trans (drewN_below _ _ _)⟩
    · obtain ⟨i, hi⟩ : ∃ i, j = i + 1 := ⟨j - 1, by omega⟩
      have hlt : i < xs.length := by omega
      obtain ⟨g, rfl, q⟩ := QQ.out i hlt
      have gl := World.block_lt_of_cell? w _ q
      have hst := valC_step b hlt
      rw [← hi] at hst
      have dd := HD.out _ (nth_mem hlt)
      have hV := hle.out
      have pm := Int.mul_nonneg bd.1 (show 0 ≤ b by omega)
      have pm2 := Int.mul_le_mul_of_nonneg_left hb2 bd.1
      have HOV := Lib.hid (fun e => valC_over hb xs i HD.out (by omega) e)
      have HBD := Lib.hid (valC_bd hb (xs.drop i) (drop_bd HD.out i))
      generalize valC b (xs.drop j) = V at *
      obtain ⟨V', hV'⟩ : ∃ V', V' = valC b (xs.drop i) := ⟨_, rfl⟩
      rw [← hV'] at hst HOV HBD
      have HV' := Lib.hid hV'; clear hV' hle
      generalize nth xs i = d at *
      obtain ⟨P, eP⟩ : ∃ P, V * b = P := ⟨_, rfl⟩
      rw [eP] at hst pm pm2
      have HST := Lib.hid hst; clear hst
      have e1 : (j : Int) - 1 = (i : Int) := by omega
      have i0 : (0 : Int) ≤ (i : Int) := by omega
      have i1 : (i : Int) < (xs.length : Int) := by omega
      have wP : IntKind.i64.wrap P = P := IntWalk.i64_in _ (by omega)
      have wA : IntKind.i64.wrap (P + d) = P + d := IntWalk.i64_in _ (by omega)
      have HI := Lib.hid hi
      clear hi
      rw [e1] at *
      by_cases hov : 1000000000000 < P + d
      · have HR := Lib.hid (show valC b xs = 1000000000001 from HOV.out (by rw [HST.out]; split <;> omega))
        go_wp2_with fail
        go_quiet (fail)
        clear i0 i1
        go_wp2_with fail
        go_ret
        exact ⟨ret_int HR.out.symm, by first | exact (below_al _ _).trans (drewN_below _ _ _) | exact ((below_al _ _).trans (drewN_below _ _ _)).trans (drewN_below _ _ _)⟩
      · have HR := Lib.hid (show P + d = V' from by rw [HST.out, if_neg (by omega)])
        go_wp2_with fail
        go_quiet (fail)
        clear i0 i1
        go_wp2_with fail
        go_roundw
        case rel => exact ⟨i, by omega, by first | rfl | go_num, by rw [HR.out, HV'.out], Lib.hid (by rw [← HV'.out, ← HR.out]; omega), by first | exact ⟨_, rfl⟩ | exact drewN_ex _ _ _⟩
        case measure => first | (simp [intOf]; done) | (simp [intOf]; omega)
end Go.Proofs.Ytkhjmokjbiepgaa
