/- EngineCarries of both packages: digits and carries. -/
import Derived.IntWalk
import Derived.Maps.AppendAt
import Derived.Deep.RegionLaw
import Derived.Deep.RegionHeld3
import Derived.Deep.QuietTactic
import Derived.BigQuiet
import Derived.Test.YtkhjmokjbiepgaaDoorEng
import Derived.Test.YtkhjmokjbiepgaaDoorGrow
namespace Go.Proofs.YtkhjmokjbiepgaaDoor
open Go.ChangeShapes Go.WideShapes Go.ChangeAt Go.RowKit
def dv (b v : Int) : Nat → Int
  | 0 => v
  | k + 1 => dv b v k / b
def dig (b v : Int) (k : Nat) : Int := dv b v k % b
def digL (b v : Int) (n : Nat) : List Int := (List.range n).map (dig b v)
def cyL (b : Int) (xs ys : List Int) : Nat → Int
  | 0 => 0
  | k + 1 => (nth xs k + nth ys k + cyL b xs ys k) / b
def cyN (b : Int) (xs ys : List Int) (n : Nat) : List Int := (List.range n).map (cyL b xs ys)
def cy (b x y : Int) : Nat → Int
  | 0 => 0
  | k + 1 => (dig b x k + dig b y k + cy b x y k) / b
def cs (b x y : Int) : Nat → Int
  | 0 => 0
  | k + 1 => cs b x y k + cy b x y (k + 1)
def engTo (n : Nat) (xs : List Int) : Nat → Int
  | 0 => 0
  | k + 1 => engTo n xs k + cs 10 (nth xs k) (nth xs (k + 1)) n
def ecV (wd : Int) (xs : List Int) : Int := if validE wd xs then engTo (wd.toNat - 1) xs (xs.length - 1) else 0
def ecC (wd : Int) (xs : List Int) : Int := if validE wd xs then 0 else 1
theorem dv_bd {b v : Int} (hb : 2 ≤ b) (hv : 0 ≤ v) : ∀ k, 0 ≤ dv b v k ∧ dv b v k ≤ v := by
  intro k
  induction k with
  | zero => exact ⟨hv, Int.le_refl _⟩
  | succ k ih =>
    show 0 ≤ dv b v k / b ∧ dv b v k / b ≤ v
    have h1 := Int.ediv_nonneg ih.1 (show 0 ≤ b by omega)
    have h2 : dv b v k / b ≤ dv b v k := Int.ediv_le_self _ ih.1
    omega
theorem dig_bd {b v : Int} (hb : 2 ≤ b) (k : Nat) : 0 ≤ dig b v k ∧ dig b v k < b := ⟨Int.emod_nonneg _ (by omega), Int.emod_lt_of_pos _ (by omega)⟩
theorem nth_range_map (f : Nat → Int) {n k : Nat} (h : k < n) : nth ((List.range n).map f) k = f k := by simp [nth, List.getD, h]
theorem carry_bd {b x y c : Int} (hb : 2 ≤ b) (hx : 0 ≤ x) (hx2 : x < b) (hy : 0 ≤ y) (hy2 : y < b) (hc : 0 ≤ c) (hc2 : c ≤ 1) : 0 ≤ (x + y + c) / b ∧ (x + y + c) / b ≤ 1 := by
  refine ⟨Int.ediv_nonneg (by omega) (by omega), ?_⟩
  have : (x + y + c) / b < 2 := Int.ediv_lt_of_lt_mul (by omega) (by omega)
  omega
theorem cy_bd {b x y : Int} (hb : 2 ≤ b) : ∀ k, 0 ≤ cy b x y k ∧ cy b x y k ≤ 1 := by
  intro k
  induction k with
  | zero => exact ⟨by show (0 : Int) ≤ 0; omega, by show (0 : Int) ≤ 1; omega⟩
  | succ k ih =>
    have a := dig_bd (v := x) hb k; have c := dig_bd (v := y) hb k
    exact carry_bd hb a.1 a.2 c.1 c.2 ih.1 ih.2
theorem cs_bd {b x y : Int} (hb : 2 ≤ b) : ∀ k : Nat, 0 ≤ cs b x y k ∧ cs b x y k ≤ (k : Int) := by
  intro k
  induction k with
  | zero => exact ⟨by show (0 : Int) ≤ 0; omega, by show (0 : Int) ≤ 0; omega⟩
  | succ k ih =>
    have a := cy_bd (x := x) (y := y) hb (k + 1)
    show 0 ≤ cs b x y k + cy b x y (k + 1) ∧ cs b x y k + cy b x y (k + 1) ≤ _
    omega
theorem engTo_bd {n : Nat} (hn : n ≤ 11) (xs : List Int) : ∀ k : Nat, 0 ≤ engTo n xs k ∧ engTo n xs k ≤ 12 * (k : Int) := by
  intro k
  induction k with
  | zero => exact ⟨by show (0 : Int) ≤ 0; omega, by show (0 : Int) ≤ _; omega⟩
  | succ k ih =>
    have a := cs_bd (b := 10) (x := nth xs k) (y := nth xs (k + 1)) (by omega) n
    show 0 ≤ engTo n xs k + cs 10 (nth xs k) (nth xs (k + 1)) n ∧ engTo n xs k + cs 10 (nth xs k) (nth xs (k + 1)) n ≤ _
    omega
theorem cyL_cy {b x y : Int} {n : Nat} : ∀ k, k ≤ n → cyL b (digL b x n) (digL b y n) k = cy b x y k := by
  intro k
  induction k with
  | zero => intro _; rfl
  | succ k ih =>
    intro h
    show (nth (digL b x n) k + nth (digL b y n) k + cyL b (digL b x n) (digL b y n) k) / b = _
    rw [ih (by omega), show nth (digL b x n) k = dig b x k from nth_range_map _ (by omega), show nth (digL b y n) k = dig b y k from nth_range_map _ (by omega)]
    rfl
theorem cyN_cy {b x y : Int} {n k : Nat} (h : k ≤ n) : nth (cyN b (digL b x n) (digL b y n) (n + 1)) k = cy b x y k := by
  rw [show nth (cyN b (digL b x n) (digL b y n) (n + 1)) k = cyL b (digL b x n) (digL b y n) k from nth_range_map _ (by omega)]
  exact cyL_cy k h
theorem validE_parts {wd : Int} {xs : List Int} (h : validE wd xs = true) : 1 ≤ wd ∧ wd ≤ 12 ∧ 1 ≤ xs.length ∧ xs.length ≤ 9 ∧ ∀ k, k < xs.length → 0 ≤ nth xs k ∧ nth xs k ≤ 999999999999 := by
  unfold validE at h
  simp only [Bool.and_eq_true] at h
  have a := inB_iff.1 h.1; have b := inB_iff.1 h.2.1
  refine ⟨a.1, a.2, by omega, by omega, fun k hk => ?_⟩
  have c := inB_iff.1 (all_get h.2.2 hk)
  obtain ⟨_, t2, t3⟩ := ten_bd (n := wd.toNat) (by omega)
  omega
theorem range_snoc (f : Nat → Int) (n : Nat) : (List.range (n + 1)).map f = (List.range n).map f ++ [f n] := by rw [List.range_succ, List.map_append]; rfl
theorem own_lit1 (w : World) (x : Int) : Own (w.alloc (.cells #[.int .i64 x] 2)) w.heap.size (.slice (some ⟨w.heap.size, 0, none⟩) 1 1) [x] := by
  have h := World.ownsRow_lit (base := w.heap.size) (e := 2) (size := 1) w #[.int .i64 x] 1 (Nat.le_refl _) (by unfold maxLen; omega) (by simp)
  exact h
theorem own_drewN {w : World} {B : Nat} {v : Value} {zs : List Int} (h : Own w B v zs) (n : Nat) : Own (w.drewN n) B v zs := h
theorem drewN_below (B : Nat) (w : World) (n : Nat) : Below B w (w.drewN n) := ⟨rfl, rfl, rfl, Nat.le_refl _, fun _ _ => rfl⟩
theorem ret_tt {a b c d : Int} (h1 : c = a) (h2 : d = b) : Ending.returned (.tuple #[.int .i64 a, .int .i64 b]) = .returned (.tuple #[.int .i64 c, .int .i64 d]) := by rw [h1, h2]
set_option maxHeartbeats 4000000 in
theorem spec_l02New (b v : Int) (n : Nat) (w : World) (hb : 2 ≤ b) (hb2 : b ≤ 16) (hv : 0 ≤ v) (hv2 : v ≤ 2000000000000000) (hn : n ≤ 16) :
    Calls Tryd.prog 52 #[.int .i64 b, .int .i64 n, .int .i64 v] w (RetAggI w b (digL b v n) (dv b v n)) := by
  go_enter Tryd.func52, Tryd.ntmps52
  go_wp2_with fail
  go_loopw [2, 9] (fun vv kk wr => ∃ (t : Nat) (u : Value), kk = .int .i64 t ∧ t ≤ n ∧ vv = .int .i64 (dv b v t) ∧ Own wr w.heap.size u (digL b v t) ∧ some w.heap.size ≠ u.ownBlock ∧ some (w.heap.size + 1) ≠ u.ownBlock ∧ wr.heap[w.heap.size]? = some (.cells #[.int .i64 0, .slice none 0 0] 78) ∧ wr.heap[w.heap.size + 1]? = some (.cells #[.int .i64 b, u] 78) ∧ Below w.heap.size w wr ∧ w.heap.size + 1 + 1 ≤ wr.heap.size) (fun _ kk _ => n - (intOf kk).toNat)
  case atStart =>
    obtain ⟨x0, x1, bw, hs, he⟩ := blk2 (Below.refl _ _)
    exact ⟨0, _, rfl, Nat.zero_le _, rfl, own_nil, by simp [Value.ownBlock], by simp [Value.ownBlock], x0, x1, bw, by omega⟩
  case round =>
    obtain ⟨t, u, rfl, ht, rfl, ho, n4, n5, h4, h5, hbw, hs⟩ := hrel
    have H4 := Lib.hid h4; have H5 := Lib.hid h5; have N4 := Lib.hid n4; have N5 := Lib.hid n5
    have HOL := Lib.hid ho; have HBW := Lib.hid hbw
    obtain ⟨V0, V1⟩ := dv_bd (b := b) hb hv t
    obtain ⟨D0, D1⟩ := dig_bd (b := b) (v := v) hb t
    have hlb : (digL b v t).length ≤ 16 := by simp [digL]; omega
    have HN := Lib.hid (show digL b v t ++ [dig b v t] = digL b v (t + 1) from (range_snoc _ _).symm)
    have HDV := Lib.hid (show dv b v (t + 1) = dv b v t / b from rfl)
    have HLL := Lib.hid (show (digL b v t).length = t from by simp [digL])
    have eT : (dv b v t).tmod b = dig b v t := Int.tmod_eq_emod_of_nonneg V0
    generalize hL : digL b v t = L at *
    have HL := Lib.hid hL; clear hL
    generalize dig b v t = D at *
    generalize hV : dv b v t = V at *
    have HV := Lib.hid hV; clear hV
    obtain ⟨a, cap, rfl, -, -⟩ := own_form ho
    have c0 := cell_blk h5 0; have c1 := cell_blk h5 1; have f1 := frozen_blk h5 1
    clear ho n4 n5
    by_cases hlt : t < n
    · have wD : IntKind.i64.wrap D = D := IntWalk.i64_in _ (by omega)
      have zb : ¬ b = 0 := by omega
      have lt5 : w.heap.size + 1 < wr.heap.size := by omega
      clear hbw h4 h5
      go_wp2_with fail
      go_region_law ((refine step_app_at (by rfl) _ _ (by rfl) _ _ (own_alloc (own_drew HOL.out) _) (by rfl) (by rfl) (by simp; rfl) (by omega) (by simp; omega) ?_; intro v' w9 ho' hg' hloc; obtain ⟨hb', hs'⟩ := app_below HBW.out.drew (own_drew HOL.out) hg' (Nat.le_refl _) (show w.heap.size ≤ wr.heap.size by omega); have X4 := Lib.hid ((hg'.block w.heap.size (by simp; omega) N4.out).trans ((Below.heap_alloc wr.drew _ _ (show w.heap.size < wr.heap.size by omega)).trans H4.out)); have x5 := (hg'.block (w.heap.size + 1) (by simp; omega) N5.out).trans ((Below.heap_alloc wr.drew _ _ (show w.heap.size + 1 < wr.heap.size by omega)).trans H5.out); have hs9 := hg'.size; have M4 := Lib.hid (loc_ne hloc N4.out (by simp; omega)); have M5 := Lib.hid (loc_ne hloc N5.out (by simp; omega)); obtain ⟨av, cv, rfl, -, -⟩ := own_form ho'; have c0 := cell_blk x5 0; have c1 := cell_blk x5 1; have f1 := frozen_blk x5 1; have X5 := Lib.hid x5; have O9 := Lib.hid ho'; have B9 := Lib.hid hb'; clear ho' hb' hg' hloc x5))
      all_goals (
      clear eT wD
      go_wp2_with fail
      go_roundw
      case rel => exact ⟨t + 1, _, by go_num, by omega, by first | (rw [HDV.out]; done) | (rw [HDV.out]; go_num), by rw [← HN.out]; exact own_setCell_ne O9.out M5.out, fun e => M4.out e.symm, fun e => M5.out e.symm, by rw [Below.heap_setCell _ _ _ _ (by first | (simp; done) | (simp; omega))]; exact X4.out, by simpa using setCell_blk X5.out _, B9.out.setCell (by first | (simp; done) | (simp; omega)) _, by simp at *; omega⟩
      case measure => first | (simp [intOf]; done) | (simp [intOf]; omega))
    · obtain rfl : t = n := by omega
      have d0 := cell_blk h4 0; have d1 := cell_blk h4 1; have g0 := frozen_blk h4 0; have g1 := frozen_blk h4 1
      clear h4 h5 hbw
      go_wp2_with fail
      refine bodyPost_ret (v := .tuple #[.agg #[.int .i64 b, .slice a L.length cap], .int .i64 V]) (by simp [results, Tryd.results52, go_sem, *]) rfl ?_
      exact ⟨_, by rw [HV.out], by rw [HL.out]; exact own_setCell_ne (own_setCell_ne HOL.out (fun e => N4.out e.symm)) (fun e => N4.out e.symm), (HBW.out.setCell (by simp) _).setCell (by simp) _⟩
end Go.Proofs.YtkhjmokjbiepgaaDoor
