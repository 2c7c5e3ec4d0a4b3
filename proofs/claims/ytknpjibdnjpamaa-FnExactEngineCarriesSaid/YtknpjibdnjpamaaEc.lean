/- EngineCarries of both packages: digits and carries. -/
import Derived.IntWalk
import Derived.Maps.AppendAt
import Derived.Deep.RegionLaw
import Derived.Deep.RegionHeld3
import Derived.Deep.QuietTactic
import Derived.BigQuiet
import Derived.Test.YtknpjibdnjpamaaEng
import Derived.Test.YtknpjibdnjpamaaGrow
namespace Go.Proofs.Ytknpjibdnjpamaa
open Go.ChangeShapes Go.WideShapes Go.ChangeAt Go.RowKit
def dv (b v : Int) : Nat → Int
  | 0 => v
  | k + 1 => dv b v k / b
def dig (b v : Int) (k : Nat) : Int := dv b v k % b
def digL (b v : Int) (n : Nat) : List Int := (List.range n).map (dig b v)
def cyL (b : Int) (xs ys : List Int) : Nat → Int
  | 0 => 0
  | k + 1 => (nth xs k + nth ys k + cyL b xs ys k) / b
def cyN (b : Int) (xs ys : List Int) (n : Nat) : List Int := (List.range n).map (cyL b xs ys)
def cy (b x y : Int) : Nat → Int
  | 0 => 0
  | k + 1 => (dig b x k + dig b y k + cy b x y k) / b
def cs (b x y : Int) : Nat → Int
  | 0 => 0
  | k + 1 => cs b x y k + cy b x y (k + 1)
def engTo (n : Nat) (xs : List Int) : Nat → Int
  | 0 => 0
  | k + 1 => engTo n xs k + cs 10 (nth xs k) (nth xs (k + 1)) n
def ecV (wd : Int) (xs : List Int) : Int := if validE wd xs then engTo (wd.toNat - 1) xs (xs.length - 1) else 0
def ecC (wd : Int) (xs : List Int) : Int := if validE wd xs then 0 else 1
theorem dv_bd {b v : Int} (hb : 2 ≤ b) (hv : 0 ≤ v) : ∀ k, 0 ≤ dv b v k ∧ dv b v k ≤ v := by
  intro k
  induction k with
  | zero => exact ⟨hv, Int.le_refl _⟩
  | succ k ih =>
    show 0 ≤ dv b v k / b ∧ dv b v k / b ≤ v
    have h1 := Int.ediv_nonneg ih.1 (show 0 ≤ b by omega)
    have h2 : dv b v k / b ≤ dv b v k := Int.ediv_le_self _ ih.1
    omega
theorem dig_bd {b v : Int} (hb : 2 ≤ b) (k : Nat) : 0 ≤ dig b v k ∧ dig b v k < b := ⟨Int.emod_nonneg _ (by omega), Int.emod_lt_of_pos _ (by omega)⟩
theorem nth_range_map (f : Nat → Int) {n k : Nat} (h : k < n) : nth ((List.range n).map f) k = f k := by simp [nth, List.getD, h]
theorem carry_bd {b x y c : Int} (hb : 2 ≤ b) (hx : 0 ≤ x) (hx2 : x < b) (hy : 0 ≤ y) (hy2 : y < b) (hc : 0 ≤ c) (hc2 : c ≤ 1) : 0 ≤ (x + y + c) / b ∧ (x + y + c) / b ≤ 1 := by
  refine ⟨Int.ediv_nonneg (by omega) (by omega), ?_⟩
  have : (x + y + c) / b < 2 := Int.ediv_lt_of_lt_mul (by omega) (by omega)
  omega
theorem cy_bd {b x y : Int} (hb : 2 ≤ b) : ∀ k, 0 ≤ cy b x y k ∧ cy b x y k ≤ 1 := by
  intro k
  induction k with
  | zero => exact ⟨by show (0 : Int) ≤ 0; omega, by show (0 : Int) ≤ 1; omega⟩
  | succ k ih =>
    have a := dig_bd (v := x) hb k; have c := dig_bd (v := y) hb k
    exact carry_bd hb a.1 a.2 c.1 c.2 ih.1 ih.2
theorem cs_bd {b x y : Int} (hb : 2 ≤ b) : ∀ k : Nat, 0 ≤ cs b x y k ∧ cs b x y k ≤ (k : Int) := by
  intro k
  induction k with
  | zero => exact ⟨by show (0 : Int) ≤ 0; omega, by show (0 : Int) ≤ 0; omega⟩
  | succ k ih =>
    have a := cy_bd (x := x) (y := y) hb (k + 1)
    show 0 ≤ cs b x y k + cy b x y (k + 1) ∧ cs b x y k + cy b x y (k + 1) ≤ _
    omega
theorem engTo_bd {n : Nat} (hn : n ≤ 11) (xs : List Int) : ∀ k : Nat, 0 ≤ engTo n xs k ∧ engTo n xs k ≤ 12 * (k : Int) := by
  intro k
  induction k with
  | zero => exact ⟨by show (0 : Int) ≤ 0; omega, by show (0 : Int) ≤ _; omega⟩
  | succ k ih =>
    have a := cs_bd (b := 10) (x := nth xs k) (y := nth xs (k + 1)) (by omega) n
    show 0 ≤ engTo n xs k + cs 10 (nth xs k) (nth xs (k + 1)) n ∧ engTo n xs k + cs 10 (nth xs k) (nth xs (k + 1)) n ≤ _
    omega
theorem cyL_cy {b x y : Int} {n : Nat} : ∀ k, k ≤ n → cyL b (digL b x n) (digL b y n) k = cy b x y k := by
  intro k
  induction k with
  | zero => intro _; rfl
  | succ k ih =>
    intro h
    show (nth (digL b x n) k + nth (digL b y n) k + cyL b (digL b x n) (digL b y n) k) / b = _
    rw [ih (by omega), show nth (digL b x n) k = dig b x k from nth_range_map _ (by omega), show nth (digL b y n) k = dig b y k from nth_range_map _ (by omega)]
    rfl
theorem cyN_cy {b x y : Int} {n k : Nat} (h : k ≤ n) : nth (cyN b (digL b x n) (digL b y n) (n + 1)) k = cy b x y k := by
  rw [show nth (cyN b (digL b x n) (digL b y n) (n + 1)) k = cyL b (digL b x n) (digL b y n) k from nth_range_map _ (by omega)]
  exact cyL_cy k h
theorem validE_parts {wd : Int} {xs : List Int} (h : validE wd xs = true) : 1 ≤ wd ∧ wd ≤ 12 ∧ 1 ≤ xs.length ∧ xs.length ≤ 9 ∧ ∀ k, k < xs.length → 0 ≤ nth xs k ∧ nth xs k ≤ 999999999999 := by
  unfold validE at h
  simp only [Bool.and_eq_true] at h
  have a := inB_iff.1 h.1; have b := inB_iff.1 h.2.1
  refine ⟨a.1, a.2, by omega, by omega, fun k hk => ?_⟩
  have c := inB_iff.1 (all_get h.2.2 hk)
  obtain ⟨_, t2, t3⟩ := ten_bd (n := wd.toNat) (by omega)
  omega
theorem range_snoc (f : Nat → Int) (n : Nat) : (List.range (n + 1)).map f = (List.range n).map f ++ [f n] := by rw [List.range_succ, List.map_append]; rfl
theorem own_lit1 (w : World) (x : Int) : Own (w.alloc (.cells #[.int .i64 x] 2)) w.heap.size (.slice (some ⟨w.heap.size, 0, none⟩) 1 1) [x] := by
  have h := World.ownsRow_lit (base := w.heap.size) (e := 2) (size := 1) w #[.int .i64 x] 1 (Nat.le_refl _) (by unfold maxLen; omega) (by simp)
  exact h
theorem own_drewN {w : World} {B : Nat} {v : Value} {zs : List Int} (h : Own w B v zs) (n : Nat) : Own (w.drewN n) B v zs := h
theorem drewN_below (B : Nat) (w : World) (n : Nat) : Below B w (w.drewN n) := ⟨rfl, rfl, rfl, Nat.le_refl _, fun _ _ => rfl⟩
theorem ret_tt {a b c d : Int} (h1 : c = a) (h2 : d = b) : Ending.returned (.tuple #[.int .i64 a, .int .i64 b]) = .returned (.tuple #[.int .i64 c, .int .i64 d]) := by rw [h1, h2]
set_option maxHeartbeats 4000000 in
theorem impl_EngineCarries {B : Nat} {v : Value} {xs : List Int} (wd : Int) (w : World) (h : Own w B v xs) (hlen : xs.length ≤ 1048576) :
    Calls Try.prog 22 #[.agg #[.int .i64 wd, v]] w (RetV w (.tuple #[.int .i64 (ecV wd xs), .int .i64 (ecC wd xs)])) := by
  have HO := Lib.hid h
  obtain ⟨a1, cp1, rfl, m1, q1⟩ := own_form h
  have QQ := Lib.hid q1; clear q1 h
  cases hv : validE wd xs
  · have HC := Lib.hid (show ecC wd xs = 1 from by simp [ecC, hv]); have HW := Lib.hid (show ecV wd xs = 0 from by simp [ecV, hv])
    have HV := Lib.hid hv; clear hv
    go_enter Try.func22, Try.ntmps22
    go_wp2_with fail
    refine (impl_ValidEngine _ _ (own_alloc HO.out _) hlen).mono ?_; rintro e w1 ⟨rfl, b1⟩; rw [HV.out]
    have BW := Lib.hid (blk1 b1).2.1; clear b1
    go_wp2_with fail
    refine bodyPost_ret (v := .tuple #[.int .i64 0, .int .i64 1]) (by simp [results, Try.results22, go_sem, *]) rfl ?_
    exact ⟨ret_tt HW.out HC.out, BW.out⟩
  have HV := Lib.hid hv
  obtain ⟨d1, d2, d3, d4, d5⟩ := validE_parts hv
  have HC := Lib.hid (show ecC wd xs = 0 from by simp [ecC, hv]); have HW := Lib.hid (show ecV wd xs = engTo (wd.toNat - 1) xs (xs.length - 1) from by simp [ecV, hv])
  have D5 := Lib.hid d5
  clear hv d5
  obtain ⟨T, hT⟩ : ∃ T : Nat, wd = (T : Int) + 1 := ⟨wd.toNat - 1, by omega⟩
  have hT2 : wd.toNat - 1 = T := by omega
  rw [hT2] at HW
  have HT := Lib.hid hT
  have hT11 : T ≤ 11 := by omega
  clear hT hT2
  go_enter Try.func22, Try.ntmps22
  go_wp2_with fail
  refine (impl_ValidEngine _ _ (own_alloc HO.out _) hlen).mono ?_; rintro e w1 ⟨rfl, b1⟩; rw [HV.out]
  have O1 := Lib.hid (own_keep b1 (own_alloc HO.out _))
  obtain ⟨y0, bw, s1, -⟩ := blk1 b1
  have c0 := cell_blk y0 0; have c1 := cell_blk y0 1
  have lt0 : w.heap.size < w1.heap.size := by omega
  have BW := Lib.hid bw
  have QR := Lib.hid (show ∀ j, j < xs.length → ∃ g, a1 = some ⟨g, 0, none⟩ ∧ g < w1.heap.size ∧ w1.cell? ⟨g, j, none⟩ = some (.int .i64 (nth xs j)) from fun j hj => by
    obtain ⟨g, e1, e2⟩ := QQ.out j hj
    have gl : g < w.heap.size := World.block_lt_of_cell? w _ e2
    exact ⟨g, e1, by omega, (bw.cell (World.block_lt_of_cell? w _ e2)).trans e2⟩)
  clear b1 bw y0 QQ
  go_wp2_with fail
  go_loopw [4, 5, 6, 7, 8, 34] (fun nn kk _ _ _ _ wr => ∃ j : Nat, kk = .int .i64 j ∧ j + 1 ≤ xs.length ∧ nn = .int .i64 (engTo T xs j) ∧ ∃ m, wr = w1.drewN m) (fun _ kk _ _ _ _ _ => xs.length - (intOf kk).toNat)
  case atStart => exact ⟨0, rfl, by omega, rfl, 0, rfl⟩
  case round =>
    obtain ⟨j, rfl, hj, rfl, m, rfl⟩ := hrel
    by_cases hlt : j + 1 < xs.length
    · obtain ⟨g, rfl, gl1, r0⟩ := QR.out j (by omega)
      obtain ⟨g2, e2, gl2, r1⟩ := QR.out (j + 1) hlt
      obtain rfl : g = g2 := by simpa using e2
      obtain ⟨xb0, xb1⟩ := D5.out j (by omega)
      obtain ⟨yb0, yb1⟩ := D5.out (j + 1) hlt
      obtain ⟨nb0, nb1⟩ := engTo_bd (n := T) (by omega) xs j
      have HE := Lib.hid (show engTo T xs (j + 1) = engTo T xs j + cs 10 (nth xs j) (nth xs (j + 1)) T from rfl)
      generalize engTo T xs j = N0 at *
      clear e2
      generalize nth xs j = x at *
      generalize nth xs (j + 1) = y at *
      have i0 : (0 : Int) ≤ (j : Int) := by omega
      have i1 : (j : Int) < (xs.length : Int) := by omega
      have i2 : (0 : Int) ≤ (j : Int) + 1 := by omega
      have i3 : (j : Int) + 1 < (xs.length : Int) := by omega
      have i4 : ((j : Int) + 1).toNat = j + 1 := by omega
      have e34 : wd - 1 = (T : Int) := by have := HT.out; omega
      have wS : IntKind.i64.wrap (wd - 1) = wd - 1 := IntWalk.i64_in _ (by omega)
      go_wp2_with fail
      go_quiet (fail)
      clear i0 i1 i2 i3 i4
      go_wp2_with fail
      go_loop [4, 6, 7, 8, 34] (fun nn aa bb cc ii => ∃ t : Nat, t ≤ T ∧ ii = .int .i64 t ∧ aa = .int .i64 (dv 10 x t) ∧ bb = .int .i64 (dv 10 y t) ∧ cc = .int .i64 (cy 10 x y t) ∧ nn = .int .i64 (N0 + cs 10 x y t)) (fun _ _ _ _ ii => T - (intOf ii).toNat)
      case atStart => exact ⟨0, Nat.zero_le _, rfl, rfl, rfl, rfl, by show _ = Value.int .i64 (N0 + 0); simp⟩
      case round =>
        obtain ⟨t, ht, rfl, rfl, rfl, rfl, rfl⟩ := hrel
        by_cases htl : t < T
        · obtain ⟨p0, p1⟩ := dv_bd (b := 10) (by omega) xb0 t
          obtain ⟨q0, q1⟩ := dv_bd (b := 10) (by omega) yb0 t
          obtain ⟨z0, z1⟩ := cy_bd (b := 10) (x := x) (y := y) (by omega) t
          obtain ⟨u0, u1⟩ := cs_bd (b := 10) (x := x) (y := y) (by omega) t
          have hn1 : dv 10 x (t + 1) = dv 10 x t / 10 := rfl
          have hn2 : dv 10 y (t + 1) = dv 10 y t / 10 := rfl
          have hn3 : cy 10 x y (t + 1) = (dv 10 x t % 10 + dv 10 y t % 10 + cy 10 x y t) / 10 := rfl
          have hn4 : cs 10 x y (t + 1) = cs 10 x y t + cy 10 x y (t + 1) := rfl
          rw [hn3] at hn4
          have HN := Lib.hid (And.intro hn1 (And.intro hn2 (And.intro hn3 hn4)))
          clear hn1 hn2 hn3 hn4
          generalize dv 10 x t = A at *
          generalize dv 10 y t = Bb at *
          generalize cy 10 x y t = Cc at *
          generalize cs 10 x y t = Ss at *
          go_wp2_with fail
          go_round
          case rel => exact ⟨t + 1, by omega, by go_num, by first | (rw [HN.out.1]; done) | (rw [HN.out.1]; go_num), by first | (rw [HN.out.2.1]; done) | (rw [HN.out.2.1]; go_num), by first | (rw [HN.out.2.2.1]; done) | (rw [HN.out.2.2.1]; go_num), by first | (rw [HN.out.2.2.2]; done) | (rw [HN.out.2.2.2]; go_num)⟩
          case measure => first | (simp [intOf]; done) | (simp [intOf]; omega)
        · obtain rfl : t = T := by omega
          have HF := Lib.hid (HE.out.symm)
          obtain ⟨u0, u1⟩ := cs_bd (b := 10) (x := x) (y := y) (by omega) t
          go_wp2_with fail
          go_roundw
          case rel => exact ⟨j + 1, by go_num, by omega, by rw [HF.out], by first | exact ⟨_, rfl⟩ | exact drewN_ex _ _ _⟩
          case measure => first | (simp [intOf]; done) | (simp [intOf]; omega)
    · have HF := Lib.hid (show engTo T xs (xs.length - 1) = engTo T xs j from by rw [show xs.length - 1 = j by omega])
      rw [HF.out] at HW
      generalize engTo T xs j = N0 at *
      have i3 : ¬ (j : Int) + 1 < (xs.length : Int) := by omega
      go_wp2_with fail
      refine bodyPost_ret (v := .tuple #[.int .i64 N0, .int .i64 0]) (by simp [results, Try.results22, go_sem, *]) rfl ?_
      exact ⟨ret_tt HW.out HC.out, BW.out.trans (⟨rfl, rfl, rfl, Nat.le_refl _, fun _ _ => rfl⟩)⟩
set_option maxHeartbeats 4000000 in
theorem spec_l02New (b v : Int) (n : Nat) (w : World) (hb : 2 ≤ b) (hb2 : b ≤ 16) (hv : 0 ≤ v) (hv2 : v ≤ 2000000000000000) (hn : n ≤ 16) :
    Calls Try.prog 35 #[.int .i64 b, .int .i64 n, .int .i64 v] w (RetAggI w b (digL b v n) (dv b v n)) := by
  go_enter Try.func35, Try.ntmps35
  go_wp2_with fail
  go_loopw [2, 9] (fun vv kk wr => ∃ (t : Nat) (u : Value), kk = .int .i64 t ∧ t ≤ n ∧ vv = .int .i64 (dv b v t) ∧ Own wr w.heap.size u (digL b v t) ∧ some w.heap.size ≠ u.ownBlock ∧ some (w.heap.size + 1) ≠ u.ownBlock ∧ wr.heap[w.heap.size]? = some (.cells #[.int .i64 0, .slice none 0 0] 50) ∧ wr.heap[w.heap.size + 1]? = some (.cells #[.int .i64 b, u] 50) ∧ Below w.heap.size w wr ∧ w.heap.size + 1 + 1 ≤ wr.heap.size) (fun _ kk _ => n - (intOf kk).toNat)
  case atStart =>
    obtain ⟨x0, x1, bw, hs, he⟩ := blk2 (Below.refl _ _)
    exact ⟨0, _, rfl, Nat.zero_le _, rfl, own_nil, by simp [Value.ownBlock], by simp [Value.ownBlock], x0, x1, bw, by omega⟩
  case round =>
    obtain ⟨t, u, rfl, ht, rfl, ho, n4, n5, h4, h5, hbw, hs⟩ := hrel
    have H4 := Lib.hid h4; have H5 := Lib.hid h5; have N4 := Lib.hid n4; have N5 := Lib.hid n5
    have HOL := Lib.hid ho; have HBW := Lib.hid hbw
    obtain ⟨V0, V1⟩ := dv_bd (b := b) hb hv t
    obtain ⟨D0, D1⟩ := dig_bd (b := b) (v := v) hb t
    have hlb : (digL b v t).length ≤ 16 := by simp [digL]; omega
    have HN := Lib.hid (show digL b v t ++ [dig b v t] = digL b v (t + 1) from (range_snoc _ _).symm)
    have HDV := Lib.hid (show dv b v (t + 1) = dv b v t / b from rfl)
    have HLL := Lib.hid (show (digL b v t).length = t from by simp [digL])
    have eT : (dv b v t).tmod b = dig b v t := Int.tmod_eq_emod_of_nonneg V0
    generalize hL : digL b v t = L at *
    have HL := Lib.hid hL; clear hL
    generalize dig b v t = D at *
    generalize hV : dv b v t = V at *
    have HV := Lib.hid hV; clear hV
    obtain ⟨a, cap, rfl, -, -⟩ := own_form ho
    have c0 := cell_blk h5 0; have c1 := cell_blk h5 1; have f1 := frozen_blk h5 1
    clear ho n4 n5
    by_cases hlt : t < n
    · have wD : IntKind.i64.wrap D = D := IntWalk.i64_in _ (by omega)
      have zb : ¬ b = 0 := by omega
      have lt5 : w.heap.size + 1 < wr.heap.size := by omega
      clear hbw h4 h5
      go_wp2_with fail
      go_region_law ((refine step_app_at (by rfl) _ _ (by rfl) _ _ (own_alloc (own_drew HOL.out) _) (by rfl) (by rfl) (by simp; rfl) (by omega) (by simp; omega) ?_; intro v' w9 ho' hg' hloc; obtain ⟨hb', hs'⟩ := app_below HBW.out.drew (own_drew HOL.out) hg' (Nat.le_refl _) (show w.heap.size ≤ wr.heap.size by omega); have X4 := Lib.hid ((hg'.block w.heap.size (by simp; omega) N4.out).trans ((Below.heap_alloc wr.drew _ _ (show w.heap.size < wr.heap.size by omega)).trans H4.out)); have x5 := (hg'.block (w.heap.size + 1) (by simp; omega) N5.out).trans ((Below.heap_alloc wr.drew _ _ (show w.heap.size + 1 < wr.heap.size by omega)).trans H5.out); have hs9 := hg'.size; have M4 := Lib.hid (loc_ne hloc N4.out (by simp; omega)); have M5 := Lib.hid (loc_ne hloc N5.out (by simp; omega)); obtain ⟨av, cv, rfl, -, -⟩ := own_form ho'; have c0 := cell_blk x5 0; have c1 := cell_blk x5 1; have f1 := frozen_blk x5 1; have X5 := Lib.hid x5; have O9 := Lib.hid ho'; have B9 := Lib.hid hb'; clear ho' hb' hg' hloc x5))
      all_goals (
      clear eT wD
      go_wp2_with fail
      go_roundw
      case rel => exact ⟨t + 1, _, by go_num, by omega, by first | (rw [HDV.out]; done) | (rw [HDV.out]; go_num), by rw [← HN.out]; exact own_setCell_ne O9.out M5.out, fun e => M4.out e.symm, fun e => M5.out e.symm, by rw [Below.heap_setCell _ _ _ _ (by first | (simp; done) | (simp; omega))]; exact X4.out, by simpa using setCell_blk X5.out _, B9.out.setCell (by first | (simp; done) | (simp; omega)) _, by simp at *; omega⟩
      case measure => first | (simp [intOf]; done) | (simp [intOf]; omega))
    · obtain rfl : t = n := by omega
      have d0 := cell_blk h4 0; have d1 := cell_blk h4 1; have g0 := frozen_blk h4 0; have g1 := frozen_blk h4 1
      clear h4 h5 hbw
      go_wp2_with fail
      refine bodyPost_ret (v := .tuple #[.agg #[.int .i64 b, .slice a L.length cap], .int .i64 V]) (by simp [results, Try.results35, go_sem, *]) rfl ?_
      exact ⟨_, by rw [HV.out], by rw [HL.out]; exact own_setCell_ne (own_setCell_ne HOL.out (fun e => N4.out e.symm)) (fun e => N4.out e.symm), (HBW.out.setCell (by simp) _).setCell (by simp) _⟩
theorem cyL_bd {b : Int} {xs ys : List Int} {n : Nat} (hb : 2 ≤ b) (hx : ∀ k, k < n → 0 ≤ nth xs k ∧ nth xs k < b) (hy : ∀ k, k < n → 0 ≤ nth ys k ∧ nth ys k < b) : ∀ k, k ≤ n → 0 ≤ cyL b xs ys k ∧ cyL b xs ys k ≤ 1 := by
  intro k
  induction k with
  | zero => intro _; exact ⟨by show (0 : Int) ≤ 0; omega, by show (0 : Int) ≤ 1; omega⟩
  | succ k ih =>
    intro h
    have a := hx k (by omega); have c := hy k (by omega); have i := ih (by omega)
    exact carry_bd hb a.1 a.2 c.1 c.2 i.1 i.2
set_option maxHeartbeats 4000000 in
theorem spec_l02Carries {B1 B2 ga gb : Nat} {u v : Value} {xs ys : List Int} {n : Nat} (b b2 : Int) (w : World) (h1 : Own w B1 u xs) (h2 : Own w B2 v ys) (l1 : xs.length = n) (l2 : ys.length = n) (hn : n ≤ 1048576) (hb : 2 ≤ b) (hb2 : b ≤ 16)
    (ca0 : w.cell? ⟨ga, 0, none⟩ = some (.int .i64 b)) (ca1 : w.cell? ⟨ga, 1, none⟩ = some u) (cb1 : w.cell? ⟨gb, 1, none⟩ = some v)
    (hx : ∀ k, k < n → 0 ≤ nth xs k ∧ nth xs k < b) (hy : ∀ k, k < n → 0 ≤ nth ys k ∧ nth ys k < b) :
    Calls Try.prog 36 #[.pointer (some ⟨ga, 0, none⟩), .pointer (some ⟨gb, 0, none⟩)] w (RetOwn w (cyN b xs ys (n + 1))) := by
  have HCY := Lib.hid (cyL_bd hb hx hy)
  have HX := Lib.hid hx; have HY := Lib.hid hy; clear hx hy
  obtain ⟨a1, p1, rfl, m1, q1⟩ := own_form h1
  obtain ⟨a2, p2, rfl, m2, q2⟩ := own_form h2
  have Q1 := Lib.hid q1; have Q2 := Lib.hid q2; clear q1 q2 h1 h2
  have CA0 := Lib.hid ca0; have CA1 := Lib.hid ca1; have CB1 := Lib.hid cb1
  have gla : ga < w.heap.size := World.block_lt_of_cell? w _ ca0
  have glb : gb < w.heap.size := World.block_lt_of_cell? w _ cb1
  rw [l1] at CA1; rw [l2] at CB1
  rw [l1] at Q1; rw [l2] at Q2
  clear ca0 ca1 cb1 l1 l2
  go_enter Try.func36, Try.ntmps36
  go_wp2_with fail
  go_loopw [5, 6, 7] (fun vv cc kk wr => ∃ (t : Nat) (z : Value), kk = .int .i64 t ∧ t ≤ n ∧ vv = z ∧ cc = .int .i64 (cyL b xs ys t) ∧ Own wr w.heap.size z (cyN b xs ys (t + 1)) ∧ Below w.heap.size w wr ∧ w.heap.size ≤ wr.heap.size) (fun _ _ kk _ => n - (intOf kk).toNat)
  case atStart => exact ⟨0, _, rfl, Nat.zero_le _, rfl, rfl, own_lit1 w 0, (Below.refl _ _).alloc (Nat.le_refl _) _, by simp⟩
  case round =>
    obtain ⟨t, z, rfl, ht, rfl, rfl, ho, hbw, hs⟩ := hrel
    have k0 := (hbw.cell gla).trans CA0.out
    have k1 := (hbw.cell gla).trans CA1.out
    have k2 := (hbw.cell glb).trans CB1.out
    have HOL := Lib.hid ho; have HBW := Lib.hid hbw
    obtain ⟨C0, C1⟩ := HCY.out t ht
    have gla2 : ga < wr.heap.size := by omega
    have glb2 : gb < wr.heap.size := by omega
    by_cases hlt : t < n
    · obtain ⟨g1, rfl, r1⟩ := Q1.out t hlt
      obtain ⟨g2, rfl, r2⟩ := Q2.out t hlt
      have gl1 : g1 < w.heap.size := World.block_lt_of_cell? w _ r1
      have gl2 : g2 < w.heap.size := World.block_lt_of_cell? w _ r2
      have s1 := (hbw.cell gl1).trans r1
      have s2 := (hbw.cell gl2).trans r2
      obtain ⟨X0, X1⟩ := HX.out t hlt
      obtain ⟨Y0, Y1⟩ := HY.out t hlt
      have hlb : (cyN b xs ys (t + 1)).length ≤ 1048577 := by simp [cyN]; omega
      have HN := Lib.hid (show cyN b xs ys (t + 1) ++ [cyL b xs ys (t + 1)] = cyN b xs ys (t + 1 + 1) from (range_snoc _ _).symm)
      have hC : cyL b xs ys (t + 1) = (nth xs t + nth ys t + cyL b xs ys t) / b := rfl
      have hCb := HCY.out (t + 1) (by omega)
      generalize cyN b xs ys (t + 1) = L at *
      generalize hCC : cyL b xs ys (t + 1) = C' at *
      have HCC := Lib.hid hCC; clear hCC
      generalize cyL b xs ys t = C at *
      generalize nth xs t = X at *
      generalize nth ys t = Y at *
      have zb : ¬ b = 0 := by omega
      have tq : (X + Y + C).tdiv b = C' := by rw [hC]; exact Int.tdiv_eq_ediv_of_nonneg (by omega)
      have w1 : IntKind.i64.wrap (X + Y) = X + Y := IntWalk.i64_in _ (by omega)
      have w2 : IntKind.i64.wrap (X + Y + C) = X + Y + C := IntWalk.i64_in _ (by omega)
      have w3 : IntKind.i64.wrap C' = C' := IntWalk.i64_in _ (by omega)
      have i0 : (0 : Int) ≤ (t : Int) := by omega
      have i1 : (t : Int) < (n : Int) := by omega
      obtain ⟨az, cz, rfl, -, -⟩ := own_form ho
      clear hC r1 r2 hbw ho
      go_wp2_with fail
      go_quiet (fail)
      clear i0 i1 tq w1 w2 w3
      go_wp2_with (at_builtin; go_loud (refine wp_app rfl _ _ rfl _ _ (own_alloc (own_drewN HOL.out _) _) rfl rfl (by first | (simp; rfl) | exact cell_blk (heap_last _ _) 0) (by omega) (by first | (simp; done) | (simp; omega) | (show w.heap.size ≤ _ + 1; omega)) ?_; intro v' w9 ho' hg'; obtain ⟨hb', hs'⟩ := app_below (HBW.out.trans (drewN_below _ _ _)) (own_drewN HOL.out _) hg' (Nat.le_refl _) hs; have O9 := Lib.hid ho'; have B9 := Lib.hid hb'; have s9 := hs'; clear ho' hb' hg'))
      go_wp2_with fail
      go_roundw
      case rel => exact ⟨t + 1, _, by go_num, by omega, rfl, by rw [HCC.out], by rw [← HN.out]; exact O9.out, B9.out, s9⟩
      case measure => first | (simp [intOf]; done) | (simp [intOf]; omega)
    · obtain rfl : t = n := by omega
      clear ho hbw
      go_wp2_with fail
      go_ret
      exact ⟨_, rfl, HOL.out, HBW.out⟩
end Go.Proofs.Ytknpjibdnjpamaa
