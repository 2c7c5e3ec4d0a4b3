/- TableFault of both packages: the comparison with the right table. -/
import Derived.IntWalk
import Derived.Deep.QuietTactic
import Derived.BigQuiet
import Derived.Deep.RegionWith
import Derived.Test.YtkhjmokjbiepgaaAdt2
namespace Go.Proofs.Ytkhjmokjbiepgaa
open Go.ChangeShapes Go.WideShapes Go.ChangeAt Go.RowKit
def rowOk (b : Int) (xs ys : List Int) (j : Nat) : Bool := decide (nth xs (j * 5) = nth ys (j * 5)) && (decide (nth xs (j * 5 + 1) = nth ys (j * 5 + 1)) && (decide (nth xs (j * 5 + 2) = nth ys (j * 5 + 2)) && (inB (nth xs (j * 5 + 3)) 0 (b - 1) && inB (nth xs (j * 5 + 4)) 0 1)))
def rowsOk (b : Int) (xs ys : List Int) : Nat → Bool
  | 0 => true
  | j + 1 => rowsOk b xs ys j && rowOk b xs ys j
def rowEq (xs ys : List Int) (j : Nat) : Bool := decide (nth xs (j * 5) = nth ys (j * 5)) && (decide (nth xs (j * 5 + 1) = nth ys (j * 5 + 1)) && (decide (nth xs (j * 5 + 2) = nth ys (j * 5 + 2)) && (decide (nth xs (j * 5 + 3) = nth ys (j * 5 + 3)) && decide (nth xs (j * 5 + 4) = nth ys (j * 5 + 4)))))
def wrF (xs ys : List Int) : Nat → Nat → Int
  | 0, _ => -1
  | f + 1, i => if rowEq xs ys i then wrF xs ys f (i + 1) else i
def formB (b : Nat) (xs : List Int) : Bool := decide (xs.length / 5 = 2 * b * b) && rowsOk b xs (rtL b (2 * b * b)) (2 * b * b)
def tfC (b : Int) (xs : List Int) : Int := if inB b 2 16 then (if formB b.toNat xs then 0 else 8) else 2
def tfV (b : Int) (xs : List Int) : Int := if tfC b xs = 0 then wrF xs (rtL b.toNat (2 * b.toNat * b.toNat)) (2 * b.toNat * b.toNat) 0 else 0
theorem rowsOk_false {b : Int} {xs ys : List Int} {j : Nat} (h : rowOk b xs ys j = false) : ∀ n, j < n → rowsOk b xs ys n = false := by
  intro n
  induction n with
  | zero => intro h; omega
  | succ n ih =>
    intro hn
    show (rowsOk b xs ys n && rowOk b xs ys n) = false
    by_cases e : j < n
    · rw [ih e]; rfl
    · obtain rfl : j = n := by omega
      rw [h]; simp
theorem rowsOk_step {b : Int} {xs ys : List Int} {j : Nat} (h1 : rowsOk b xs ys j = true) (h2 : rowOk b xs ys j = true) : rowsOk b xs ys (j + 1) = true := by
  show (rowsOk b xs ys j && rowOk b xs ys j) = true
  rw [h1, h2]; rfl
theorem wrF_hit {xs ys : List Int} {n i : Nat} (hi : i < n) (h : rowEq xs ys i = false) : wrF xs ys (n - i) i = i := by
  rw [show n - i = (n - (i + 1)) + 1 by omega]; simp [wrF, h]
theorem wrF_go {xs ys : List Int} {n i : Nat} (hi : i < n) (h : rowEq xs ys i = true) : wrF xs ys (n - i) i = wrF xs ys (n - (i + 1)) (i + 1) := by
  rw [show n - i = (n - (i + 1)) + 1 by omega]; simp [wrF, h]
theorem drewN_b (B : Nat) (w : World) (n : Nat) : Below B w (w.drewN n) := ⟨rfl, rfl, rfl, Nat.le_refl _, fun _ _ => rfl⟩
theorem two_bb {b : Nat} (hb : b ≤ 16) : 2 * b * b ≤ 512 := by
  have := Nat.mul_le_mul (show 2 * b ≤ 32 by omega) hb
  omega
/-- the five numbers of each row, in a world -/
def Rows5 (w : World) (a : Option Addr) (n : Nat) (zs : List Int) : Prop := ∀ j, j < n → ∃ g, a = some ⟨g, 0, none⟩ ∧ g < w.heap.size ∧ w.cell? ⟨g, j * 5, none⟩ = some (.int .i64 (nth zs (j * 5))) ∧ w.cell? ⟨g, j * 5 + 1, none⟩ = some (.int .i64 (nth zs (j * 5 + 1))) ∧ w.cell? ⟨g, j * 5 + 2, none⟩ = some (.int .i64 (nth zs (j * 5 + 2))) ∧ w.cell? ⟨g, j * 5 + 3, none⟩ = some (.int .i64 (nth zs (j * 5 + 3))) ∧ w.cell? ⟨g, j * 5 + 4, none⟩ = some (.int .i64 (nth zs (j * 5 + 4)))
theorem rows5_of {w : World} {B n : Nat} {v : Value} {zs : List Int} (h : OwnR w B v n zs) : ∃ a cap, v = .slice a n cap ∧ n ≤ 9223372036854775807 ∧ Rows5 w a n zs := by
  obtain ⟨a, cap, rfl, hn, q⟩ := recr_form h
  refine ⟨a, cap, rfl, hn, fun j hj => ?_⟩
  obtain ⟨g, e, x0, x1, x2, x3, x4⟩ := q j hj
  exact ⟨g, e, World.block_lt_of_cell? w _ x0, x0, x1, x2, x3, x4⟩
theorem rows5_below {w w' : World} {B n : Nat} {a : Option Addr} {zs : List Int} (h : Rows5 w a n zs) (hb : Below B w w') (hB : w.heap.size ≤ B) (hs : w.heap.size ≤ w'.heap.size) : Rows5 w' a n zs := fun j hj => by
  obtain ⟨g, e, gl, x0, x1, x2, x3, x4⟩ := h j hj
  have gB : g < B := by omega
  exact ⟨g, e, by omega, (hb.cell gB).trans x0, (hb.cell gB).trans x1, (hb.cell gB).trans x2, (hb.cell gB).trans x3, (hb.cell gB).trans x4⟩
set_option maxHeartbeats 8000000 in
theorem impl_wrongRow {B n : Nat} {u : Value} {xs : List Int} (b : Nat) (w : World) (h1 : OwnR w B u n xs) (hN : n = 2 * b * b) (hb : 2 ≤ b) (hb2 : b ≤ 16) :
    Calls Try.prog 48 #[.int .i64 b, u] w (RetV w (.int .i64 (wrF xs (rtL b n) n 0))) := by
  have hN5 := two_bb hb2
  rw [← hN] at hN5
  obtain ⟨a1, c1, rfl, m1, q1⟩ := rows5_of h1
  have Q1 := Lib.hid q1; clear q1 h1
  have T := Lib.hid (fun wx => impl_rightTable b wx hb hb2)
  rw [← hN] at T
  clear hN
  generalize rtL b n = ys at *
  go_enter Try.func48, Try.ntmps48
  go_wp2_with fail
  refine (T.out _).mono ?_; rintro e w1 ⟨v1, rfl, o1, b1⟩
  have s1 := b1.size
  have BW := Lib.hid b1
  have QX := Lib.hid (rows5_below Q1.out b1 (Nat.le_refl _) s1)
  obtain ⟨a2, c2, rfl, m2, q2⟩ := rows5_of o1
  have QY := Lib.hid q2
  clear o1 b1 q2 Q1 T
  generalize hW : wrF xs ys n 0 = W at *
  have HW0 := Lib.hid hW; clear hW
  go_wp2_with fail
  go_loopw [5, 6, 10] (fun _ _ ii wr => ∃ j : Nat, j ≤ n ∧ ii = .int .i64 j ∧ Hid (wrF xs ys (n - j) j = W) ∧ Below w1.heap.size w1 wr ∧ w1.heap.size ≤ wr.heap.size) (fun _ _ ii _ => n - (intOf ii).toNat)
  case atStart => exact ⟨0, Nat.zero_le _, rfl, Lib.hid HW0.out, Below.refl _ _, Nat.le_refl _⟩
  case round =>
    obtain ⟨j, hj, rfl, hw, hbw, hs⟩ := hrel
    have HBW := Lib.hid hbw
    by_cases hlt : j < n
    · obtain ⟨gx, rfl, lx, px0, px1, px2, px3, px4⟩ := rows5_below QX.out hbw (Nat.le_refl _) hs j hlt
      obtain ⟨gy, ey, ly, py0, py1, py2, py3, py4⟩ := rows5_below QY.out hbw (Nat.le_refl _) hs j hlt
      obtain rfl := ey
      have hr : rowEq xs ys j = (decide (nth xs (j * 5) = nth ys (j * 5)) && (decide (nth xs (j * 5 + 1) = nth ys (j * 5 + 1)) && (decide (nth xs (j * 5 + 2) = nth ys (j * 5 + 2)) && (decide (nth xs (j * 5 + 3) = nth ys (j * 5 + 3)) && decide (nth xs (j * 5 + 4) = nth ys (j * 5 + 4)))))) := rfl
      have HHIT := Lib.hid (fun h2 => (hw.out.symm.trans (wrF_hit (xs := xs) (ys := ys) hlt h2) : W = j))
      have HGO := Lib.hid (fun h2 => ((wrF_go (xs := xs) (ys := ys) hlt h2).symm.trans hw.out : wrF xs ys (n - (j + 1)) (j + 1) = W))
      generalize nth xs (j * 5) = x0 at *
      generalize nth ys (j * 5) = y0 at *
      generalize nth xs (j * 5 + 1) = x1 at *
      generalize nth ys (j * 5 + 1) = y1 at *
      generalize nth xs (j * 5 + 2) = x2 at *
      generalize nth ys (j * 5 + 2) = y2 at *
      generalize nth xs (j * 5 + 3) = x3 at *
      generalize nth ys (j * 5 + 3) = y3 at *
      generalize nth xs (j * 5 + 4) = x4 at *
      generalize nth ys (j * 5 + 4) = y4 at *
      have i0 : (0 : Int) ≤ (j : Int) := by omega
      have i1 : (j : Int) < (n : Int) := by omega
      have HRW := Lib.hid hr
      clear hr hbw hw
      by_cases e0 : x0 = y0
      · subst e0
        by_cases e1 : x1 = y1
        · subst e1
          by_cases e2 : x2 = y2
          · subst e2
            by_cases e3 : x3 = y3
            · subst e3
              by_cases e4 : x4 = y4
              · subst e4
                have HN := Lib.hid (HGO.out (by rw [HRW.out]; simp))
                go_wp2_with fail
                go_quiet (fail)
                clear i0 i1
                go_wp2_with fail
                go_roundw
                case rel => exact ⟨j + 1, by omega, by go_num, HN.out, (HBW.out.alloc hs _).trans (drewN_b _ _ _), by first | (simp; omega) | exact hs | (show w1.heap.size ≤ _ + 1; omega)⟩
                case measure => first | (simp [intOf]; done) | (simp [intOf]; omega)
              · have E4 : (x4 == y4) = false := by simpa using e4
                have HR := Lib.hid (HHIT.out (by rw [HRW.out]; simp [e4]))
                go_wp2_with fail
                go_quiet (fail)
                clear i0 i1
                go_wp2_with fail
                go_ret
                exact ⟨ret_int HR.out.symm, Below.trans_size BW.out ((HBW.out.alloc hs _).trans (drewN_b _ _ _))⟩
            · have E3 : (x3 == y3) = false := by simpa using e3
              have HR := Lib.hid (HHIT.out (by rw [HRW.out]; simp [e3]))
              go_wp2_with fail
              go_quiet (fail)
              clear i0 i1
              go_wp2_with fail
              go_ret
              exact ⟨ret_int HR.out.symm, Below.trans_size BW.out ((HBW.out.alloc hs _).trans (drewN_b _ _ _))⟩
          · have E2 : (x2 == y2) = false := by simpa using e2
            have HR := Lib.hid (HHIT.out (by rw [HRW.out]; simp [e2]))
            go_wp2_with fail
            go_quiet (fail)
            clear i0 i1
            go_wp2_with fail
            go_ret
            exact ⟨ret_int HR.out.symm, Below.trans_size BW.out ((HBW.out.alloc hs _).trans (drewN_b _ _ _))⟩
        · have E1 : (x1 == y1) = false := by simpa using e1
          have HR := Lib.hid (HHIT.out (by rw [HRW.out]; simp [e1]))
          go_wp2_with fail
          go_quiet (fail)
          clear i0 i1
          go_wp2_with fail
          go_ret
          exact ⟨ret_int HR.out.symm, Below.trans_size BW.out ((HBW.out.alloc hs _).trans (drewN_b _ _ _))⟩
      · have E0 : (x0 == y0) = false := by simpa using e0
        have HR := Lib.hid (HHIT.out (by rw [HRW.out]; simp [e0]))
        go_wp2_with fail
        go_quiet (fail)
        clear i0 i1
        go_wp2_with fail
        go_ret
        exact ⟨ret_int HR.out.symm, Below.trans_size BW.out ((HBW.out.alloc hs _).trans (drewN_b _ _ _))⟩
    · obtain rfl : j = n := by omega
      have HR := Lib.hid (show W = -1 from by rw [← hw.out, Nat.sub_self]; rfl)
      clear hbw hw
      go_wp2_with fail
      go_ret
      exact ⟨by first | exact ret_int HR.out.symm | rw [HR.out], Below.trans_size BW.out HBW.out⟩
set_option maxHeartbeats 8000000 in
theorem spec_l08Wrong {B n : Nat} {u : Value} {xs : List Int} (b : Nat) (w : World) (h1 : OwnR w B u n xs) (hN : n = 2 * b * b) (hb : 2 ≤ b) (hb2 : b ≤ 16) :
    Calls Try.prog 45 #[.int .i64 b, u] w (RetV w (.int .i64 (wrF xs (rtL b n) n 0))) := by
  have hN5 := two_bb hb2
  rw [← hN] at hN5
  obtain ⟨a1, c1, rfl, m1, q1⟩ := rows5_of h1
  have Q1 := Lib.hid q1; clear q1 h1
  have T := Lib.hid (fun wx => spec_l08Table b wx hb hb2)
  rw [← hN] at T
  clear hN
  generalize rtL b n = ys at *
  go_enter Try.func45, Try.ntmps45
  go_wp2_with fail
  refine (T.out _).mono ?_; rintro e w1 ⟨v1, rfl, o1, b1⟩
  have s1 := b1.size
  have BW := Lib.hid b1
  have QX := Lib.hid (rows5_below Q1.out b1 (Nat.le_refl _) s1)
  obtain ⟨a2, c2, rfl, m2, q2⟩ := rows5_of o1
  have QY := Lib.hid q2
  clear o1 b1 q2 Q1 T
  generalize hW : wrF xs ys n 0 = W at *
  have HW0 := Lib.hid hW; clear hW
  go_wp2_with fail
  go_loopw [6] (fun ii wr => ∃ j : Nat, j ≤ n ∧ ii = .int .i64 j ∧ Hid (wrF xs ys (n - j) j = W) ∧ Below w1.heap.size w1 wr ∧ w1.heap.size ≤ wr.heap.size) (fun ii _ => n - (intOf ii).toNat)
  case atStart => exact ⟨0, Nat.zero_le _, rfl, Lib.hid HW0.out, Below.refl _ _, Nat.le_refl _⟩
  case round =>
    obtain ⟨j, hj, rfl, hw, hbw, hs⟩ := hrel
    have HBW := Lib.hid hbw
    by_cases hlt : j < n
    · obtain ⟨gx, rfl, lx, px0, px1, px2, px3, px4⟩ := rows5_below QX.out hbw (Nat.le_refl _) hs j hlt
      obtain ⟨gy, ey, ly, py0, py1, py2, py3, py4⟩ := rows5_below QY.out hbw (Nat.le_refl _) hs j hlt
      obtain rfl := ey
      have hr : rowEq xs ys j = (decide (nth xs (j * 5) = nth ys (j * 5)) && (decide (nth xs (j * 5 + 1) = nth ys (j * 5 + 1)) && (decide (nth xs (j * 5 + 2) = nth ys (j * 5 + 2)) && (decide (nth xs (j * 5 + 3) = nth ys (j * 5 + 3)) && decide (nth xs (j * 5 + 4) = nth ys (j * 5 + 4)))))) := rfl
      have HHIT := Lib.hid (fun h2 => (hw.out.symm.trans (wrF_hit (xs := xs) (ys := ys) hlt h2) : W = j))
      have HGO := Lib.hid (fun h2 => ((wrF_go (xs := xs) (ys := ys) hlt h2).symm.trans hw.out : wrF xs ys (n - (j + 1)) (j + 1) = W))
      generalize nth xs (j * 5) = x0 at *
      generalize nth ys (j * 5) = y0 at *
      generalize nth xs (j * 5 + 1) = x1 at *
      generalize nth ys (j * 5 + 1) = y1 at *
      generalize nth xs (j * 5 + 2) = x2 at *
      generalize nth ys (j * 5 + 2) = y2 at *
      generalize nth xs (j * 5 + 3) = x3 at *
      generalize nth ys (j * 5 + 3) = y3 at *
      generalize nth xs (j * 5 + 4) = x4 at *
      generalize nth ys (j * 5 + 4) = y4 at *
      have i0 : (0 : Int) ≤ (j : Int) := by omega
      have i1 : (j : Int) < (n : Int) := by omega
      have HRW := Lib.hid hr
      clear hr hbw hw
      by_cases e0 : x0 = y0
      · subst e0
        by_cases e1 : x1 = y1
        · subst e1
          by_cases e2 : x2 = y2
          · subst e2
            by_cases e3 : x3 = y3
            · subst e3
              by_cases e4 : x4 = y4
              · subst e4
                have HN := Lib.hid (HGO.out (by rw [HRW.out]; simp))
                go_wp2_with fail
                go_quiet (fail)
                clear i0 i1
                go_wp2_with fail
                go_roundw
                case rel => exact ⟨j + 1, by omega, by go_num, HN.out, HBW.out.trans (drewN_b _ _ _), by first | (simp; omega) | exact hs | (show w1.heap.size ≤ _ + 1; omega)⟩
                case measure => first | (simp [intOf]; done) | (simp [intOf]; omega)
              · have E4 : (x4 == y4) = false := by simpa using e4
                have HR := Lib.hid (HHIT.out (by rw [HRW.out]; simp [e4]))
                go_wp2_with fail
                go_quiet (fail)
                clear i0 i1
                go_wp2_with fail
                go_ret
                exact ⟨ret_int HR.out.symm, Below.trans_size BW.out (HBW.out.trans (drewN_b _ _ _))⟩
            · have E3 : (x3 == y3) = false := by simpa using e3
              have HR := Lib.hid (HHIT.out (by rw [HRW.out]; simp [e3]))
              go_wp2_with fail
              go_quiet (fail)
              clear i0 i1
              go_wp2_with fail
              go_ret
              exact ⟨ret_int HR.out.symm, Below.trans_size BW.out (HBW.out.trans (drewN_b _ _ _))⟩
          · have E2 : (x2 == y2) = false := by simpa using e2
            have HR := Lib.hid (HHIT.out (by rw [HRW.out]; simp [e2]))
            go_wp2_with fail
            go_quiet (fail)
            clear i0 i1
            go_wp2_with fail
            go_ret
            exact ⟨ret_int HR.out.symm, Below.trans_size BW.out (HBW.out.trans (drewN_b _ _ _))⟩
        · have E1 : (x1 == y1) = false := by simpa using e1
          have HR := Lib.hid (HHIT.out (by rw [HRW.out]; simp [e1]))
          go_wp2_with fail
          go_quiet (fail)
          clear i0 i1
          go_wp2_with fail
          go_ret
          exact ⟨ret_int HR.out.symm, Below.trans_size BW.out (HBW.out.trans (drewN_b _ _ _))⟩
      · have E0 : (x0 == y0) = false := by simpa using e0
        have HR := Lib.hid (HHIT.out (by rw [HRW.out]; simp [e0]))
        go_wp2_with fail
        go_quiet (fail)
        clear i0 i1
        go_wp2_with fail
        go_ret
        exact ⟨ret_int HR.out.symm, Below.trans_size BW.out (HBW.out.trans (drewN_b _ _ _))⟩
    · obtain rfl : j = n := by omega
      have HR := Lib.hid (show W = -1 from by rw [← hw.out, Nat.sub_self]; rfl)
      clear hbw hw
      go_wp2_with fail
      go_ret
      exact ⟨by first | exact ret_int HR.out.symm | rw [HR.out], Below.trans_size BW.out HBW.out⟩
end Go.Proofs.Ytkhjmokjbiepgaa
