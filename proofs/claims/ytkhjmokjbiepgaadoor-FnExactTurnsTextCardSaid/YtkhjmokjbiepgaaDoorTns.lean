/- Turns: their factor, whether they are valid, how many they are: both packages return the same plain functions. -/
import Derived.IntWalk
import Derived.Test.YtkhjmokjbiepgaaDoorAgg
namespace Go.Proofs.YtkhjmokjbiepgaaDoor
open Go.ChangeShapes Go.WideShapes Go.ChangeAt Go.RowKit
def fac (b : Int) (l : List Int) : Nat → Int
  | 0 => 0
  | j + 1 => fac b l j * b + nth l (l.length - (j + 1))
def okF (b : Int) (l : List Int) : Nat → Bool
  | 0 => true
  | j + 1 => okF b l j && inB (fac b l (j + 1)) (-1000000000) 1000000000
def isT (n : Int) : Bool := inB n (-16) 16
def allT (l : List Int) : Bool := l.all isT
def validT (b : Int) (l : List Int) : Bool := inB b 2 16 && (decide (l.length ≤ 40) && (allT l && ((decide (l.length = 0) || !(nth l (l.length - 1) == 0)) && okF b l l.length)))
def facR (b : Int) (l : List Int) : Int := if okF b l l.length then fac b l l.length else 0
def factR (b : Int) (l : List Int) : Int × Int := if validT b l then (fac b l l.length, 0) else (0, 1)
theorem okF_no {b : Int} {l : List Int} {i j : Nat} (h : okF b l i = false) (hij : i ≤ j) : okF b l j = false := by
  induction hij with
  | refl => exact h
  | step _ ih => unfold okF; rw [ih]; rfl
theorem okF_bd {b : Int} {l : List Int} : ∀ {j : Nat}, okF b l j = true → -1000000000 ≤ fac b l j ∧ fac b l j ≤ 1000000000
  | 0, _ => by simp [fac]
  | j + 1, h => by unfold okF at h; simp only [Bool.and_eq_true] at h; exact inB_iff.1 h.2
theorem mul16 {x b : Int} (h0 : -1000000000 ≤ x) (h1 : x ≤ 1000000000) (b0 : 2 ≤ b) (b1 : b ≤ 16) : -16000000000 ≤ x * b ∧ x * b ≤ 16000000000 := by
  obtain ⟨n, rfl⟩ := Int.eq_ofNat_of_zero_le (show 0 ≤ b by omega)
  have key : ∀ n : Nat, n ≤ 16 → -16000000000 ≤ x * n ∧ x * n ≤ 16000000000 := by
    intro n hn
    have e : n = 0 ∨ n = 1 ∨ n = 2 ∨ n = 3 ∨ n = 4 ∨ n = 5 ∨ n = 6 ∨ n = 7 ∨ n = 8 ∨ n = 9 ∨ n = 10 ∨ n = 11 ∨ n = 12 ∨ n = 13 ∨ n = 14 ∨ n = 15 ∨ n = 16 := by omega
    rcases e with rfl | rfl | rfl | rfl | rfl | rfl | rfl | rfl | rfl | rfl | rfl | rfl | rfl | rfl | rfl | rfl | rfl <;> simp <;> omega
  exact key n (by omega)
theorem below_ad (w : World) (o : Obj) (n : Nat) : Below w.heap.size w ((w.alloc o).drewN n) := ((Below.refl _ _).alloc (Nat.le_refl _) o).trans ((below_drewN (w.alloc o) n).mono (by simp))
theorem below_add (w : World) (o : Obj) (n m : Nat) : Below w.heap.size w (((w.alloc o).drewN n).drewN m) := (below_ad w o n).trans ((below_drewN ((w.alloc o).drewN n) m).mono (by show w.heap.size ≤ (w.alloc o).heap.size; simp))
theorem below_dd (w : World) (n m : Nat) : Below w.heap.size w ((w.drewN n).drewN m) := (below_drewN w n).trans (below_drewN (w.drewN n) m)
theorem ret_ib {a b : Int} {c d : Bool} (h : a = b) (h2 : c = d) : Ending.returned (.tuple #[.int .i64 a, .bool c]) = .returned (.tuple #[.int .i64 b, .bool d]) := by rw [h, h2]
theorem ret_b {c d : Bool} (h2 : c = d) : Ending.returned (.bool c) = .returned (.bool d) := by rw [h2]
/-- what a walk reads of an owned slice -/
def Reads (w : World) (a : Option Addr) (xs : List Int) : Prop := ∀ j, j < xs.length → ∃ g, a = some ⟨g, 0, none⟩ ∧ w.cell? ⟨g, j, none⟩ = some (.int .i64 (nth xs j))
set_option maxHeartbeats 2000000 in
theorem impl_TurnDigits_factor {B : Nat} {v : Value} {xs : List Int} (b : Int) (w : World) (h : Own w B v xs) (hb : 2 ≤ b) (hb2 : b ≤ 16) (hl : xs.length ≤ 40) (ha : allT xs = true) :
    Calls Tryd.prog 48 #[.agg #[.int .i64 b, v]] w (RetV w (.tuple #[.int .i64 (facR b xs), .bool (okF b xs xs.length)])) := by
  obtain ⟨a1, c1, rfl, m1, q1⟩ := own_form h
  have QQ := Lib.hid q1; have HA := Lib.hid ha; clear q1 h ha
  go_enter Tryd.func48, Tryd.ntmps48
  go_wp2_with fail
  go_loopw [4, 5] (fun s k wr => ∃ (j : Nat) (X : Int), j ≤ xs.length ∧ k = .int .i64 ((xs.length : Int) - 1 - j) ∧ s = .int .i64 X ∧ -1000000000 ≤ X ∧ X ≤ 1000000000 ∧ Hid (X = fac b xs j) ∧ Hid (okF b xs j = true) ∧ ∃ n, wr = (w.alloc (.cells #[.int .i64 b, .slice a1 xs.length c1] 33)).drewN n) (fun _ k _ => (intOf k + 1).toNat)
  case atStart => exact ⟨0, 0, by omega, by simp, rfl, by omega, by omega, rfl, rfl, 0, rfl⟩
  case round =>
    obtain ⟨j, X, hj, rfl, rfl, x0, x1, hX, hO, n, rfl⟩ := hrel
    by_cases hlt : j < xs.length
    · cases e : inB (X * b + nth xs (xs.length - (j + 1))) (-1000000000) 1000000000
      · have HE := Lib.hid e; clear e
        obtain ⟨g, rfl, qc⟩ := QQ.out (xs.length - (j + 1)) (by omega)
        have gl := World.block_lt_of_cell? w _ qc
        have t0 := inB_iff.1 (all_get HA.out (j := xs.length - (j + 1)) (by omega))
        obtain ⟨tl, th⟩ := t0
        obtain ⟨p0, p1⟩ := mul16 x0 x1 hb hb2
        have i0 : (0 : Int) ≤ (xs.length : Int) - 1 - (j : Int) := by omega
        have i1 : (xs.length : Int) - 1 - (j : Int) < (xs.length : Int) := by omega
        have i2 : ((xs.length : Int) - 1 - (j : Int)).toNat = xs.length - (j + 1) := by omega
        have HN := Lib.hid (show X * b + nth xs (xs.length - (j + 1)) = fac b xs (j + 1) from by rw [hX.out]; rfl)
        have v1 : IntKind.i64.wrap (X * b) = X * b := IntWalk.i64_in _ (by omega)
        have v2 : IntKind.i64.wrap (X * b + nth xs (xs.length - (j + 1))) = X * b + nth xs (xs.length - (j + 1)) := IntWalk.i64_in _ (by omega)
        have HF := Lib.hid (show okF b xs xs.length = false from okF_no (show okF b xs (j + 1) = false by unfold okF; rw [← HN.out, HE.out, Bool.and_false]) (by omega))
        go_wp2_with fail
        go_quiet (fail)
        clear v1 v2 i0 i1 i2
        go_wp2_with fail
        refine (impl_between _ _ _ _).mono ?_; rintro e w' ⟨rfl, rfl⟩; rw [HE.out]
        go_wp2_with fail
        go_ret2
        exact ⟨ret_ib (by unfold facR; rw [HF.out]; rfl) (by rw [HF.out]), by first | exact below_ad _ _ _ | exact below_add _ _ _ _⟩
      · have HE := Lib.hid e; have eb := inB_iff.1 e; clear e
        obtain ⟨eb0, eb1⟩ := eb
        obtain ⟨g, rfl, qc⟩ := QQ.out (xs.length - (j + 1)) (by omega)
        have gl := World.block_lt_of_cell? w _ qc
        have t0 := inB_iff.1 (all_get HA.out (j := xs.length - (j + 1)) (by omega))
        obtain ⟨tl, th⟩ := t0
        obtain ⟨p0, p1⟩ := mul16 x0 x1 hb hb2
        have i0 : (0 : Int) ≤ (xs.length : Int) - 1 - (j : Int) := by omega
        have i1 : (xs.length : Int) - 1 - (j : Int) < (xs.length : Int) := by omega
        have i2 : ((xs.length : Int) - 1 - (j : Int)).toNat = xs.length - (j + 1) := by omega
        have HN := Lib.hid (show X * b + nth xs (xs.length - (j + 1)) = fac b xs (j + 1) from by rw [hX.out]; rfl)
        have v1 : IntKind.i64.wrap (X * b) = X * b := IntWalk.i64_in _ (by omega)
        have v2 : IntKind.i64.wrap (X * b + nth xs (xs.length - (j + 1))) = X * b + nth xs (xs.length - (j + 1)) := IntWalk.i64_in _ (by omega)
        have HF := Lib.hid (show okF b xs (j + 1) = true from by unfold okF; rw [← HN.out, HE.out, hO.out]; rfl)
        go_wp2_with fail
        go_quiet (fail)
        clear v1 v2 i0 i1 i2
        go_wp2_with fail
        refine (impl_between _ _ _ _).mono ?_; rintro e w' ⟨rfl, rfl⟩; rw [HE.out]
        go_wp2_with fail
        go_roundw
        case rel => exact ⟨j + 1, X * b + nth xs (xs.length - (j + 1)), by omega, by go_num, rfl, eb0, eb1, HN.out, HF.out, by first | exact ⟨_, rfl⟩ | skip⟩
        case measure => first | (simp [intOf]; done) | (simp [intOf]; omega)
    · obtain rfl : j = xs.length := by omega
      have HF := hO
      go_wp2_with fail
      go_ret2
      exact ⟨ret_ib (by unfold facR; rw [HF.out]; exact hX.out) HF.out.symm, by first | exact below_ad _ _ _ | exact below_add _ _ _ _⟩
set_option maxHeartbeats 2000000 in
theorem impl_ValidTurns {B : Nat} {v : Value} {xs : List Int} (b : Int) (w : World) (h : Own w B v xs) (hlen : xs.length ≤ 1048576) :
    Calls Tryd.prog 35 #[.agg #[.int .i64 b, v]] w (RetV w (.bool (validT b xs))) := by
  have HO := Lib.hid h
  obtain ⟨a1, c1, rfl, m1, q1⟩ := own_form h
  have QQ := Lib.hid q1; clear q1 h
  cases hb : inB b 2 16
  · have hbb := Lib.hid hb
    have HR := Lib.hid (show validT b xs = false from by simp [validT, hb])
    clear hb
    go_enter Tryd.func35, Tryd.ntmps35
    go_wp2_with fail
    refine (impl_isBase _ _).mono ?_; rintro e w' ⟨rfl, rfl⟩; rw [hbb.out]
    go_wp2_with fail
    go_ret
    exact ⟨ret_b HR.out.symm, (Below.refl _ _).alloc (Nat.le_refl _) _⟩
  have hbb := Lib.hid hb
  obtain ⟨b0, b1⟩ := inB_iff.1 hb
  by_cases h40 : xs.length ≤ 40
  rotate_left
  · have HR := Lib.hid (show validT b xs = false from by simp [validT, h40])
    clear hb
    go_enter Tryd.func35, Tryd.ntmps35
    go_wp2_with fail
    refine (impl_isBase _ _).mono ?_; rintro e w' ⟨rfl, rfl⟩; rw [hbb.out]
    go_wp2_with fail
    go_ret
    exact ⟨ret_b HR.out.symm, (Below.refl _ _).alloc (Nat.le_refl _) _⟩
  have HR := Lib.hid (show validT b xs = (allT xs && ((decide (xs.length = 0) || !(nth xs (xs.length - 1) == 0)) && okF b xs xs.length)) from by simp [validT, hb, h40])
  clear hb
  go_enter Tryd.func35, Tryd.ntmps35
  go_wp2_with fail
  refine (impl_isBase _ _).mono ?_; rintro e w' ⟨rfl, rfl⟩; rw [hbb.out]
  go_wp2_with fail
  go_loop [4, 21] (fun _ i => ∃ j : Nat, j ≤ xs.length ∧ i = .int .i64 j ∧ Hid ((xs.take j).all isT = true)) (fun _ i => (100 - intOf i).toNat)
  case atStart => exact ⟨0, Nat.zero_le _, rfl, rfl⟩
  case round =>
    obtain ⟨j, hj, rfl, hall⟩ := hrel
    by_cases hlt : j < xs.length
    · obtain ⟨g, rfl, q⟩ := QQ.out j hlt
      have gl := World.block_lt_of_cell? w _ q
      cases hp : inB (nth xs j) (-16) 16
      · have HF := Lib.hid (show allT xs = false from all_fail (p := isT) hlt hp)
        have HP := Lib.hid hp; clear hp
        go_wp2_with fail
        refine (impl_between _ _ _ _).mono ?_; rintro e w' ⟨rfl, rfl⟩; rw [HP.out]
        go_wp2_with fail
        go_ret
        exact ⟨ret_b (by rw [HR.out, HF.out]; rfl), (Below.refl _ _).alloc (Nat.le_refl _) _⟩
      · have HF := Lib.hid (all_step (p := isT) hlt hall.out hp)
        have HP := Lib.hid hp; clear hp
        go_wp2_with fail
        refine (impl_between _ _ _ _).mono ?_; rintro e w' ⟨rfl, rfl⟩; rw [HP.out]
        go_wp2_with fail
        go_round
        case rel => exact ⟨j + 1, by omega, by go_num, HF.out⟩
        case measure => first | (simp [intOf]; done) | (simp [intOf]; omega)
    · have HA := Lib.hid (show allT xs = true from all_done (p := isT) hlt hall.out)
      clear hall
      have hjx : j = xs.length := by omega
      subst hjx
      by_cases h0 : xs.length = 0
      · have HF := Lib.hid (show validT b xs = okF b xs xs.length from by rw [HR.out, HA.out]; simp [h0])
        have z : ((xs.length : Int) - 1) < 0 := by omega
        clear h0
        go_wp2_with fail
        refine (impl_TurnDigits_factor _ _ (own_alloc HO.out _) b0 b1 h40 HA.out).mono ?_; rintro e w1 ⟨rfl, b1⟩
        have BW := Lib.hid ((blk1 b1).2.1); clear b1
        go_wp2_with fail
        go_ret
        exact ⟨ret_b HF.out.symm, BW.out⟩
      · obtain ⟨g, rfl, q⟩ := QQ.out (xs.length - 1) (by omega)
        have gl := World.block_lt_of_cell? w _ q
        have i0 : (0 : Int) ≤ (xs.length : Int) - 1 := by omega
        have i1 : (xs.length : Int) - 1 < (xs.length : Int) := by omega
        have i2 : ((xs.length : Int) - 1).toNat = xs.length - 1 := by omega
        cases e : (nth xs (xs.length - 1) == 0)
        · have HF := Lib.hid (show validT b xs = okF b xs xs.length from by rw [HR.out, HA.out, e]; simp)
          clear h0
          go_wp2_with fail
          refine (impl_TurnDigits_factor _ _ (own_alloc HO.out _) b0 b1 h40 HA.out).mono ?_; rintro e w1 ⟨rfl, b1⟩
          have BW := Lib.hid ((blk1 b1).2.1); clear b1
          go_wp2_with fail
          go_ret
          exact ⟨ret_b HF.out.symm, BW.out⟩
        · have HF := Lib.hid (show validT b xs = false from by rw [HR.out, HA.out, e]; simp [h0])
          clear h0
          go_wp2_with fail
          go_ret
          exact ⟨ret_b HF.out.symm, (Below.refl _ _).alloc (Nat.le_refl _) _⟩
theorem allT_all {l : List Int} (h : ∀ i, i < l.length → isT (nth l i) = true) : allT l = true := by
  unfold allT; rw [List.all_eq_true]; intro x hx
  obtain ⟨i, hi, rfl⟩ := List.getElem_of_mem hx
  have := h i hi
  simpa [nth, List.getD, hi] using this
theorem okF_at {b : Int} {l : List Int} {i j : Nat} (h : okF b l j = true) (hij : i ≤ j) : okF b l i = true := by
  cases e : okF b l i
  · rw [okF_no e hij] at h; cases h
  · rfl
theorem validT_parts {b : Int} {l : List Int} (h : validT b l = true) : (2 ≤ b ∧ b ≤ 16) ∧ l.length ≤ 40 ∧ allT l = true ∧ okF b l l.length = true := by
  unfold validT at h
  simp only [Bool.and_eq_true, decide_eq_true_eq] at h
  exact ⟨inB_iff.1 h.1, h.2.1, h.2.2.1, h.2.2.2.2⟩
def cnt (l : List Int) : Nat → Int
  | 0 => 0
  | j + 1 => cnt l j + iabs (nth l j)
theorem iabs16 {x : Int} (h : isT x = true) : 0 ≤ iabs x ∧ iabs x ≤ 16 := by
  have := inB_iff.1 h
  unfold iabs; split <;> omega
theorem cnt_bd {l : List Int} (ha : allT l = true) : ∀ j, j ≤ l.length → 0 ≤ cnt l j ∧ cnt l j ≤ 16 * (j : Int)
  | 0, _ => by simp [cnt]
  | j + 1, h => by
    have i := cnt_bd ha j (by omega)
    have a := iabs16 (all_get ha (j := j) (by omega))
    unfold cnt; omega
def cntR (b : Int) (l : List Int) : Int × Int := if validT b l then (cnt l l.length, 0) else (0, 1)
set_option maxHeartbeats 4000000 in
theorem spec_l13Ok {B : Nat} {v : Value} {xs : List Int} (b : Int) (g0 : Nat) (w : World) (h : Own w B v xs) (hc0 : w.cell? ⟨g0, 0, none⟩ = some (.int .i64 b)) (hc1 : w.cell? ⟨g0, 1, none⟩ = some v) (hlen : xs.length ≤ 1048576) :
    Calls Tryd.prog 32 #[.pointer (some ⟨g0, 0, none⟩)] w (RetV w (.bool (validT b xs))) := by
  obtain ⟨a1, c1, rfl, m1, q1⟩ := own_form h
  have QQ := Lib.hid q1; clear q1 h
  cases hb : inB b 2 16
  · have hbb := Lib.hid hb
    have HR := Lib.hid (show validT b xs = false from by simp [validT, hb])
    clear hb
    go_enter Tryd.func32, Tryd.ntmps32
    go_wp2_with fail
    refine (spec_l02Base _ _).mono ?_; rintro e w' ⟨rfl, rfl⟩; rw [hbb.out]
    go_wp2_with fail
    go_ret
    exact ⟨ret_b HR.out.symm, Below.refl _ _⟩
  have hbb := Lib.hid hb
  obtain ⟨b0, b1⟩ := inB_iff.1 hb
  by_cases h40 : xs.length ≤ 40
  rotate_left
  · have HR := Lib.hid (show validT b xs = false from by simp [validT, h40])
    clear hb
    go_enter Tryd.func32, Tryd.ntmps32
    go_wp2_with fail
    refine (spec_l02Base _ _).mono ?_; rintro e w' ⟨rfl, rfl⟩; rw [hbb.out]
    go_wp2_with fail
    go_ret
    exact ⟨ret_b HR.out.symm, Below.refl _ _⟩
  have HR := Lib.hid (show validT b xs = (allT xs && ((decide (xs.length = 0) || !(nth xs (xs.length - 1) == 0)) && okF b xs xs.length)) from by simp [validT, hb, h40])
  clear hb
  by_cases h0 : xs.length = 0
  · have HF := Lib.hid (show validT b xs = true from by rw [HR.out, allT_all (fun i hi => by omega)]; simp [h0, okF])
    have z0 : ¬ (0 : Int) < (xs.length : Int) := by omega
    clear h0
    go_enter Tryd.func32, Tryd.ntmps32
    go_wp2_with fail
    refine (spec_l02Base _ _).mono ?_; rintro e w' ⟨rfl, rfl⟩; rw [hbb.out]
    go_wp2_with fail
    go_loop [4, 5] (fun s k => s = .int .i64 0 ∧ k = .int .i64 ((xs.length : Int) - 1)) (fun _ k => (100 - intOf k).toNat)
    case atStart => exact ⟨rfl, rfl⟩
    case round =>
      obtain ⟨rfl, rfl⟩ := hrel
      go_wp2_with fail
      go_ret
      exact ⟨ret_b HF.out.symm, Below.refl _ _⟩
  obtain ⟨g, rfl, ql⟩ := QQ.out (xs.length - 1) (by omega)
  have z0 : (0 : Int) < (xs.length : Int) := by omega
  have i0 : (0 : Int) ≤ (xs.length : Int) - 1 := by omega
  have i1 : (xs.length : Int) - 1 < (xs.length : Int) := by omega
  have i2 : ((xs.length : Int) - 1).toNat = xs.length - 1 := by omega
  cases ez : (nth xs (xs.length - 1) == 0)
  rotate_left
  · have HF := Lib.hid (show validT b xs = false from by rw [HR.out, ez]; simp [h0])
    clear h0
    go_enter Tryd.func32, Tryd.ntmps32
    go_wp2_with fail
    refine (spec_l02Base _ _).mono ?_; rintro e w' ⟨rfl, rfl⟩; rw [hbb.out]
    go_wp2_with fail
    go_ret
    exact ⟨ret_b HF.out.symm, Below.refl _ _⟩
  have HR2 := Lib.hid (show validT b xs = (allT xs && okF b xs xs.length) from by rw [HR.out, ez]; simp)
  clear h0 HR
  go_enter Tryd.func32, Tryd.ntmps32
  go_wp2_with fail
  refine (spec_l02Base _ _).mono ?_; rintro e w' ⟨rfl, rfl⟩; rw [hbb.out]
  go_wp2_with fail
  clear ql i0 i1 i2 ez z0
  go_loopw [4, 5] (fun s k wr => ∃ (j : Nat) (X : Int), j ≤ xs.length ∧ k = .int .i64 ((xs.length : Int) - 1 - j) ∧ s = .int .i64 X ∧ -1000000000 ≤ X ∧ X ≤ 1000000000 ∧ Hid (X = fac b xs j) ∧ Hid (okF b xs j = true) ∧ Hid (∀ i, i < j → isT (nth xs (xs.length - (i + 1))) = true) ∧ ∃ n, wr = w.drewN n) (fun _ k _ => (intOf k + 1).toNat)
  case atStart => exact ⟨0, 0, by omega, by simp, rfl, by omega, by omega, rfl, rfl, fun i hi => by omega, 0, rfl⟩
  case round =>
    obtain ⟨j, X, hj, rfl, rfl, x0, x1, hX, hO, hI, n, rfl⟩ := hrel
    by_cases hlt : j < xs.length
    · obtain ⟨g', hg', qc⟩ := QQ.out (xs.length - (j + 1)) (by omega)
      obtain rfl : g = g' := by injection hg' with h; injection h
      clear hg'
      have i0 : (0 : Int) ≤ (xs.length : Int) - 1 - (j : Int) := by omega
      have i1 : (xs.length : Int) - 1 - (j : Int) < (xs.length : Int) := by omega
      have i2 : ((xs.length : Int) - 1 - (j : Int)).toNat = xs.length - (j + 1) := by omega
      cases hp : inB (nth xs (xs.length - (j + 1))) (-16) 16
      · have HP := Lib.hid hp
        have HF := Lib.hid (show allT xs = false from all_fail (p := isT) (show xs.length - (j + 1) < xs.length by omega) hp)
        clear hp
        go_wp2_with fail
        refine (spec_l00In _ _ _ _).mono ?_; rintro e w' ⟨rfl, rfl⟩; rw [HP.out]
        go_wp2_with fail
        go_ret
        exact ⟨ret_b (by rw [HR2.out, HF.out]; rfl), by first | exact below_drewN _ _ | exact below_dd _ _ _⟩
      · have HP := Lib.hid hp
        have t0 := inB_iff.1 hp
        obtain ⟨tl, th⟩ := t0
        have HI := Lib.hid (show ∀ i, i < j + 1 → isT (nth xs (xs.length - (i + 1))) = true from fun i hi => by rcases Nat.lt_succ_iff_lt_or_eq.1 hi with h | rfl <;> first | exact hI.out i h | exact hp)
        clear hp
        go_wp2_with fail
        refine (spec_l00In _ _ _ _).mono ?_; rintro e w' ⟨rfl, rfl⟩; rw [HP.out]
        cases e : inB (X * b + nth xs (xs.length - (j + 1))) (-1000000000) 1000000000
        · have HE := Lib.hid e; clear e
          obtain ⟨p0, p1⟩ := mul16 x0 x1 b0 b1
          have HN := Lib.hid (show X * b + nth xs (xs.length - (j + 1)) = fac b xs (j + 1) from by rw [hX.out]; rfl)
          have v1 : IntKind.i64.wrap (X * b) = X * b := IntWalk.i64_in _ (by omega)
          have v2 : IntKind.i64.wrap (X * b + nth xs (xs.length - (j + 1))) = X * b + nth xs (xs.length - (j + 1)) := IntWalk.i64_in _ (by omega)
          have HF := Lib.hid (show okF b xs xs.length = false from okF_no (show okF b xs (j + 1) = false by unfold okF; rw [← HN.out, HE.out, Bool.and_false]) (by omega))
          go_wp2_with fail
          go_quiet (fail)
          clear v1 v2 i0 i1 i2
          go_wp2_with fail
          refine (spec_l00In _ _ _ _).mono ?_; rintro e w' ⟨rfl, rfl⟩; rw [HE.out]
          go_wp2_with fail
          go_ret
          exact ⟨ret_b (by rw [HR2.out, HF.out, Bool.and_false]), by first | exact below_drewN _ _ | exact below_dd _ _ _⟩
        · have HE := Lib.hid e; have eb := inB_iff.1 e; clear e
          obtain ⟨eb0, eb1⟩ := eb
          obtain ⟨p0, p1⟩ := mul16 x0 x1 b0 b1
          have HN := Lib.hid (show X * b + nth xs (xs.length - (j + 1)) = fac b xs (j + 1) from by rw [hX.out]; rfl)
          have v1 : IntKind.i64.wrap (X * b) = X * b := IntWalk.i64_in _ (by omega)
          have v2 : IntKind.i64.wrap (X * b + nth xs (xs.length - (j + 1))) = X * b + nth xs (xs.length - (j + 1)) := IntWalk.i64_in _ (by omega)
          have HF := Lib.hid (show okF b xs (j + 1) = true from by unfold okF; rw [← HN.out, HE.out, hO.out]; rfl)
          go_wp2_with fail
          go_quiet (fail)
          clear v1 v2 i0 i1 i2
          go_wp2_with fail
          refine (spec_l00In _ _ _ _).mono ?_; rintro e w' ⟨rfl, rfl⟩; rw [HE.out]
          go_wp2_with fail
          go_roundw
          case rel => exact ⟨j + 1, X * b + nth xs (xs.length - (j + 1)), by omega, by go_num, rfl, eb0, eb1, HN.out, HF.out, HI.out, by first | exact ⟨_, rfl⟩ | skip⟩
          case measure => first | (simp [intOf]; done) | (simp [intOf]; omega)
    · obtain rfl : j = xs.length := by omega
      have HA := Lib.hid (show allT xs = true from allT_all fun i hi => by have := hI.out (xs.length - (i + 1)) (by omega); rwa [show xs.length - (xs.length - (i + 1) + 1) = i by omega] at this)
      have HO := hO
      clear hI
      go_wp2_with fail
      go_ret
      exact ⟨ret_b (by rw [HR2.out, HA.out, HO.out]; rfl), by first | exact below_drewN _ _ | exact below_dd _ _ _⟩
end Go.Proofs.YtkhjmokjbiepgaaDoor
