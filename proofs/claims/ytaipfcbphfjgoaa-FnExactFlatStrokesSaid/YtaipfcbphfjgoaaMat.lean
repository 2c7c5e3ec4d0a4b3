/- The end of a loop, and how deep loops are: the plain functions of a valid program; MatchOf of both packages. -/
import Derived.IntWalk
import Derived.Test.YtaipfcbphfjgoaaVp2
namespace Go.Proofs.Ytaipfcbphfjgoaa
open Go.ChangeShapes Go.WideShapes Go.ChangeAt Go.RowKit
def dAt (zs : List Int) (j : Nat) : Int := (depthAt zs j).getD 0
theorem dStep_inv {d op n d' : Int} (h : dStep d op n = some d') : okI op n = true ∧ d' = nextD op d ∧ 0 ≤ d' ∧ d' ≤ 4 := by
  unfold dStep at h
  split at h
  · rename_i hc
    rw [Bool.and_eq_true] at hc
    have := inB_iff.1 hc.2
    injection h with h
    subst h
    exact ⟨hc.1, rfl, this.1, this.2⟩
  · cases h
theorem valid_parts {zs : List Int} {n : Nat} (hn : zs.length = n * 2) (h : validP zs = true) : (∀ j, j ≤ n → depthAt zs j = some (dAt zs j) ∧ 0 ≤ dAt zs j ∧ dAt zs j ≤ 4) ∧ dAt zs n = 0 ∧ n ≤ 120 ∧
    (∀ j, j < n → okI (nth zs (j * 2)) (nth zs (j * 2 + 1)) = true ∧ dAt zs (j + 1) = nextD (nth zs (j * 2)) (dAt zs j)) := by
  unfold validP at h
  rw [show zs.length / 2 = n by omega, Bool.and_eq_true, decide_eq_true_iff, decide_eq_true_iff] at h
  have hs : ∀ j, j ≤ n → ∃ d, depthAt zs j = some d := by
    intro j hj
    cases e : depthAt zs j with
    | some d => exact ⟨d, rfl⟩
    | none =>
      have := depthAt_none e (n - j)
      rw [show j + (n - j) = n by omega, h.1] at this
      cases this
  have hd : ∀ j, j ≤ n → depthAt zs j = some (dAt zs j) := by
    intro j hj
    obtain ⟨d, e⟩ := hs j hj
    unfold dAt; rw [e]; rfl
  have hst : ∀ j, j < n → okI (nth zs (j * 2)) (nth zs (j * 2 + 1)) = true ∧ dAt zs (j + 1) = nextD (nth zs (j * 2)) (dAt zs j) ∧ 0 ≤ dAt zs (j + 1) ∧ dAt zs (j + 1) ≤ 4 := by
    intro j hj
    have a := depth_step (hd j (by omega))
    rw [hd (j + 1) (by omega)] at a
    exact dStep_inv a.symm
  refine ⟨fun j hj => ?_, by unfold dAt; rw [h.1]; rfl, h.2, fun j hj => ⟨(hst j hj).1, (hst j hj).2.1⟩⟩
  refine ⟨hd j hj, ?_⟩
  match j with
  | 0 => exact ⟨by show (0 : Int) ≤ 0; omega, by show (0 : Int) ≤ 4; omega⟩
  | j + 1 => exact (hst j (by omega)).2.2
theorem nextD_le {op d : Int} : d - 1 ≤ nextD op d ∧ nextD op d ≤ d + 1 := by unfold nextD; split <;> (try split) <;> omega
/-- a loop that begins at a place of a valid program ends behind it -/
theorem match_ex {zs : List Int} {n a : Nat} (hn : zs.length = n * 2) (h : validP zs = true) (ha : a < n) (ho : opensB (nth zs (a * 2)) = true) : ∃ k, a ≤ k ∧ k < n ∧ dAt zs (k + 1) = dAt zs a := by
  obtain ⟨h1, h2, h3, h4⟩ := valid_parts hn h
  apply Classical.byContradiction
  intro hno
  have hne : ∀ k, a ≤ k → k < n → dAt zs (k + 1) ≠ dAt zs a := fun k h5 h6 e => hno ⟨k, h5, h6, e⟩
  have hgt : ∀ m, a + m < n → dAt zs a < dAt zs (a + m + 1) := by
    intro m
    induction m with
    | zero =>
      intro hm
      have e := (h4 a (by omega)).2
      rw [nextD_of.1 ho] at e
      show dAt zs a < dAt zs (a + 1)
      omega
    | succ m ih =>
      intro hm
      have i := ih (by omega)
      have e := (h4 (a + m + 1) (by omega)).2
      have l := nextD_le (op := nth zs ((a + m + 1) * 2)) (d := dAt zs (a + m + 1))
      have ne := hne (a + m + 1) (by omega) (by omega)
      show dAt zs a < dAt zs (a + m + 1 + 1)
      omega
  have g := hgt (n - a - 1) (by omega)
  rw [show a + (n - a - 1) + 1 = n by omega, h2] at g
  have := (h1 a (by omega)).2.1
  omega
def mtchF (zs : List Int) (d0 : Int) : Nat → Nat → Nat
  | 0, i => i
  | f + 1, i => if dAt zs (i + 1) = d0 then i else mtchF zs d0 f (i + 1)
def mtch (zs : List Int) (a : Nat) : Nat := mtchF zs (dAt zs a) (zs.length / 2 - a) a
theorem mtchF_hit {zs : List Int} {d0 : Int} {n i : Nat} (hi : i < n) (h : dAt zs (i + 1) = d0) : mtchF zs d0 (n - i) i = i := by
  rw [show n - i = (n - (i + 1)) + 1 by omega]; simp [mtchF, h]
theorem mtchF_miss {zs : List Int} {d0 : Int} {n i : Nat} (hi : i < n) (h : dAt zs (i + 1) ≠ d0) : mtchF zs d0 (n - i) i = mtchF zs d0 (n - (i + 1)) (i + 1) := by
  rw [show n - i = (n - (i + 1)) + 1 by omega]; simp [mtchF, h]
theorem mtchF_end {zs : List Int} {d0 : Int} {n : Nat} : mtchF zs d0 (n - n) n = n := by rw [Nat.sub_self]; rfl
theorem mtchF_bd {zs : List Int} {d0 : Int} : ∀ f i, i ≤ mtchF zs d0 f i ∧ mtchF zs d0 f i ≤ i + f := by
  intro f
  induction f with
  | zero => intro i; simp [mtchF]
  | succ f ih =>
    intro i
    unfold mtchF
    split
    · omega
    · have := ih (i + 1); omega
theorem ex_step {zs : List Int} {da : Int} {i n : Nat} (h : ∃ k, i ≤ k ∧ k < n ∧ dAt zs (k + 1) = da) (hne : dAt zs (i + 1) = da → False) : ∃ k, i + 1 ≤ k ∧ k < n ∧ dAt zs (k + 1) = da := by
  obtain ⟨k, k1, k2, k3⟩ := h
  refine ⟨k, ?_, k2, k3⟩
  rcases Nat.lt_or_ge i k with h | h
  · exact h
  · obtain rfl : k = i := by omega
    exact absurd k3 hne
def mofC (zs : List Int) (a : Int) : Int := if validP zs then (if inB a 0 ((zs.length / 2 : Nat) - 1) then (if opensB (nth zs (a.toNat * 2)) then 0 else 6) else 2) else 1
def mofV (zs : List Int) (a : Int) : Int := if mofC zs a = 0 then mtch zs a.toNat else 0
set_option maxHeartbeats 4000000 in
theorem impl_matchOf {B : Nat} {u : Value} {n : Nat} {zs : List Int} (a : Nat) (w : World) (h1 : OwnR w B u n zs) (hv : validP zs = true) (ha : a < n) (ho : opensB (nth zs (a * 2)) = true) :
    Calls Try.prog 48 #[u, .int .i64 a] w (RetV w (.int .i64 (mtch zs a))) := by
  have hz := recr_len h1
  obtain ⟨v1, v2, v3, v4⟩ := valid_parts hz hv
  have HEX := Lib.hid (match_ex hz hv ha ho)
  have V1 := Lib.hid v1; have V4 := Lib.hid v4
  obtain ⟨a1, c1, rfl, m1, q1⟩ := recr_form h1
  clear h1 v1 v2 v4 ho hv
  have Q1 := Lib.hid q1; clear q1
  have hda := (V1.out a (by omega)).2
  obtain ⟨da, hDA⟩ : ∃ d, d = dAt zs a := ⟨_, rfl⟩
  rw [← hDA] at hda
  have hM : mtch zs a = mtchF zs da (n - a) a := by unfold mtch; rw [show zs.length / 2 = n by omega, hDA]
  rw [hM]
  generalize hMM : mtchF zs da (n - a) a = M at *
  have HM := Lib.hid hMM
  have HDA := Lib.hid hDA
  clear hMM hM hDA
  obtain ⟨da0, da4⟩ := hda
  go_enter Try.func48, Try.ntmps48
  go_wp2_with fail
  go_loopw [5, 6] (fun dd ii wr => ∃ (i : Nat) (d : Int), a ≤ i ∧ i ≤ n ∧ ii = .int .i64 i ∧ dd = .int .i64 d ∧ Hid (d = dAt zs i - da) ∧ Hid (mtchF zs da (n - i) i = M) ∧ Hid (∃ k, i ≤ k ∧ k < n ∧ dAt zs (k + 1) = da) ∧ Below w.heap.size w wr) (fun _ ii _ => n - (intOf ii).toNat)
  case atStart => exact ⟨a, 0, Nat.le_refl _, by omega, rfl, by simp, Lib.hid (by have := HDA.out; omega), Lib.hid HM.out, Lib.hid (by obtain ⟨k, k1, k2, k3⟩ := HEX.out; exact ⟨k, k1, k2, by rw [k3, HDA.out]⟩), Below.refl _ _⟩
  case round =>
    obtain ⟨i, d, hai, hin, rfl, rfl, hd, hm, hex, hb⟩ := hrel
    have hlt : i < n := by obtain ⟨k, k1, k2, _⟩ := hex.out; omega
    have HX := Lib.hid hex; have HMI := Lib.hid hm; have HD := Lib.hid hd
    obtain ⟨di0, di4⟩ := (V1.out i (by omega)).2
    have hst := (V4.out i hlt).2
    obtain ⟨dn0, dn4⟩ := (V1.out (i + 1) (by omega)).2
    have hdi := hd.out
    obtain ⟨e, he⟩ : ∃ e, e = dAt zs (i + 1) := ⟨_, rfl⟩
    rw [← he] at hst dn0 dn4
    obtain ⟨di, hdi2⟩ : ∃ e, e = dAt zs i := ⟨_, rfl⟩
    rw [← hdi2] at hdi di0 di4 hst
    obtain ⟨g, rfl, x0, x1⟩ := Q1.out i hlt
    have gl : g < w.heap.size := World.block_lt_of_cell? w _ x0
    have r0 := (hb.cell gl).trans x0; have r1 := (hb.cell (World.block_lt_of_cell? w _ x1)).trans x1
    have hsz := hb.size
    have gl2 : g < wr.heap.size := by omega
    have HB := Lib.hid hb
    clear x0 x1 hb
    have i0 : (0 : Int) ≤ (i : Int) := by omega
    have i1 : (i : Int) < (n : Int) := by omega
    generalize nth zs (i * 2) = op at *
    generalize nth zs (i * 2 + 1) = ar at *
    have HS := Lib.hid hst
    have HE := Lib.hid he
    clear hm hex hd he hdi2 hst
    cases hp : opensB op
    · have HP := Lib.hid hp
      by_cases h10 : op = 10
      · have HDL := Lib.hid (show e = di + (-1) from by rw [HS.out, nextD_of.2.1 h10]; omega)
        subst h10
        clear hp
        by_cases hz0 : d + (-1) = 0
        · have HR := Lib.hid (show M = i from by rw [← HMI.out]; exact mtchF_hit hlt (by have := HE.out; have := HDL.out; have := HD.out; omega))
          go_wp2_with fail
          refine (impl_begins _ _ _).mono ?_; rintro e9 w1 ⟨rfl, b1⟩; rw [HP.out]
          have z0 := (b1.cell (World.block_lt_of_cell? wr _ r0)).trans r0
          have hsz1 := b1.size
          have B1 := Lib.hid (Below.trans_size HB.out b1); clear b1
          have gl3 : g < w1.heap.size := by omega
          go_wp2_with fail
          go_ret
          exact ⟨ret_int (by rw [HR.out]), B1.out⟩
        · have HN := Lib.hid (show mtchF zs da (n - (i + 1)) (i + 1) = M from by rw [← HMI.out]; exact (mtchF_miss hlt (by have := HE.out; have := HDL.out; have := HD.out; omega)).symm)
          have HX2 := Lib.hid (ex_step HX.out (fun k3 => by have := HE.out; have := HDL.out; have := HD.out; omega))
          go_wp2_with fail
          refine (impl_begins _ _ _).mono ?_; rintro e9 w1 ⟨rfl, b1⟩; rw [HP.out]
          have z0 := (b1.cell (World.block_lt_of_cell? wr _ r0)).trans r0
          have hsz1 := b1.size
          have B1 := Lib.hid (Below.trans_size HB.out b1); clear b1
          have gl3 : g < w1.heap.size := by omega
          go_wp2_with fail
          go_roundw
          case rel => exact ⟨i + 1, d + (-1), by omega, by omega, by go_num, by first | rfl | (congr 1; omega), Lib.hid (by have := HE.out; have := HDL.out; have := HD.out; omega), Lib.hid HN.out, Lib.hid HX2.out, B1.out⟩
          case measure => first | (simp [intOf]; done) | (simp [intOf]; omega)
      · have HDL := Lib.hid (show e = di + 0 from by rw [HS.out, nextD_of.2.2 hp h10]; omega)
        clear hp
        by_cases hz0 : d + (0) = 0
        · have HR := Lib.hid (show M = i from by rw [← HMI.out]; exact mtchF_hit hlt (by have := HE.out; have := HDL.out; have := HD.out; omega))
          obtain rfl : d = 0 := by omega
          go_wp2_with fail
          refine (impl_begins _ _ _).mono ?_; rintro e9 w1 ⟨rfl, b1⟩; rw [HP.out]
          have z0 := (b1.cell (World.block_lt_of_cell? wr _ r0)).trans r0
          have hsz1 := b1.size
          have B1 := Lib.hid (Below.trans_size HB.out b1); clear b1
          have gl3 : g < w1.heap.size := by omega
          go_wp2_with fail
          go_ret
          exact ⟨ret_int (by rw [HR.out]), B1.out⟩
        · have HN := Lib.hid (show mtchF zs da (n - (i + 1)) (i + 1) = M from by rw [← HMI.out]; exact (mtchF_miss hlt (by have := HE.out; have := HDL.out; have := HD.out; omega)).symm)
          have HX2 := Lib.hid (ex_step HX.out (fun k3 => by have := HE.out; have := HDL.out; have := HD.out; omega))
          go_wp2_with fail
          refine (impl_begins _ _ _).mono ?_; rintro e9 w1 ⟨rfl, b1⟩; rw [HP.out]
          have z0 := (b1.cell (World.block_lt_of_cell? wr _ r0)).trans r0
          have hsz1 := b1.size
          have B1 := Lib.hid (Below.trans_size HB.out b1); clear b1
          have gl3 : g < w1.heap.size := by omega
          go_wp2_with fail
          go_roundw
          case rel => exact ⟨i + 1, d + (0), by omega, by omega, by go_num, by first | rfl | (congr 1; omega), Lib.hid (by have := HE.out; have := HDL.out; have := HD.out; omega), Lib.hid HN.out, Lib.hid HX2.out, B1.out⟩
          case measure => first | (simp [intOf]; done) | (simp [intOf]; omega)
    · have HP := Lib.hid hp
      have h10 : ¬ op = 10 := by rintro rfl; cases hp
      have HDL := Lib.hid (show e = di + 1 from by rw [HS.out, nextD_of.1 hp])
      clear hp
      by_cases hz0 : d + (1) = 0
      · have HR := Lib.hid (show M = i from by rw [← HMI.out]; exact mtchF_hit hlt (by have := HE.out; have := HDL.out; have := HD.out; omega))
        go_wp2_with fail
        refine (impl_begins _ _ _).mono ?_; rintro e9 w1 ⟨rfl, b1⟩; rw [HP.out]
        have z0 := (b1.cell (World.block_lt_of_cell? wr _ r0)).trans r0
        have hsz1 := b1.size
        have B1 := Lib.hid (Below.trans_size HB.out b1); clear b1
        have gl3 : g < w1.heap.size := by omega
        go_wp2_with fail
        go_ret
        exact ⟨ret_int (by rw [HR.out]), B1.out⟩
      · have HN := Lib.hid (show mtchF zs da (n - (i + 1)) (i + 1) = M from by rw [← HMI.out]; exact (mtchF_miss hlt (by have := HE.out; have := HDL.out; have := HD.out; omega)).symm)
        have HX2 := Lib.hid (ex_step HX.out (fun k3 => by have := HE.out; have := HDL.out; have := HD.out; omega))
        go_wp2_with fail
        refine (impl_begins _ _ _).mono ?_; rintro e9 w1 ⟨rfl, b1⟩; rw [HP.out]
        have z0 := (b1.cell (World.block_lt_of_cell? wr _ r0)).trans r0
        have hsz1 := b1.size
        have B1 := Lib.hid (Below.trans_size HB.out b1); clear b1
        have gl3 : g < w1.heap.size := by omega
        go_wp2_with fail
        go_roundw
        case rel => exact ⟨i + 1, d + (1), by omega, by omega, by go_num, by first | rfl | (congr 1; omega), Lib.hid (by have := HE.out; have := HDL.out; have := HD.out; omega), Lib.hid HN.out, Lib.hid HX2.out, B1.out⟩
        case measure => first | (simp [intOf]; done) | (simp [intOf]; omega)
set_option maxHeartbeats 4000000 in
theorem spec_l11Match {B : Nat} {u : Value} {n : Nat} {zs : List Int} (a : Nat) (w : World) (h1 : OwnR w B u n zs) (hv : validP zs = true) (ha : a < n) (ho : opensB (nth zs (a * 2)) = true) :
    Calls Try.prog 46 #[u, .int .i64 a] w fun e w' => e = .returned (.int .i64 (mtch zs a)) ∧ w = w' := by
  have hz := recr_len h1
  obtain ⟨v1, v2, v3, v4⟩ := valid_parts hz hv
  have HEX := Lib.hid (match_ex hz hv ha ho)
  have V1 := Lib.hid v1; have V4 := Lib.hid v4
  obtain ⟨a1, c1, rfl, m1, q1⟩ := recr_form h1
  clear h1 v1 v2 v4 ho hv
  have Q1 := Lib.hid q1; clear q1
  have hda := (V1.out a (by omega)).2
  obtain ⟨da, hDA⟩ : ∃ d, d = dAt zs a := ⟨_, rfl⟩
  rw [← hDA] at hda
  have hM : mtch zs a = mtchF zs da (n - a) a := by unfold mtch; rw [show zs.length / 2 = n by omega, hDA]
  rw [hM]
  generalize hMM : mtchF zs da (n - a) a = M at *
  have HM := Lib.hid hMM
  have HDA := Lib.hid hDA
  clear hMM hM hDA
  obtain ⟨da0, da4⟩ := hda
  go_enter Try.func46, Try.ntmps46
  go_wp2_with fail
  go_loop [5, 6] (fun dd ii => ∃ (i : Nat) (d : Int), a ≤ i ∧ i ≤ n ∧ ii = .int .i64 i ∧ dd = .int .i64 d ∧ Hid (d = dAt zs i - da) ∧ Hid (mtchF zs da (n - i) i = M) ∧ Hid (∃ k, i ≤ k ∧ k < n ∧ dAt zs (k + 1) = da)) (fun _ ii => n - (intOf ii).toNat)
  case atStart => exact ⟨a, 0, Nat.le_refl _, by omega, rfl, by simp, Lib.hid (by have := HDA.out; omega), Lib.hid HM.out, Lib.hid (by obtain ⟨k, k1, k2, k3⟩ := HEX.out; exact ⟨k, k1, k2, by rw [k3, HDA.out]⟩)⟩
  case round =>
    obtain ⟨i, d, hai, hin, rfl, rfl, hd, hm, hex⟩ := hrel
    have hlt : i < n := by obtain ⟨k, k1, k2, _⟩ := hex.out; omega
    have HX := Lib.hid hex; have HMI := Lib.hid hm; have HD := Lib.hid hd
    obtain ⟨di0, di4⟩ := (V1.out i (by omega)).2
    have hst := (V4.out i hlt).2
    obtain ⟨dn0, dn4⟩ := (V1.out (i + 1) (by omega)).2
    have hdi := hd.out
    obtain ⟨e, he⟩ : ∃ e, e = dAt zs (i + 1) := ⟨_, rfl⟩
    rw [← he] at hst dn0 dn4
    obtain ⟨di, hdi2⟩ : ∃ e, e = dAt zs i := ⟨_, rfl⟩
    rw [← hdi2] at hdi di0 di4 hst
    obtain ⟨g, rfl, x0, x1⟩ := Q1.out i hlt
    clear x1
    have i0 : (0 : Int) ≤ (i : Int) := by omega
    have i1 : (i : Int) < (n : Int) := by omega
    generalize nth zs (i * 2) = op at *
    generalize nth zs (i * 2 + 1) = ar at *
    have HS := Lib.hid hst
    have HE := Lib.hid he
    clear hm hex hd he hdi2 hst
    cases hp : opensB op
    · have HP := Lib.hid hp
      by_cases h10 : op = 10
      · have HDL := Lib.hid (show e = di + (-1) from by rw [HS.out, nextD_of.2.1 h10]; omega)
        subst h10
        clear hp
        by_cases hz0 : d + (-1) = 0
        · have HR := Lib.hid (show M = i from by rw [← HMI.out]; exact mtchF_hit hlt (by have := HE.out; have := HDL.out; have := HD.out; omega))
          go_wp2_with fail
          refine (spec_l11Opens _ _).mono ?_; rintro e9 wy ⟨rfl, rfl⟩; rw [HP.out]
          go_wp2_with fail
          go_ret
          exact ⟨ret_int (by rw [HR.out]), rfl⟩
        · have HN := Lib.hid (show mtchF zs da (n - (i + 1)) (i + 1) = M from by rw [← HMI.out]; exact (mtchF_miss hlt (by have := HE.out; have := HDL.out; have := HD.out; omega)).symm)
          have HX2 := Lib.hid (ex_step HX.out (fun k3 => by have := HE.out; have := HDL.out; have := HD.out; omega))
          go_wp2_with fail
          refine (spec_l11Opens _ _).mono ?_; rintro e9 wy ⟨rfl, rfl⟩; rw [HP.out]
          go_wp2_with fail
          go_round
          case rel => exact ⟨i + 1, d + (-1), by omega, by omega, by go_num, by first | rfl | (congr 1; omega), Lib.hid (by have := HE.out; have := HDL.out; have := HD.out; omega), Lib.hid HN.out, Lib.hid HX2.out⟩
          case measure => first | (simp [intOf]; done) | (simp [intOf]; omega)
      · have HDL := Lib.hid (show e = di + 0 from by rw [HS.out, nextD_of.2.2 hp h10]; omega)
        clear hp
        by_cases hz0 : d + (0) = 0
        · have HR := Lib.hid (show M = i from by rw [← HMI.out]; exact mtchF_hit hlt (by have := HE.out; have := HDL.out; have := HD.out; omega))
          obtain rfl : d = 0 := by omega
          go_wp2_with fail
          refine (spec_l11Opens _ _).mono ?_; rintro e9 wy ⟨rfl, rfl⟩; rw [HP.out]
          go_wp2_with fail
          go_ret
          exact ⟨ret_int (by rw [HR.out]), rfl⟩
        · have HN := Lib.hid (show mtchF zs da (n - (i + 1)) (i + 1) = M from by rw [← HMI.out]; exact (mtchF_miss hlt (by have := HE.out; have := HDL.out; have := HD.out; omega)).symm)
          have HX2 := Lib.hid (ex_step HX.out (fun k3 => by have := HE.out; have := HDL.out; have := HD.out; omega))
          go_wp2_with fail
          refine (spec_l11Opens _ _).mono ?_; rintro e9 wy ⟨rfl, rfl⟩; rw [HP.out]
          go_wp2_with fail
          go_round
          case rel => exact ⟨i + 1, d + (0), by omega, by omega, by go_num, by first | rfl | (congr 1; omega), Lib.hid (by have := HE.out; have := HDL.out; have := HD.out; omega), Lib.hid HN.out, Lib.hid HX2.out⟩
          case measure => first | (simp [intOf]; done) | (simp [intOf]; omega)
    · have HP := Lib.hid hp
      have h10 : ¬ op = 10 := by rintro rfl; cases hp
      have HDL := Lib.hid (show e = di + 1 from by rw [HS.out, nextD_of.1 hp])
      clear hp
      by_cases hz0 : d + (1) = 0
      · have HR := Lib.hid (show M = i from by rw [← HMI.out]; exact mtchF_hit hlt (by have := HE.out; have := HDL.out; have := HD.out; omega))
        go_wp2_with fail
        refine (spec_l11Opens _ _).mono ?_; rintro e9 wy ⟨rfl, rfl⟩; rw [HP.out]
        go_wp2_with fail
        go_ret
        exact ⟨ret_int (by rw [HR.out]), rfl⟩
      · have HN := Lib.hid (show mtchF zs da (n - (i + 1)) (i + 1) = M from by rw [← HMI.out]; exact (mtchF_miss hlt (by have := HE.out; have := HDL.out; have := HD.out; omega)).symm)
        have HX2 := Lib.hid (ex_step HX.out (fun k3 => by have := HE.out; have := HDL.out; have := HD.out; omega))
        go_wp2_with fail
        refine (spec_l11Opens _ _).mono ?_; rintro e9 wy ⟨rfl, rfl⟩; rw [HP.out]
        go_wp2_with fail
        go_round
        case rel => exact ⟨i + 1, d + (1), by omega, by omega, by go_num, by first | rfl | (congr 1; omega), Lib.hid (by have := HE.out; have := HDL.out; have := HD.out; omega), Lib.hid HN.out, Lib.hid HX2.out⟩
        case measure => first | (simp [intOf]; done) | (simp [intOf]; omega)
end Go.Proofs.Ytaipfcbphfjgoaa
