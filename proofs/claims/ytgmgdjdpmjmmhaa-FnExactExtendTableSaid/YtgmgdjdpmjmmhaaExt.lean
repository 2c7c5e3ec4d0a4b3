/- A table continued: the functions of both packages. -/
import Derived.IntWalk
import Derived.Test.YtgmgdjdpmjmmhaaDifC
import Derived.Test.YtgmgdjdpmjmmhaaBin
namespace Go.Proofs.Ytgmgdjdpmjmmhaa
open Go.ChangeShapes Go.WideShapes Go.ChangeAt Go.RowKit
theorem own_drewN {w : World} {B : Nat} {v : Value} {zs : List Int} (h : Own w B v zs) (n : Nat) : Own (w.drewN n) B v zs := h
theorem cell_drewN (w : World) (n : Nat) (X : Int) (t : TypeId) : ((w.drewN n).alloc (.cells #[.int .i64 X] t)).cell? ⟨w.heap.size, 0, none⟩ = some (.int .i64 X) := by
  exact World.cell?_alloc_new (w := w.drewN n) #[.int .i64 X] t 0
theorem sz_drewN {w : World} {K : Nat} (h : K ≤ w.heap.size) (o : Obj) (n : Nat) : K ≤ ((w.drewN n).alloc o).heap.size := by show K ≤ (w.alloc o).heap.size; simp; omega
def sg (k : Nat) : Int := if k % 2 = 0 then -1 else 1
def xps (l : List Int) (d : Nat) : Nat → Int
  | 0 => 0
  | j + 1 => xps l d j + sg (j + 1) * binOf ((d : Int) + 1) ((j : Int) + 1) * nth l (l.length - (j + 1))
theorem bin9_chk : ∀ n : Fin 10, ∀ k : Fin 10, 0 ≤ binOf (n.val : Int) (k.val : Int) ∧ binOf (n.val : Int) (k.val : Int) ≤ 126 := by decide +kernel
theorem bin9 {n k : Int} (h0 : 0 ≤ n) (h1 : n ≤ 9) (h2 : 0 ≤ k) (h3 : k ≤ 9) : 0 ≤ binOf n k ∧ binOf n k ≤ 126 := by
  obtain ⟨a, rfl⟩ := Int.eq_ofNat_of_zero_le h0
  obtain ⟨b, rfl⟩ := Int.eq_ofNat_of_zero_le h2
  exact bin9_chk ⟨a, by omega⟩ ⟨b, by omega⟩
theorem sg_bd (k : Nat) : sg k = 1 ∨ sg k = -1 := by unfold sg; split <;> simp
theorem sg_succ (k : Nat) : sg (k + 1) = -sg k := by unfold sg; split <;> split <;> first | rfl | omega
theorem term_bd {S b x : Int} (hS : S = 1 ∨ S = -1) (h0 : 0 ≤ b) (h1 : b ≤ 126) (x0 : -1000000000 ≤ x) (x1 : x ≤ 1000000000) : -126 ≤ S * b ∧ S * b ≤ 126 ∧ -126000000000 ≤ S * b * x ∧ S * b * x ≤ 126000000000 := by
  have key : ∀ c : Int, 0 ≤ c → c ≤ 126 → -126000000000 ≤ c * x ∧ c * x ≤ 126000000000 := by
    intro c c0 c1
    have a := Int.mul_le_mul_of_nonneg_left x1 c0
    have d := Int.mul_le_mul_of_nonneg_left x0 c0
    omega
  have k := key b h0 h1
  rcases hS with rfl | rfl
  · rw [Int.one_mul]; omega
  · rw [Int.neg_mul, Int.one_mul, Int.neg_mul]; omega
theorem xps_bd {l : List Int} {d : Nat} (hl : bdd 1000000000 l) (hd : d ≤ 8) (hlen : d < l.length) : ∀ j, j ≤ d + 1 → -((j : Int) * 126000000000) ≤ xps l d j ∧ xps l d j ≤ (j : Int) * 126000000000 := by
  intro j
  induction j with
  | zero => intro _; simp [xps]
  | succ j ih =>
    intro hj
    have i := ih (by omega)
    have b := bin9 (n := (d : Int) + 1) (k := (j : Int) + 1) (by omega) (by omega) (by omega) (by omega)
    have x := nth_bd hl (j := l.length - (j + 1)) (by omega)
    have t := term_bd (sg_bd (j + 1)) b.1 b.2 x.1 x.2
    unfold xps
    omega
def exI (vs : List Int) (d : Nat) : Nat → Option (List Int)
  | 0 => some vs
  | j + 1 => match exI vs d j with
    | none => none
    | some l => if valB (l ++ [xps l d (d + 1)]) then some (l ++ [xps l d (d + 1)]) else none
theorem exI_none {vs : List Int} {d i j : Nat} (h : exI vs d i = none) (hij : i ≤ j) : exI vs d j = none := by
  induction hij with
  | refl => exact h
  | step _ ih => unfold exI; rw [ih]
theorem exI_step {vs l : List Int} {d j : Nat} (h : exI vs d j = some l) : exI vs d (j + 1) = if valB (l ++ [xps l d (d + 1)]) then some (l ++ [xps l d (d + 1)]) else none := by
  conv => lhs; unfold exI
  rw [h]
def extR (vs : List Int) (d m : Int) : List Int × Int :=
  if valB vs then (if inB d 0 8 && inB m 0 30 then (if hasDeg vs d.toNat && decide (d.toNat < vs.length) then (match exI vs d.toNat m.toNat with | some l => (l, 0) | none => ([], 5)) else ([], 6)) else ([], 2)) else ([], 1)
theorem exI_val {vs : List Int} (hv : valB vs = true) {d : Nat} : ∀ j l, exI vs d j = some l → valB l = true ∧ vs.length ≤ l.length := by
  intro j
  induction j with
  | zero => intro l h; injection h with h; rw [← h]; exact ⟨hv, Nat.le_refl _⟩
  | succ j ih =>
    intro l h
    cases e : exI vs d j with
    | none => unfold exI at h; rw [e] at h; cases h
    | some m =>
      rw [exI_step e] at h
      have i := ih m e
      split at h
      · rename_i g; injection h with h; rw [← h]; exact ⟨g, by simp; omega⟩
      · cases h
theorem extR_len (vs : List Int) (d m : Int) : (extR vs d m).1.length ≤ 1000 := by
  unfold extR
  split
  · rename_i hv
    split
    · split
      · split
        · rename_i l e; have := (valB_parts (exI_val hv _ _ e).1).2.2; show l.length ≤ _; omega
        · simp
      · simp
    · simp
  · simp
set_option maxHeartbeats 4000000 in
theorem impl_ExtendTable {B : Nat} {v : Value} {zs : List Int} (d m : Int) (w : World) (h : Own w B v zs) :
    Calls Try.prog 33 #[v, .int .i64 d, .int .i64 m] w (RetOwnI w (extR zs d m).1 (extR zs d m).2) := by
  have HO := Lib.hid h
  obtain ⟨av, capv, rfl, hm, -⟩ := own_form h
  clear h
  cases hv : valB zs
  · rw [show extR zs d m = ([], 1) from by simp [extR, hv]]
    go_enter Try.func33, Try.ntmps33
    go_wp2_with fail
    refine (impl_areValues _ HO.out).mono ?_; rintro e w' ⟨rfl, rfl⟩; rw [hv]
    go_wp2_with fail
    go_ret2
    exact ⟨_, rfl, own_nil, Below.refl _ _⟩
  cases hn : inB d 0 8
  · rw [show extR zs d m = ([], 2) from by simp [extR, hv, hn]]
    go_enter Try.func33, Try.ntmps33
    go_wp2_with fail
    refine (impl_areValues _ HO.out).mono ?_; rintro e w' ⟨rfl, rfl⟩; rw [hv]
    go_wp2_with fail
    refine (impl_isDegree _ _).mono ?_; rintro e w' ⟨rfl, rfl⟩; rw [hn]
    go_wp2_with fail
    go_ret2
    exact ⟨_, rfl, own_nil, Below.refl _ _⟩
  cases hmm : inB m 0 30
  · rw [show extR zs d m = ([], 2) from by simp [extR, hv, hmm]]
    go_enter Try.func33, Try.ntmps33
    go_wp2_with fail
    refine (impl_areValues _ HO.out).mono ?_; rintro e w' ⟨rfl, rfl⟩; rw [hv]
    go_wp2_with fail
    refine (impl_isDegree _ _).mono ?_; rintro e w' ⟨rfl, rfl⟩; rw [hn]
    go_wp2_with fail
    refine (impl_between _ _ _ _).mono ?_; rintro e w' ⟨rfl, rfl⟩; rw [hmm]
    go_wp2_with fail
    go_ret2
    exact ⟨_, rfl, own_nil, Below.refl _ _⟩
  obtain ⟨n0, n1⟩ := inB_iff.1 hn
  obtain ⟨m0, m1⟩ := inB_iff.1 hmm
  obtain ⟨-, hl1, hl⟩ := valB_parts hv
  have HBD := Lib.hid (fitsV hv)
  obtain ⟨d, rfl⟩ := Int.eq_ofNat_of_zero_le n0
  cases hd : hasDeg zs d
  · rw [show extR zs d m = ([], 6) from by simp [extR, hv, hn, hmm, hd]]
    have HH := Lib.hid hd; clear hd
    go_enter Try.func33, Try.ntmps33
    go_wp2_with fail
    refine (impl_areValues _ HO.out).mono ?_; rintro e w' ⟨rfl, rfl⟩; rw [hv]
    go_wp2_with fail
    refine (impl_isDegree _ _).mono ?_; rintro e w' ⟨rfl, rfl⟩; rw [hn]
    go_wp2_with fail
    refine (impl_between _ _ _ _).mono ?_; rintro e w' ⟨rfl, rfl⟩; rw [hmm]
    go_wp2_with fail
    refine (impl_hasDegree _ _ HO.out (by omega) (by omega) hl HBD.out).mono ?_; rintro e w1 ⟨rfl, b1⟩
    rw [Int.toNat_natCast, HH.out]
    have B1 := Lib.hid b1; clear b1
    go_wp2_with fail
    go_ret2
    exact ⟨_, rfl, own_nil, B1.out⟩
  by_cases hlt : d < zs.length
  rotate_left
  · rw [show extR zs d m = ([], 6) from by simp [extR, hv, hn, hmm, hd]; omega]
    have HH := Lib.hid hd; clear hd
    go_enter Try.func33, Try.ntmps33
    go_wp2_with fail
    refine (impl_areValues _ HO.out).mono ?_; rintro e w' ⟨rfl, rfl⟩; rw [hv]
    go_wp2_with fail
    refine (impl_isDegree _ _).mono ?_; rintro e w' ⟨rfl, rfl⟩; rw [hn]
    go_wp2_with fail
    refine (impl_between _ _ _ _).mono ?_; rintro e w' ⟨rfl, rfl⟩; rw [hmm]
    go_wp2_with fail
    refine (impl_hasDegree _ _ HO.out (by omega) (by omega) hl HBD.out).mono ?_; rintro e w1 ⟨rfl, b1⟩
    rw [Int.toNat_natCast, HH.out]
    have B1 := Lib.hid b1; clear b1
    go_wp2_with fail
    go_ret2
    exact ⟨_, rfl, own_nil, B1.out⟩
  have HR := Lib.hid (show extR zs d m = (match exI zs d m.toNat with | some l => (l, 0) | none => ([], 5)) from by simp [extR, hv, hn, hmm, hd, hlt])
  have HH := Lib.hid hd; clear hd
  have HV := Lib.hid hv; clear hv
  go_enter Try.func33, Try.ntmps33
  go_wp2_with fail
  refine (impl_areValues _ HO.out).mono ?_; rintro e w' ⟨rfl, rfl⟩; rw [HV.out]
  go_wp2_with fail
  refine (impl_isDegree _ _).mono ?_; rintro e w' ⟨rfl, rfl⟩; rw [hn]
  go_wp2_with fail
  refine (impl_between _ _ _ _).mono ?_; rintro e w' ⟨rfl, rfl⟩; rw [hmm]
  go_wp2_with fail
  refine (impl_hasDegree _ _ HO.out (by omega) (by omega) hl HBD.out).mono ?_; rintro e w1 ⟨rfl, b1⟩
  rw [Int.toNat_natCast, HH.out]
  have B1 := Lib.hid b1; have HO1 := Lib.hid (own_keep b1 HO.out); clear b1
  go_wp2_with fail
  refine (impl_copyNumbers _ HO1.out (by omega)).mono ?_; rintro e w2 ⟨v2, rfl, o2, b2⟩
  have O2 := Lib.hid (own_base o2 B1.out.size); have B2 := Lib.hid (Below.trans_size B1.out b2); clear o2 b2
  have S2 := B2.out.size
  go_wp2_with fail
  go_loopw [8, 9, 10, 11, 36] (fun o _ _ _ i wr => ∃ (j : Nat) (l : List Int), (j : Int) ≤ m ∧ i = .int .i64 j ∧ Own wr w.heap.size o l ∧ Below w.heap.size w wr ∧ w.heap.size ≤ wr.heap.size ∧ Hid (exI zs d j = some l) ∧ Hid (valB l = true) ∧ d < l.length) (fun _ _ _ _ i _ => (100 - intOf i).toNat)
  case atStart => exact ⟨0, zs, by omega, by first | rfl | simp, O2.out, B2.out, S2, rfl, HV.out, hlt⟩
  case round =>
    obtain ⟨j, l, hj, rfl, ho, hbw, hs, hex, hvl, hdl⟩ := hrel
    by_cases hjm : (j : Int) < m
    · obtain ⟨hbl, -, hl30⟩ := valB_parts hvl.out
      have HBL := Lib.hid hbl; clear hbl
      have HST := Lib.hid (exI_step hex.out)
      obtain ⟨wo, hwo⟩ : ∃ wo : World, wo = wr := ⟨_, rfl⟩
      subst hwo
      obtain ⟨a, cap, rfl, hm2, hc⟩ := own_form ho
      have HC := Lib.hid hc; have HOO := Lib.hid ho; have HBW := Lib.hid hbw; clear hc ho hbw
      go_wp2_with fail
      go_loopw [9, 10, 11] (fun x s jj wx => ∃ (k : Nat) (X SG : Int), k ≤ d + 1 ∧ jj = .int .i64 ((k : Int) + 1) ∧ x = .int .i64 X ∧ s = .int .i64 SG ∧ -2000000000000 ≤ X ∧ X ≤ 2000000000000 ∧ -1 ≤ SG ∧ SG ≤ 1 ∧ Hid (SG = sg (k + 1)) ∧ Hid (X = xps l d k) ∧ ∃ nn, wx = wo.drewN nn) (fun _ _ jj _ => (100 - intOf jj).toNat)
      case atStart => exact ⟨0, 0, 1, by omega, rfl, rfl, rfl, by omega, by omega, by omega, by omega, rfl, rfl, 0, rfl⟩
      case round =>
        obtain ⟨k, X, SG, hk, rfl, rfl, rfl, x0, x1, g0, g1, hSG, hX, nn, rfl⟩ := hrel
        by_cases hkd : k ≤ d
        · obtain ⟨b0, b1⟩ := bin9 (n := (d : Int) + 1) (k := (k : Int) + 1) (by omega) (by omega) (by omega) (by omega)
          obtain ⟨y0, y1⟩ := nth_bd HBL.out (j := l.length - (k + 1)) (by omega)
          obtain ⟨t0, t1, t2, t3⟩ := term_bd (show SG = 1 ∨ SG = -1 by rw [hSG.out]; exact sg_bd _) b0 b1 y0 y1
          obtain ⟨g, rfl, qc⟩ := HC.out (l.length - (k + 1)) (by omega)
          have K := Lib.hid (fun wx => impl_binomial ((d : Int) + 1) ((k : Int) + 1) wx (by omega) (by omega) (by omega) (by omega))
          have HXN := Lib.hid (show X + SG * binOf ((d : Int) + 1) ((k : Int) + 1) * nth l (l.length - (k + 1)) = xps l d (k + 1) from by rw [hX.out, hSG.out]; rfl)
          have xb := xps_bd HBL.out (show d ≤ 8 by omega) hdl (k + 1) (by omega)
          have XB := Lib.hid xb; clear xb
          have HSN := Lib.hid (show -SG = sg (k + 1 + 1) from by rw [hSG.out, sg_succ (k + 1)])
          have w1 : IntKind.i64.wrap ((d : Int) + 1) = (d : Int) + 1 := IntWalk.i64_in _ (by omega)
          have w2 : IntKind.i64.wrap (SG * binOf ((d : Int) + 1) ((k : Int) + 1)) = SG * binOf ((d : Int) + 1) ((k : Int) + 1) := IntWalk.i64_in _ (by omega)
          have w3 : IntKind.i64.wrap ((l.length : Int) - ((k : Int) + 1)) = (l.length : Int) - ((k : Int) + 1) := IntWalk.i64_in _ (by omega)
          have w4 : IntKind.i64.wrap (SG * binOf ((d : Int) + 1) ((k : Int) + 1) * nth l (l.length - (k + 1))) = SG * binOf ((d : Int) + 1) ((k : Int) + 1) * nth l (l.length - (k + 1)) := IntWalk.i64_in _ (by omega)
          have w5 : IntKind.i64.wrap (X + SG * binOf ((d : Int) + 1) ((k : Int) + 1) * nth l (l.length - (k + 1))) = X + SG * binOf ((d : Int) + 1) ((k : Int) + 1) * nth l (l.length - (k + 1)) := IntWalk.i64_in _ (by omega)
          have i0 : (0 : Int) ≤ (l.length : Int) - ((k : Int) + 1) := by omega
          have i1 : (l.length : Int) - ((k : Int) + 1) < (l.length : Int) := by omega
          have i2 : ((l.length : Int) - ((k : Int) + 1)).toNat = l.length - (k + 1) := by omega
          go_wp2
          go_quiet ((go_at_call 60; exact quiet_same2 (K.out _)))
          clear w1 w2 w3 w4 w5 i0 i1 i2
          go_wp2
          go_roundw
          case rel => exact ⟨k + 1, X + SG * binOf ((d : Int) + 1) ((k : Int) + 1) * nth l (l.length - (k + 1)), -SG, by omega, by go_num, rfl, rfl, by have := HXN.out; have := XB.out; omega, by have := HXN.out; have := XB.out; omega, by omega, by omega, HSN.out, HXN.out, _, rfl⟩
          case measure => first | (simp [intOf]; done) | (simp [intOf]; omega)
        · obtain rfl : k = d + 1 := by omega
          have HOD := Lib.hid (own_keep (below_drewN wo nn) HOO.out)
          have HBD2 := Lib.hid (HBW.out.trans ((below_drewN wo nn).mono hs))
          have HXX := Lib.hid (show l ++ [X] = l ++ [xps l d (d + 1)] from by rw [hX.out])
          go_wp2_with (at_builtin; refine wp_app rfl _ _ rfl _ _ (own_alloc (own_drewN HOO.out nn) _) rfl rfl (cell_drewN wo nn X _) (by omega) (sz_drewN hs _ nn) ?_; intro v' w9 ho' hg')
          obtain ⟨hb', hs'⟩ := app_below HBD2.out HOD.out hg' (Nat.le_refl _) hs
          rw [HXX.out] at ho'
          have O9 := Lib.hid ho'; have B9 := Lib.hid hb'; clear ho' hb' hg'
          cases hk9 : valB (l ++ [xps l d (d + 1)])
          · have HF := Lib.hid (show extR zs d m = ([], 5) from by rw [HR.out, exI_none (show exI zs d (j + 1) = none by rw [HST.out, hk9]; rfl) (show j + 1 ≤ m.toNat by omega)])
            have HK := Lib.hid hk9; clear hk9
            go_wp2_with fail
            refine (impl_areValues _ O9.out).mono ?_; rintro e w' ⟨rfl, rfl⟩; rw [HK.out]
            go_wp2_with fail
            go_ret2
            exact ⟨_, by rw [HF.out]; rfl, by rw [HF.out]; exact own_nil, B9.out⟩
          · have HE := Lib.hid (show exI zs d (j + 1) = some (l ++ [xps l d (d + 1)]) by rw [HST.out, hk9]; rfl)
            have HK := Lib.hid hk9; clear hk9
            go_wp2_with fail
            refine (impl_areValues _ O9.out).mono ?_; rintro e w' ⟨rfl, rfl⟩; rw [HK.out]
            go_wp2_with fail
            go_roundw
            case rel => exact ⟨j + 1, l ++ [xps l d (d + 1)], by omega, by first | go_num | (congr 1; omega), O9.out, B9.out, hs', HE.out, HK.out, by simp; omega⟩
            case measure => first | (simp [intOf]; done) | (simp [intOf]; omega)
    · have HF := Lib.hid (show extR zs d m = (l, 0) from by rw [HR.out, show m.toNat = j from by omega, hex.out])
      have HOO := Lib.hid ho; have HBW := Lib.hid hbw; clear ho hbw
      go_wp2
      go_ret2
      exact ⟨_, by rw [HF.out]; rfl, by rw [HF.out]; exact HOO.out, HBW.out⟩
set_option maxHeartbeats 4000000 in
theorem spec_ExtendTable {B : Nat} {v : Value} {zs : List Int} (d m : Int) (w : World) (h : Own w B v zs) :
    Calls Try.prog 32 #[v, .int .i64 d, .int .i64 m] w (RetOwnI w (extR zs d m).1 (extR zs d m).2) := by
  have HO := Lib.hid h
  obtain ⟨av, capv, rfl, hm, -⟩ := own_form h
  clear h
  cases hv : valB zs
  · rw [show extR zs d m = ([], 1) from by simp [extR, hv]]
    go_enter Try.func32, Try.ntmps32
    go_wp2_with fail
    refine (spec_l15Values _ HO.out).mono ?_; rintro e w' ⟨rfl, rfl⟩; rw [hv]
    go_wp2_with fail
    go_ret2
    exact ⟨_, rfl, own_nil, Below.refl _ _⟩
  cases hn : inB d 0 8
  · rw [show extR zs d m = ([], 2) from by simp [extR, hv, hn]]
    go_enter Try.func32, Try.ntmps32
    go_wp2_with fail
    refine (spec_l15Values _ HO.out).mono ?_; rintro e w' ⟨rfl, rfl⟩; rw [hv]
    go_wp2_with fail
    refine (spec_l00In _ _ _ _).mono ?_; rintro e w' ⟨rfl, rfl⟩; rw [hn]
    go_wp2_with fail
    go_ret2
    exact ⟨_, rfl, own_nil, Below.refl _ _⟩
  cases hmm : inB m 0 30
  · rw [show extR zs d m = ([], 2) from by simp [extR, hv, hmm]]
    go_enter Try.func32, Try.ntmps32
    go_wp2_with fail
    refine (spec_l15Values _ HO.out).mono ?_; rintro e w' ⟨rfl, rfl⟩; rw [hv]
    go_wp2_with fail
    refine (spec_l00In _ _ _ _).mono ?_; rintro e w' ⟨rfl, rfl⟩; rw [hn]
    go_wp2_with fail
    refine (spec_l00In _ _ _ _).mono ?_; rintro e w' ⟨rfl, rfl⟩; rw [hmm]
    go_wp2_with fail
    go_ret2
    exact ⟨_, rfl, own_nil, Below.refl _ _⟩
  obtain ⟨n0, n1⟩ := inB_iff.1 hn
  obtain ⟨m0, m1⟩ := inB_iff.1 hmm
  obtain ⟨-, hl1, hl⟩ := valB_parts hv
  have HBD := Lib.hid (fitsV hv)
  obtain ⟨d, rfl⟩ := Int.eq_ofNat_of_zero_le n0
  by_cases hlt : d < zs.length
  rotate_left
  · rw [show extR zs d m = ([], 6) from by simp [extR, hv, hn, hmm]; omega]
    go_enter Try.func32, Try.ntmps32
    go_wp2_with fail
    refine (spec_l15Values _ HO.out).mono ?_; rintro e w' ⟨rfl, rfl⟩; rw [hv]
    go_wp2_with fail
    refine (spec_l00In _ _ _ _).mono ?_; rintro e w' ⟨rfl, rfl⟩; rw [hn]
    go_wp2_with fail
    refine (spec_l00In _ _ _ _).mono ?_; rintro e w' ⟨rfl, rfl⟩; rw [hmm]
    go_wp2_with fail
    go_ret2
    exact ⟨_, rfl, own_nil, Below.refl _ _⟩
  cases hd : hasDeg zs d
  · rw [show extR zs d m = ([], 6) from by simp [extR, hv, hn, hmm, hd]]
    have HH := Lib.hid hd; clear hd
    go_enter Try.func32, Try.ntmps32
    go_wp2_with fail
    refine (spec_l15Values _ HO.out).mono ?_; rintro e w' ⟨rfl, rfl⟩; rw [hv]
    go_wp2_with fail
    refine (spec_l00In _ _ _ _).mono ?_; rintro e w' ⟨rfl, rfl⟩; rw [hn]
    go_wp2_with fail
    refine (spec_l00In _ _ _ _).mono ?_; rintro e w' ⟨rfl, rfl⟩; rw [hmm]
    go_wp2_with fail
    refine (spec_l15Has _ _ HO.out (by omega) (by omega) hl HBD.out).mono ?_; rintro e w1 ⟨rfl, b1⟩
    rw [Int.toNat_natCast, HH.out]
    have B1 := Lib.hid b1; clear b1
    go_wp2_with fail
    go_ret2
    exact ⟨_, rfl, own_nil, B1.out⟩
  have HR := Lib.hid (show extR zs d m = (match exI zs d m.toNat with | some l => (l, 0) | none => ([], 5)) from by simp [extR, hv, hn, hmm, hd, hlt])
  have HH := Lib.hid hd; clear hd
  have HV := Lib.hid hv; clear hv
  go_enter Try.func32, Try.ntmps32
  go_wp2_with fail
  refine (spec_l15Values _ HO.out).mono ?_; rintro e w' ⟨rfl, rfl⟩; rw [HV.out]
  go_wp2_with fail
  refine (spec_l00In _ _ _ _).mono ?_; rintro e w' ⟨rfl, rfl⟩; rw [hn]
  go_wp2_with fail
  refine (spec_l00In _ _ _ _).mono ?_; rintro e w' ⟨rfl, rfl⟩; rw [hmm]
  go_wp2_with fail
  refine (spec_l15Has _ _ HO.out (by omega) (by omega) hl HBD.out).mono ?_; rintro e w1 ⟨rfl, b1⟩
  rw [Int.toNat_natCast, HH.out]
  have B1 := Lib.hid b1; have HO1 := Lib.hid (own_keep b1 HO.out); clear b1
  go_wp2_with fail
  refine (spec_l00Own _ HO1.out (by omega)).mono ?_; rintro e w2 ⟨v2, rfl, o2, b2⟩
  have O2 := Lib.hid (own_base o2 B1.out.size); have B2 := Lib.hid (Below.trans_size B1.out b2); clear o2 b2
  have S2 := B2.out.size
  go_wp2_with fail
  go_loopw [2, 8, 9, 10, 11, 12] (fun i o _ _ _ _ wr => ∃ (j : Nat) (l : List Int), (j : Int) ≤ m ∧ i = .int .i64 (m - j) ∧ Own wr w.heap.size o l ∧ Below w.heap.size w wr ∧ w.heap.size ≤ wr.heap.size ∧ Hid (exI zs d j = some l) ∧ Hid (valB l = true) ∧ d < l.length) (fun i _ _ _ _ _ _ => (intOf i).toNat)
  case atStart => exact ⟨0, zs, by omega, by first | rfl | simp, O2.out, B2.out, S2, rfl, HV.out, hlt⟩
  case round =>
    obtain ⟨j, l, hj, rfl, ho, hbw, hs, hex, hvl, hdl⟩ := hrel
    by_cases hjm : (j : Int) < m
    · obtain ⟨hbl, -, hl30⟩ := valB_parts hvl.out
      have HBL := Lib.hid hbl; clear hbl
      have HST := Lib.hid (exI_step hex.out)
      obtain ⟨wo, hwo⟩ : ∃ wo : World, wo = wr := ⟨_, rfl⟩
      subst hwo
      obtain ⟨a, cap, rfl, hm2, hc⟩ := own_form ho
      have HC := Lib.hid hc; have HOO := Lib.hid ho; have HBW := Lib.hid hbw; clear hc ho hbw
      go_wp2_with fail
      go_loop [9, 11, 12] (fun x jj _ => ∃ (k : Nat) (X : Int), k ≤ d + 1 ∧ jj = .int .i64 ((k : Int) + 1) ∧ x = .int .i64 X ∧ -2000000000000 ≤ X ∧ X ≤ 2000000000000 ∧ Hid (X = xps l d k)) (fun _ jj _ => (100 - intOf jj).toNat)
      case atStart => exact ⟨0, 0, by omega, rfl, rfl, by omega, by omega, rfl⟩
      case round =>
        obtain ⟨k, X, hk, rfl, rfl, x0, x1, hX⟩ := hrel
        by_cases hkd : k ≤ d
        · obtain ⟨b0, b1⟩ := bin9 (n := (d : Int) + 1) (k := (k : Int) + 1) (by omega) (by omega) (by omega) (by omega)
          obtain ⟨y0, y1⟩ := nth_bd HBL.out (j := l.length - (k + 1)) (by omega)
          obtain ⟨g, rfl, qc⟩ := HC.out (l.length - (k + 1)) (by omega)
          have xb := xps_bd HBL.out (show d ≤ 8 by omega) hdl (k + 1) (by omega)
          have XB := Lib.hid xb; clear xb
          have i0 : (0 : Int) ≤ (l.length : Int) - ((k : Int) + 1) := by omega
          have i1 : (l.length : Int) - ((k : Int) + 1) < (l.length : Int) := by omega
          have i2 : ((l.length : Int) - ((k : Int) + 1)).toNat = l.length - (k + 1) := by omega
          by_cases ev : (k + 1) % 2 = 0
          · have e0 : ((((k : Int) + 1) % 2) == 0) = true := by simp; omega
            obtain ⟨t0, t1, t2, t3⟩ := term_bd (S := -1) (.inr rfl) b0 b1 y0 y1
            rw [Int.neg_mul, Int.one_mul] at t0 t1 t2 t3
            have HXN := Lib.hid (show X + -binOf ((d : Int) + 1) ((k : Int) + 1) * nth l (l.length - (k + 1)) = xps l d (k + 1) from by
              rw [hX.out]; show _ = xps l d k + sg (k + 1) * _ * _; rw [show sg (k + 1) = -1 from if_pos ev, show (-1 : Int) * binOf ((d : Int) + 1) ((k : Int) + 1) = -binOf ((d : Int) + 1) ((k : Int) + 1) from by rw [Int.neg_mul, Int.one_mul]])
            have EV := Lib.hid ev; clear ev
            go_wp2_with (go_at_call 59; refine (spec_l15Binomial _ _ _ (by omega) (by omega) (by omega) (by omega)).mono ?_; rintro e w' ⟨rfl, rfl⟩)
            go_round
            case rel => exact ⟨k + 1, X + -binOf ((d : Int) + 1) ((k : Int) + 1) * nth l (l.length - (k + 1)), by omega, by go_num, by first | rfl | (congr 1; rw [Int.neg_mul]; omega), by have := HXN.out; have := XB.out; omega, by have := HXN.out; have := XB.out; omega, HXN.out⟩
            case measure => first | (simp [intOf]; done) | (simp [intOf]; omega)
          · have e0 : ((((k : Int) + 1) % 2) == 0) = false := by simp; omega
            obtain ⟨t0, t1, t2, t3⟩ := term_bd (S := 1) (.inl rfl) b0 b1 y0 y1
            rw [Int.one_mul] at t0 t1 t2 t3
            have HXN := Lib.hid (show X + binOf ((d : Int) + 1) ((k : Int) + 1) * nth l (l.length - (k + 1)) = xps l d (k + 1) from by
              rw [hX.out]; show _ = xps l d k + sg (k + 1) * _ * _; rw [show sg (k + 1) = 1 from if_neg ev, Int.one_mul])
            have EV := Lib.hid ev; clear ev
            go_wp2_with (go_at_call 59; refine (spec_l15Binomial _ _ _ (by omega) (by omega) (by omega) (by omega)).mono ?_; rintro e w' ⟨rfl, rfl⟩)
            go_round
            case rel => exact ⟨k + 1, X + binOf ((d : Int) + 1) ((k : Int) + 1) * nth l (l.length - (k + 1)), by omega, by go_num, rfl, by have := HXN.out; have := XB.out; omega, by have := HXN.out; have := XB.out; omega, HXN.out⟩
            case measure => first | (simp [intOf]; done) | (simp [intOf]; omega)
        · obtain rfl : k = d + 1 := by omega
          have HXX := Lib.hid (show l ++ [X] = l ++ [xps l d (d + 1)] from by rw [hX.out])
          go_wp2_with (at_builtin; refine wp_app rfl _ _ rfl _ _ (own_alloc HOO.out _) rfl rfl (by simp; rfl) (by omega) (by simp; omega) ?_; intro v' w9 ho' hg')
          obtain ⟨hb', hs'⟩ := app_below HBW.out HOO.out hg' (Nat.le_refl _) hs
          rw [HXX.out] at ho'
          have O9 := Lib.hid ho'; have B9 := Lib.hid hb'; clear ho' hb' hg'
          cases hk9 : valB (l ++ [xps l d (d + 1)])
          · have HF := Lib.hid (show extR zs d m = ([], 5) from by rw [HR.out, exI_none (show exI zs d (j + 1) = none by rw [HST.out, hk9]; rfl) (show j + 1 ≤ m.toNat by omega)])
            have HK := Lib.hid hk9; clear hk9
            go_wp2_with fail
            refine (spec_l15Values _ O9.out).mono ?_; rintro e w' ⟨rfl, rfl⟩; rw [HK.out]
            go_wp2_with fail
            go_ret2
            exact ⟨_, by rw [HF.out]; rfl, by rw [HF.out]; exact own_nil, B9.out⟩
          · have HE := Lib.hid (show exI zs d (j + 1) = some (l ++ [xps l d (d + 1)]) by rw [HST.out, hk9]; rfl)
            have HK := Lib.hid hk9; clear hk9
            go_wp2_with fail
            refine (spec_l15Values _ O9.out).mono ?_; rintro e w' ⟨rfl, rfl⟩; rw [HK.out]
            go_wp2_with fail
            go_roundw
            case rel => exact ⟨j + 1, l ++ [xps l d (d + 1)], by omega, by first | go_num | (congr 1; omega), O9.out, B9.out, hs', HE.out, HK.out, by simp; omega⟩
            case measure => first | (simp [intOf]; done) | (simp [intOf]; omega)
    · have HF := Lib.hid (show extR zs d m = (l, 0) from by rw [HR.out, show m.toNat = j from by omega, hex.out])
      have HOO := Lib.hid ho; have HBW := Lib.hid hbw; clear ho hbw
      go_wp2
      go_ret2
      exact ⟨_, by rw [HF.out]; rfl, by rw [HF.out]; exact HOO.out, HBW.out⟩
end Go.Proofs.Ytgmgdjdpmjmmhaa
