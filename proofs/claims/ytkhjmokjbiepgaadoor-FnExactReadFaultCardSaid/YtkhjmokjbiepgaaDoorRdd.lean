/- ReadDecimal of both packages. -/
import Derived.IntWalk
import Derived.Test.YtkhjmokjbiepgaaDoorDcm
namespace Go.Proofs.YtkhjmokjbiepgaaDoor
open Go.ChangeShapes Go.WideShapes Go.ChangeAt Go.RowKit
def isD (c : UInt8) : Bool := inB (c.toNat : Int) 48 57
def valF (t : List UInt8) : Nat := t.foldl (fun a c => 10 * a + (c.toNat - 48)) 0
def minusB (l : List UInt8) : Bool := match l with | c :: _ => decide (c.toNat = 45) | [] => false
def digL (l : List UInt8) : List UInt8 := if minusB l then l.drop 1 else l
def valI (l : List UInt8) : Int := if minusB l then -(valF (digL l) : Int) else (valF (digL l) : Int)
def numB (l : List UInt8) : Bool := decide (1 ≤ (digL l).length ∧ (digL l).length ≤ 18) && ((digL l).all isD && decide (Lib.itoa (valI l) = l))
def numV (l : List UInt8) : Int := if numB l then valI l else 0
theorem valF_snoc (t : List UInt8) (c : UInt8) : valF (t ++ [c]) = 10 * valF t + (c.toNat - 48) := by simp [valF]
theorem valF_gen : ∀ (t : List UInt8) (a : Nat), t.all isD = true → t.foldl (fun a c => 10 * a + (c.toNat - 48)) a < (a + 1) * 10 ^ t.length := by
  intro t
  induction t with
  | nil => intro a _; simp
  | cons c t ih =>
    intro a h
    rw [List.all_cons, Bool.and_eq_true] at h
    have hc := inB_iff.1 (show inB (c.toNat : Int) 48 57 = true from h.1)
    have := ih (10 * a + (c.toNat - 48)) h.2
    rw [List.foldl_cons, List.length_cons, Nat.pow_succ]
    have h2 : (10 * a + (c.toNat - 48) + 1) * 10 ^ t.length ≤ ((a + 1) * 10) * 10 ^ t.length := Nat.mul_le_mul_right _ (by omega)
    rw [Nat.mul_comm (10 ^ t.length) 10, ← Nat.mul_assoc]
    omega
theorem valF_bd (t : List UInt8) (h : t.all isD = true) : valF t < 10 ^ t.length := by
  have := valF_gen t 0 h
  rwa [Nat.zero_add, Nat.one_mul] at this
theorem take_snocB (D : ByteArray) (k : Nat) (h : k < D.size) : D.data.toList.take (k + 1) = D.data.toList.take k ++ [D[k]] := by
  rw [List.take_succ_eq_append_getElem (by simpa using h)]; rfl
theorem valF_small {t : List UInt8} (h : t.all isD = true) (hl : t.length ≤ 18) : valF t < 1000000000000000000 := by
  have := valF_bd t h
  have h2 : 10 ^ t.length ≤ 10 ^ 18 := Nat.pow_le_pow_right (by omega) hl
  omega
theorem numB_bad {l : List UInt8} (h : ¬ (1 ≤ (digL l).length ∧ (digL l).length ≤ 18)) : numB l = false := by unfold numB; rw [decide_eq_false h]; rfl
theorem numB_dig {l : List UInt8} (h : (digL l).all isD = false) : numB l = false := by unfold numB; rw [h, Bool.false_and, Bool.and_false]
theorem numB_ok {l : List UInt8} (h1 : 1 ≤ (digL l).length) (h2 : (digL l).length ≤ 18) (h : (digL l).all isD = true) : numB l = decide (Lib.itoa (valI l) = l) := by unfold numB; rw [decide_eq_true ⟨h1, h2⟩, h]; rfl
theorem numV_no {l : List UInt8} (h : numB l = false) : numV l = 0 := by unfold numV; rw [h]; rfl
theorem numV_yes {l : List UInt8} (h : numB l = true) : numV l = valI l := by unfold numV; rw [h]; rfl
theorem all_takeB {D : ByteArray} {k : Nat} (h : k < D.size) (hp : isD D[k] = false) : D.data.toList.all isD = false := by
  rw [Bool.eq_false_iff]
  intro e
  rw [List.all_eq_true] at e
  have := e D[k] (by
    have : D.data.toList[k]'(by simpa using h) ∈ D.data.toList := List.getElem_mem _
    exact this)
  rw [hp] at this; cases this
theorem ret_nb {a c : Int} {b d : Bool} (h : a = c) (h2 : b = d) : Ending.returned (.tuple #[.int .i64 a, .bool b]) = .returned (.tuple #[.int .i64 c, .bool d]) := by rw [h, h2]
theorem minus_yes {s : ByteArray} (p : 0 < s.size) (h : (s[0]'p).toNat = 45) : minusB s.data.toList = true := by
  obtain ⟨⟨l⟩⟩ := s
  cases l with
  | nil => simp [ByteArray.size] at p
  | cons c r => exact decide_eq_true h
theorem minus_no {s : ByteArray} (p : 0 < s.size) (h : ¬ (s[0]'p).toNat = 45) : minusB s.data.toList = false := by
  obtain ⟨⟨l⟩⟩ := s
  cases l with
  | nil => simp [ByteArray.size] at p
  | cons c r => exact decide_eq_false h
theorem toList_ne {s : ByteArray} (p : 0 < s.size) : ¬ s.toList = [] := by
  rw [ByteArray.toList_eq]
  intro h
  have h2 : s.data.toList.length = 0 := by rw [h]; rfl
  rw [Array.length_toList] at h2
  have e : s.size = s.data.size := rfl
  omega
theorem extract_one (s : ByteArray) : (s.extract 1 s.size).data.toList = s.data.toList.drop 1 := by
  rw [ByteArray.data_extract, Array.toList_extract]
  simp [List.take_of_length_le]
theorem impl_isDigit (c : Int) (w : World) :
    Calls Tryd.prog 44 #[.int .u8 c] w fun e w' => e = .returned (.bool (inB c 48 57)) ∧ w = w' := by
  go_enter Tryd.func44, Tryd.ntmps44
  go_wp2
  all_goals go_ret
  all_goals (refine ⟨?_, rfl⟩)
  all_goals (simp [inB]; try omega)
theorem spec_l01Digit (c : Int) (w : World) :
    Calls Tryd.prog 43 #[.int .u8 c] w fun e w' => e = .returned (.bool (inB c 48 57)) ∧ w = w' := by
  go_enter Tryd.func43, Tryd.ntmps43
  go_wp2
  all_goals go_ret
  all_goals (refine ⟨?_, rfl⟩)
  all_goals (simp [inB]; try omega)
set_option maxHeartbeats 2000000 in
theorem impl_ReadDecimal (s : ByteArray) (w : World) (hs : s.size ≤ 1048576) (hT : TabW w) :
    Calls Tryd.prog 28 #[.string s] w (RetV w (.tuple #[.int .i64 (numV s.data.toList), .bool (numB s.data.toList)])) := by
  have HT := Lib.hid hT; clear hT
  by_cases h0 : s.size = 0
  · have HB := Lib.hid (show numB s.data.toList = false from numB_bad (by
      have e : s.data.toList = [] := List.eq_nil_of_length_eq_zero (by simpa using h0)
      rw [e]; simp [digL, minusB]))
    obtain rfl : s = ⟨#[]⟩ := ByteArray.ext (Array.eq_empty_of_size_eq_zero h0)
    clear h0 hs
    go_enter Tryd.func28, Tryd.ntmps28
    go_wp2_with fail
    go_ret2
    exact ⟨ret_nb (numV_no HB.out).symm HB.out.symm, Below.refl _ _⟩
  have p0 : 0 < s.size := by omega
  have ne1 : ¬ s.toList = [] := toList_ne p0
  have ne2 : (!s.toList.isEmpty) = true := by simp [ne1]
  have ne3 : s.toList.isEmpty = false := by simp [ne1]
  by_cases hm : (s[0]'p0).toNat = 45
  · have z1 : (((s[0]'p0).toNat : Int) == 45) = true := by simp; omega
    have HM := Lib.hid (minus_yes p0 hm)
    obtain ⟨D, hD⟩ : ∃ D, D = s.extract 1 s.size := ⟨_, rfl⟩
    have HDL := Lib.hid (show digL s.data.toList = D.data.toList from by unfold digL; rw [HM.out, if_pos rfl, hD, extract_one])
    obtain ⟨N, hN⟩ : ∃ N, N = s.size - 1 := ⟨_, rfl⟩
    have hsz : D.size = N := by rw [hD, hN]; simp
    have HVI := Lib.hid (show valI s.data.toList = -(valF D.data.toList : Int) from by unfold valI; rw [HM.out, if_pos rfl, HDL.out])
    have hlt : (N : Int) < (s.size : Int) := by omega
    have hD' := hD.symm; have hN' := hN.symm
    clear hD hN hm
    have hlen : (digL s.data.toList).length = N := by rw [HDL.out, Array.length_toList]; exact hsz
    by_cases hN0 : N = 0
    · first
        | (exfalso; omega)
        | (have HB := Lib.hid (show numB s.data.toList = false from numB_bad (by rw [hlen]; omega))
           have e0 : ((N : Int) == 0) = true := by simp; omega
           have e1 : (N : Int) < 1 := by omega
           have e1d : decide ((N : Int) < 1) = true := decide_eq_true e1
           clear hlen hN0
           go_enter Tryd.func28, Tryd.ntmps28
           go_wp2_with fail
           go_ret2
           exact ⟨ret_nb (numV_no HB.out).symm HB.out.symm, Below.refl _ _⟩)
    have e0 : ((N : Int) == 0) = false := by simp; omega
    have e1 : ¬ (N : Int) < 1 := by omega
    have e1d : decide ((N : Int) < 1) = false := decide_eq_false e1
    by_cases hN18 : 18 < N
    · have HB := Lib.hid (show numB s.data.toList = false from numB_bad (by rw [hlen]; omega))
      have e2 : (18 : Int) < (N : Int) := by omega
      have e2d : decide ((18 : Int) < (N : Int)) = true := decide_eq_true e2
      clear hlen hN0
      go_enter Tryd.func28, Tryd.ntmps28
      go_wp2_with fail
      go_ret2
      exact ⟨ret_nb (numV_no HB.out).symm HB.out.symm, Below.refl _ _⟩
    have e2 : ¬ (18 : Int) < (N : Int) := by omega
    have e2d : decide ((18 : Int) < (N : Int)) = false := decide_eq_false e2
    have HLEN := Lib.hid hlen
    clear hlen hN0
    go_enter Tryd.func28, Tryd.ntmps28
    go_wp2_with fail
    go_loop [5, 6, 28] (fun n _ kk => ∃ (k : Nat) (X : Int), k ≤ N ∧ kk = .int .i64 k ∧ n = .int .i64 X ∧ 0 ≤ X ∧ X < 1000000000000000000 ∧ Hid (X = (valF (D.data.toList.take k) : Int)) ∧ Hid ((D.data.toList.take k).all isD = true)) (fun n _ kk => N - (intOf kk).toNat)
    case atStart => exact ⟨0, 0, by omega, rfl, rfl, by omega, by omega, rfl, rfl⟩
    case round =>
      obtain ⟨k, X, hk, rfl, rfl, x0, x1, hX, hA⟩ := hrel
      by_cases hkN : k < N
      · have hkD : k < D.size := by rw [hsz]; exact hkN
        cases hd : isD (D[k]'hkD)
        · have HB := Lib.hid (show numB s.data.toList = false from numB_dig (by rw [HDL.out]; exact all_takeB hkD hd))
          have HD := Lib.hid (show inB ((D[k]'hkD).toNat : Int) 48 57 = false from hd)
          clear hd hX hA
          go_wp2_with fail
          refine (impl_isDigit _ _).mono ?_; rintro e w1 ⟨rfl, rfl⟩; rw [HD.out]
          go_wp2_with fail
          go_ret2
          exact ⟨ret_nb (numV_no HB.out).symm HB.out.symm, Below.refl _ _⟩
        · have HD := Lib.hid (show inB ((D[k]'hkD).toNat : Int) 48 57 = true from hd)
          have hcd := inB_iff.1 HD.out
          obtain ⟨c0, c1⟩ := hcd
          have hall : (D.data.toList.take (k + 1)).all isD = true := by rw [take_snocB _ _ hkD, List.all_append, hA.out]; simp [hd]
          have hv := valF_small hall (by rw [List.length_take]; omega)
          have hstep : (valF (D.data.toList.take (k + 1)) : Int) = 10 * X + (((D[k]'hkD).toNat : Int) - 48) := by rw [take_snocB _ _ hkD, valF_snoc, hX.out]; omega
          have HALL := Lib.hid hall; have HST := Lib.hid hstep
          have b0 : 10 * X + (((D[k]'hkD).toNat : Int) - 48) < 1000000000000000000 := by omega
          have v1 : IntKind.u8.wrap (((D[k]'hkD).toNat : Int) - 48) = ((D[k]'hkD).toNat : Int) - 48 := by show (((D[k]'hkD).toNat : Int) - 48) % 256 = _; omega
          have v2 : IntKind.i64.wrap (10 * X) = 10 * X := IntWalk.i64_in _ (by omega)
          have v3 : IntKind.i64.wrap (10 * X + (((D[k]'hkD).toNat : Int) - 48)) = 10 * X + (((D[k]'hkD).toNat : Int) - 48) := IntWalk.i64_in _ (by omega)
          clear hall hstep hd hv hX hA
          go_wp2_with fail
          refine (impl_isDigit _ _).mono ?_; rintro e w1 ⟨rfl, rfl⟩; rw [HD.out]
          go_wp2_with fail
          clear v1 v2 v3
          go_round
          case rel => exact ⟨k + 1, _, by omega, by go_num, rfl, by omega, b0, HST.out.symm, HALL.out⟩
          case measure => simp [intOf]; omega
      · have HALL := Lib.hid (show (digL s.data.toList).all isD = true from by rw [HDL.out]; have := hA.out; rwa [List.take_of_length_le (by rw [Array.length_toList]; show D.size ≤ k; omega)] at this)
        have HX := Lib.hid (show valI s.data.toList = -X from by rw [HVI.out, hX.out, List.take_of_length_le (by rw [Array.length_toList]; show D.size ≤ k; omega)])
        have HB := Lib.hid (numB_ok (by have := HLEN.out; omega) (by have := HLEN.out; omega) HALL.out)
        clear hX hA
        by_cases hq : Lib.itoa (-X) = s.toList
        · have HBT := Lib.hid (show numB s.data.toList = true from by rw [HB.out, HX.out]; exact decide_eq_true (hq.trans (ByteArray.toList_eq s)))
          have q1 : (!(Lib.itoa (-X) == s.toList)) = false := by simp [hq]
          have q2 : (Lib.itoa (-X) == s.toList) = true := by simp [hq]
          clear hq
          go_wp2_with fail
          refine (impl_Decimal _ _ (by omega) (by omega) HT.out).mono ?_; rintro e w1 ⟨rfl, b1⟩
          have B1 := Lib.hid b1; clear b1
          go_wp2_with fail
          go_ret2
          exact ⟨ret_nb (by rw [numV_yes HBT.out, HX.out]) HBT.out.symm, B1.out⟩
        · have HBF := Lib.hid (show numB s.data.toList = false from by rw [HB.out, HX.out]; exact decide_eq_false (fun h => hq (h.trans (ByteArray.toList_eq s).symm)))
          have q1 : (!(Lib.itoa (-X) == s.toList)) = true := by simp [hq]
          have q2 : (Lib.itoa (-X) == s.toList) = false := by simp [hq]
          clear hq
          go_wp2_with fail
          refine (impl_Decimal _ _ (by omega) (by omega) HT.out).mono ?_; rintro e w1 ⟨rfl, b1⟩
          have B1 := Lib.hid b1; clear b1
          go_wp2_with fail
          go_ret2
          exact ⟨ret_nb (numV_no HBF.out).symm HBF.out.symm, B1.out⟩
  · have z1 : (((s[0]'p0).toNat : Int) == 45) = false := by simp; omega
    have HM := Lib.hid (minus_no p0 hm)
    obtain ⟨N, hN⟩ : ∃ N, N = s.size := ⟨_, rfl⟩
    have HDL := Lib.hid (show digL s.data.toList = s.data.toList from by unfold digL; rw [HM.out]; rfl)
    have hsz : s.size = N := hN.symm
    have HVI := Lib.hid (show valI s.data.toList = (valF s.data.toList : Int) from by unfold valI; rw [HM.out, HDL.out]; rfl)
    have hlt : ¬ (N : Int) < (N : Int) := by omega
    clear hN hm
    have hlen : (digL s.data.toList).length = N := by rw [HDL.out, Array.length_toList]; exact hsz
    by_cases hN0 : N = 0
    · first
        | (exfalso; omega)
        | (have HB := Lib.hid (show numB s.data.toList = false from numB_bad (by rw [hlen]; omega))
           have e0 : ((N : Int) == 0) = true := by simp; omega
           have e1 : (N : Int) < 1 := by omega
           have e1d : decide ((N : Int) < 1) = true := decide_eq_true e1
           clear hlen hN0
           go_enter Tryd.func28, Tryd.ntmps28
           go_wp2_with fail
           go_ret2
           exact ⟨ret_nb (numV_no HB.out).symm HB.out.symm, Below.refl _ _⟩)
    have e0 : ((N : Int) == 0) = false := by simp; omega
    have e1 : ¬ (N : Int) < 1 := by omega
    have e1d : decide ((N : Int) < 1) = false := decide_eq_false e1
    by_cases hN18 : 18 < N
    · have HB := Lib.hid (show numB s.data.toList = false from numB_bad (by rw [hlen]; omega))
      have e2 : (18 : Int) < (N : Int) := by omega
      have e2d : decide ((18 : Int) < (N : Int)) = true := decide_eq_true e2
      clear hlen hN0
      go_enter Tryd.func28, Tryd.ntmps28
      go_wp2_with fail
      go_ret2
      exact ⟨ret_nb (numV_no HB.out).symm HB.out.symm, Below.refl _ _⟩
    have e2 : ¬ (18 : Int) < (N : Int) := by omega
    have e2d : decide ((18 : Int) < (N : Int)) = false := decide_eq_false e2
    have HLEN := Lib.hid hlen
    clear hlen hN0
    go_enter Tryd.func28, Tryd.ntmps28
    go_wp2_with fail
    go_loop [5, 6, 28] (fun n _ kk => ∃ (k : Nat) (X : Int), k ≤ N ∧ kk = .int .i64 k ∧ n = .int .i64 X ∧ 0 ≤ X ∧ X < 1000000000000000000 ∧ Hid (X = (valF (s.data.toList.take k) : Int)) ∧ Hid ((s.data.toList.take k).all isD = true)) (fun n _ kk => N - (intOf kk).toNat)
    case atStart => exact ⟨0, 0, by omega, rfl, rfl, by omega, by omega, rfl, rfl⟩
    case round =>
      obtain ⟨k, X, hk, rfl, rfl, x0, x1, hX, hA⟩ := hrel
      by_cases hkN : k < N
      · have hkD : k < s.size := by rw [hsz]; exact hkN
        cases hd : isD (s[k]'hkD)
        · have HB := Lib.hid (show numB s.data.toList = false from numB_dig (by rw [HDL.out]; exact all_takeB hkD hd))
          have HD := Lib.hid (show inB ((s[k]'hkD).toNat : Int) 48 57 = false from hd)
          clear hd hX hA
          go_wp2_with fail
          refine (impl_isDigit _ _).mono ?_; rintro e w1 ⟨rfl, rfl⟩; rw [HD.out]
          go_wp2_with fail
          go_ret2
          exact ⟨ret_nb (numV_no HB.out).symm HB.out.symm, Below.refl _ _⟩
        · have HD := Lib.hid (show inB ((s[k]'hkD).toNat : Int) 48 57 = true from hd)
          have hcd := inB_iff.1 HD.out
          obtain ⟨c0, c1⟩ := hcd
          have hall : (s.data.toList.take (k + 1)).all isD = true := by rw [take_snocB _ _ hkD, List.all_append, hA.out]; simp [hd]
          have hv := valF_small hall (by rw [List.length_take]; omega)
          have hstep : (valF (s.data.toList.take (k + 1)) : Int) = 10 * X + (((s[k]'hkD).toNat : Int) - 48) := by rw [take_snocB _ _ hkD, valF_snoc, hX.out]; omega
          have HALL := Lib.hid hall; have HST := Lib.hid hstep
          have b0 : 10 * X + (((s[k]'hkD).toNat : Int) - 48) < 1000000000000000000 := by omega
          have v1 : IntKind.u8.wrap (((s[k]'hkD).toNat : Int) - 48) = ((s[k]'hkD).toNat : Int) - 48 := by show (((s[k]'hkD).toNat : Int) - 48) % 256 = _; omega
          have v2 : IntKind.i64.wrap (10 * X) = 10 * X := IntWalk.i64_in _ (by omega)
          have v3 : IntKind.i64.wrap (10 * X + (((s[k]'hkD).toNat : Int) - 48)) = 10 * X + (((s[k]'hkD).toNat : Int) - 48) := IntWalk.i64_in _ (by omega)
          clear hall hstep hd hv hX hA
          go_wp2_with fail
          refine (impl_isDigit _ _).mono ?_; rintro e w1 ⟨rfl, rfl⟩; rw [HD.out]
          go_wp2_with fail
          clear v1 v2 v3
          go_round
          case rel => exact ⟨k + 1, _, by omega, by go_num, rfl, by omega, b0, HST.out.symm, HALL.out⟩
          case measure => simp [intOf]; omega
      · have HALL := Lib.hid (show (digL s.data.toList).all isD = true from by rw [HDL.out]; have := hA.out; rwa [List.take_of_length_le (by rw [Array.length_toList]; show s.size ≤ k; omega)] at this)
        have HX := Lib.hid (show valI s.data.toList = X from by rw [HVI.out, hX.out, List.take_of_length_le (by rw [Array.length_toList]; show s.size ≤ k; omega)])
        have HB := Lib.hid (numB_ok (by have := HLEN.out; omega) (by have := HLEN.out; omega) HALL.out)
        clear hX hA
        by_cases hq : Lib.itoa (X) = s.toList
        · have HBT := Lib.hid (show numB s.data.toList = true from by rw [HB.out, HX.out]; exact decide_eq_true (hq.trans (ByteArray.toList_eq s)))
          have q1 : (!(Lib.itoa (X) == s.toList)) = false := by simp [hq]
          have q2 : (Lib.itoa (X) == s.toList) = true := by simp [hq]
          clear hq
          go_wp2_with fail
          refine (impl_Decimal _ _ (by omega) (by omega) HT.out).mono ?_; rintro e w1 ⟨rfl, b1⟩
          have B1 := Lib.hid b1; clear b1
          go_wp2_with fail
          go_ret2
          exact ⟨ret_nb (by rw [numV_yes HBT.out, HX.out]) HBT.out.symm, B1.out⟩
        · have HBF := Lib.hid (show numB s.data.toList = false from by rw [HB.out, HX.out]; exact decide_eq_false (fun h => hq (h.trans (ByteArray.toList_eq s).symm)))
          have q1 : (!(Lib.itoa (X) == s.toList)) = true := by simp [hq]
          have q2 : (Lib.itoa (X) == s.toList) = false := by simp [hq]
          clear hq
          go_wp2_with fail
          refine (impl_Decimal _ _ (by omega) (by omega) HT.out).mono ?_; rintro e w1 ⟨rfl, b1⟩
          have B1 := Lib.hid b1; clear b1
          go_wp2_with fail
          go_ret2
          exact ⟨ret_nb (numV_no HBF.out).symm HBF.out.symm, B1.out⟩
set_option maxHeartbeats 2000000 in
theorem spec_l01Number (s : ByteArray) (w : World) (hs : s.size ≤ 1048576) :
    Calls Tryd.prog 24 #[.string s] w (RetV w (.tuple #[.int .i64 (numV s.data.toList), .bool (numB s.data.toList)])) := by
  by_cases h0 : s.size = 0
  · have HB := Lib.hid (show numB s.data.toList = false from numB_bad (by
      have e : s.data.toList = [] := List.eq_nil_of_length_eq_zero (by simpa using h0)
      rw [e]; simp [digL, minusB]))
    obtain rfl : s = ⟨#[]⟩ := ByteArray.ext (Array.eq_empty_of_size_eq_zero h0)
    clear h0 hs
    go_enter Tryd.func24, Tryd.ntmps24
    go_wp2_with fail
    go_ret2
    exact ⟨ret_nb (numV_no HB.out).symm HB.out.symm, Below.refl _ _⟩
  have p0 : 0 < s.size := by omega
  have ne1 : ¬ s.toList = [] := toList_ne p0
  have ne2 : (!s.toList.isEmpty) = true := by simp [ne1]
  have ne3 : s.toList.isEmpty = false := by simp [ne1]
  by_cases hm : (s[0]'p0).toNat = 45
  · have z1 : (((s[0]'p0).toNat : Int) == 45) = true := by simp; omega
    have HM := Lib.hid (minus_yes p0 hm)
    obtain ⟨D, hD⟩ : ∃ D, D = s.extract 1 s.size := ⟨_, rfl⟩
    have HDL := Lib.hid (show digL s.data.toList = D.data.toList from by unfold digL; rw [HM.out, if_pos rfl, hD, extract_one])
    obtain ⟨N, hN⟩ : ∃ N, N = s.size - 1 := ⟨_, rfl⟩
    have hsz : D.size = N := by rw [hD, hN]; simp
    have HVI := Lib.hid (show valI s.data.toList = -(valF D.data.toList : Int) from by unfold valI; rw [HM.out, if_pos rfl, HDL.out])
    have hlt : (N : Int) < (s.size : Int) := by omega
    have hD' := hD.symm; have hN' := hN.symm
    clear hD hN hm
    have hlen : (digL s.data.toList).length = N := by rw [HDL.out, Array.length_toList]; exact hsz
    by_cases hN0 : N = 0
    · first
        | (exfalso; omega)
        | (have HB := Lib.hid (show numB s.data.toList = false from numB_bad (by rw [hlen]; omega))
           have e0 : ((N : Int) == 0) = true := by simp; omega
           have e1 : (N : Int) < 1 := by omega
           have e1d : decide ((N : Int) < 1) = true := decide_eq_true e1
           clear hlen hN0
           go_enter Tryd.func24, Tryd.ntmps24
           go_wp2_with fail
           go_ret2
           exact ⟨ret_nb (numV_no HB.out).symm HB.out.symm, Below.refl _ _⟩)
    have e0 : ((N : Int) == 0) = false := by simp; omega
    have e1 : ¬ (N : Int) < 1 := by omega
    have e1d : decide ((N : Int) < 1) = false := decide_eq_false e1
    by_cases hN18 : 18 < N
    · have HB := Lib.hid (show numB s.data.toList = false from numB_bad (by rw [hlen]; omega))
      have e2 : (18 : Int) < (N : Int) := by omega
      have e2d : decide ((18 : Int) < (N : Int)) = true := decide_eq_true e2
      clear hlen hN0
      go_enter Tryd.func24, Tryd.ntmps24
      go_wp2_with fail
      go_ret2
      exact ⟨ret_nb (numV_no HB.out).symm HB.out.symm, Below.refl _ _⟩
    have e2 : ¬ (18 : Int) < (N : Int) := by omega
    have e2d : decide ((18 : Int) < (N : Int)) = false := decide_eq_false e2
    have HLEN := Lib.hid hlen
    clear hlen hN0
    go_enter Tryd.func24, Tryd.ntmps24
    go_wp2_with fail
    go_loop [5, 6] (fun n kk => ∃ (k : Nat) (X : Int), k ≤ N ∧ kk = .int .i64 k ∧ n = .int .i64 X ∧ 0 ≤ X ∧ X < 1000000000000000000 ∧ Hid (X = (valF (D.data.toList.take k) : Int)) ∧ Hid ((D.data.toList.take k).all isD = true)) (fun n kk => N - (intOf kk).toNat)
    case atStart => exact ⟨0, 0, by omega, rfl, rfl, by omega, by omega, rfl, rfl⟩
    case round =>
      obtain ⟨k, X, hk, rfl, rfl, x0, x1, hX, hA⟩ := hrel
      by_cases hkN : k < N
      · have hkD : k < D.size := by rw [hsz]; exact hkN
        cases hd : isD (D[k]'hkD)
        · have HB := Lib.hid (show numB s.data.toList = false from numB_dig (by rw [HDL.out]; exact all_takeB hkD hd))
          have HD := Lib.hid (show inB ((D[k]'hkD).toNat : Int) 48 57 = false from hd)
          clear hd hX hA
          go_wp2_with fail
          refine (spec_l01Digit _ _).mono ?_; rintro e w1 ⟨rfl, rfl⟩; rw [HD.out]
          go_wp2_with fail
          go_ret2
          exact ⟨ret_nb (numV_no HB.out).symm HB.out.symm, Below.refl _ _⟩
        · have HD := Lib.hid (show inB ((D[k]'hkD).toNat : Int) 48 57 = true from hd)
          have hcd := inB_iff.1 HD.out
          obtain ⟨c0, c1⟩ := hcd
          have hall : (D.data.toList.take (k + 1)).all isD = true := by rw [take_snocB _ _ hkD, List.all_append, hA.out]; simp [hd]
          have hv := valF_small hall (by rw [List.length_take]; omega)
          have hstep : (valF (D.data.toList.take (k + 1)) : Int) = 10 * X + (((D[k]'hkD).toNat : Int) - 48) := by rw [take_snocB _ _ hkD, valF_snoc, hX.out]; omega
          have HALL := Lib.hid hall; have HST := Lib.hid hstep
          have b0 : 10 * X + (((D[k]'hkD).toNat : Int) - 48) < 1000000000000000000 := by omega
          have v1 : IntKind.u8.wrap (((D[k]'hkD).toNat : Int) - 48) = ((D[k]'hkD).toNat : Int) - 48 := by show (((D[k]'hkD).toNat : Int) - 48) % 256 = _; omega
          have v2 : IntKind.i64.wrap (10 * X) = 10 * X := IntWalk.i64_in _ (by omega)
          have v3 : IntKind.i64.wrap (10 * X + (((D[k]'hkD).toNat : Int) - 48)) = 10 * X + (((D[k]'hkD).toNat : Int) - 48) := IntWalk.i64_in _ (by omega)
          clear hall hstep hd hv hX hA
          go_wp2_with fail
          refine (spec_l01Digit _ _).mono ?_; rintro e w1 ⟨rfl, rfl⟩; rw [HD.out]
          go_wp2_with fail
          clear v1 v2 v3
          go_round
          case rel => exact ⟨k + 1, _, by omega, by go_num, rfl, by omega, b0, HST.out.symm, HALL.out⟩
          case measure => simp [intOf]; omega
      · have HALL := Lib.hid (show (digL s.data.toList).all isD = true from by rw [HDL.out]; have := hA.out; rwa [List.take_of_length_le (by rw [Array.length_toList]; show D.size ≤ k; omega)] at this)
        have HX := Lib.hid (show valI s.data.toList = -X from by rw [HVI.out, hX.out, List.take_of_length_le (by rw [Array.length_toList]; show D.size ≤ k; omega)])
        have HB := Lib.hid (numB_ok (by have := HLEN.out; omega) (by have := HLEN.out; omega) HALL.out)
        clear hX hA
        by_cases hq : Lib.itoa (-X) = s.toList
        · have HBT := Lib.hid (show numB s.data.toList = true from by rw [HB.out, HX.out]; exact decide_eq_true (hq.trans (ByteArray.toList_eq s)))
          have q1 : (!(Lib.itoa (-X) == s.toList)) = false := by simp [hq]
          have q2 : (Lib.itoa (-X) == s.toList) = true := by simp [hq]
          clear hq
          go_wp2_with fail
          refine (spec_l01Dec _ _ (by omega) (by omega)).mono ?_; rintro e w1 ⟨rfl, b1⟩
          have B1 := Lib.hid b1; clear b1
          go_wp2_with fail
          go_ret2
          exact ⟨ret_nb (by rw [numV_yes HBT.out, HX.out]) HBT.out.symm, B1.out⟩
        · have HBF := Lib.hid (show numB s.data.toList = false from by rw [HB.out, HX.out]; exact decide_eq_false (fun h => hq (h.trans (ByteArray.toList_eq s).symm)))
          have q1 : (!(Lib.itoa (-X) == s.toList)) = true := by simp [hq]
          have q2 : (Lib.itoa (-X) == s.toList) = false := by simp [hq]
          clear hq
          go_wp2_with fail
          refine (spec_l01Dec _ _ (by omega) (by omega)).mono ?_; rintro e w1 ⟨rfl, b1⟩
          have B1 := Lib.hid b1; clear b1
          go_wp2_with fail
          go_ret2
          exact ⟨ret_nb (numV_no HBF.out).symm HBF.out.symm, B1.out⟩
  · have z1 : (((s[0]'p0).toNat : Int) == 45) = false := by simp; omega
    have HM := Lib.hid (minus_no p0 hm)
    obtain ⟨N, hN⟩ : ∃ N, N = s.size := ⟨_, rfl⟩
    have HDL := Lib.hid (show digL s.data.toList = s.data.toList from by unfold digL; rw [HM.out]; rfl)
    have hsz : s.size = N := hN.symm
    have HVI := Lib.hid (show valI s.data.toList = (valF s.data.toList : Int) from by unfold valI; rw [HM.out, HDL.out]; rfl)
    have hlt : ¬ (N : Int) < (N : Int) := by omega
    clear hN hm
    have hlen : (digL s.data.toList).length = N := by rw [HDL.out, Array.length_toList]; exact hsz
    by_cases hN0 : N = 0
    · first
        | (exfalso; omega)
        | (have HB := Lib.hid (show numB s.data.toList = false from numB_bad (by rw [hlen]; omega))
           have e0 : ((N : Int) == 0) = true := by simp; omega
           have e1 : (N : Int) < 1 := by omega
           have e1d : decide ((N : Int) < 1) = true := decide_eq_true e1
           clear hlen hN0
           go_enter Tryd.func24, Tryd.ntmps24
           go_wp2_with fail
           go_ret2
           exact ⟨ret_nb (numV_no HB.out).symm HB.out.symm, Below.refl _ _⟩)
    have e0 : ((N : Int) == 0) = false := by simp; omega
    have e1 : ¬ (N : Int) < 1 := by omega
    have e1d : decide ((N : Int) < 1) = false := decide_eq_false e1
    by_cases hN18 : 18 < N
    · have HB := Lib.hid (show numB s.data.toList = false from numB_bad (by rw [hlen]; omega))
      have e2 : (18 : Int) < (N : Int) := by omega
      have e2d : decide ((18 : Int) < (N : Int)) = true := decide_eq_true e2
      clear hlen hN0
      go_enter Tryd.func24, Tryd.ntmps24
      go_wp2_with fail
      go_ret2
      exact ⟨ret_nb (numV_no HB.out).symm HB.out.symm, Below.refl _ _⟩
    have e2 : ¬ (18 : Int) < (N : Int) := by omega
    have e2d : decide ((18 : Int) < (N : Int)) = false := decide_eq_false e2
    have HLEN := Lib.hid hlen
    clear hlen hN0
    go_enter Tryd.func24, Tryd.ntmps24
    go_wp2_with fail
    go_loop [5, 6] (fun n kk => ∃ (k : Nat) (X : Int), k ≤ N ∧ kk = .int .i64 k ∧ n = .int .i64 X ∧ 0 ≤ X ∧ X < 1000000000000000000 ∧ Hid (X = (valF (s.data.toList.take k) : Int)) ∧ Hid ((s.data.toList.take k).all isD = true)) (fun n kk => N - (intOf kk).toNat)
    case atStart => exact ⟨0, 0, by omega, rfl, rfl, by omega, by omega, rfl, rfl⟩
    case round =>
      obtain ⟨k, X, hk, rfl, rfl, x0, x1, hX, hA⟩ := hrel
      by_cases hkN : k < N
      · have hkD : k < s.size := by rw [hsz]; exact hkN
        cases hd : isD (s[k]'hkD)
        · have HB := Lib.hid (show numB s.data.toList = false from numB_dig (by rw [HDL.out]; exact all_takeB hkD hd))
          have HD := Lib.hid (show inB ((s[k]'hkD).toNat : Int) 48 57 = false from hd)
          clear hd hX hA
          go_wp2_with fail
          refine (spec_l01Digit _ _).mono ?_; rintro e w1 ⟨rfl, rfl⟩; rw [HD.out]
          go_wp2_with fail
          go_ret2
          exact ⟨ret_nb (numV_no HB.out).symm HB.out.symm, Below.refl _ _⟩
        · have HD := Lib.hid (show inB ((s[k]'hkD).toNat : Int) 48 57 = true from hd)
          have hcd := inB_iff.1 HD.out
          obtain ⟨c0, c1⟩ := hcd
          have hall : (s.data.toList.take (k + 1)).all isD = true := by rw [take_snocB _ _ hkD, List.all_append, hA.out]; simp [hd]
          have hv := valF_small hall (by rw [List.length_take]; omega)
          have hstep : (valF (s.data.toList.take (k + 1)) : Int) = 10 * X + (((s[k]'hkD).toNat : Int) - 48) := by rw [take_snocB _ _ hkD, valF_snoc, hX.out]; omega
          have HALL := Lib.hid hall; have HST := Lib.hid hstep
          have b0 : 10 * X + (((s[k]'hkD).toNat : Int) - 48) < 1000000000000000000 := by omega
          have v1 : IntKind.u8.wrap (((s[k]'hkD).toNat : Int) - 48) = ((s[k]'hkD).toNat : Int) - 48 := by show (((s[k]'hkD).toNat : Int) - 48) % 256 = _; omega
          have v2 : IntKind.i64.wrap (10 * X) = 10 * X := IntWalk.i64_in _ (by omega)
          have v3 : IntKind.i64.wrap (10 * X + (((s[k]'hkD).toNat : Int) - 48)) = 10 * X + (((s[k]'hkD).toNat : Int) - 48) := IntWalk.i64_in _ (by omega)
          clear hall hstep hd hv hX hA
          go_wp2_with fail
          refine (spec_l01Digit _ _).mono ?_; rintro e w1 ⟨rfl, rfl⟩; rw [HD.out]
          go_wp2_with fail
          clear v1 v2 v3
          go_round
          case rel => exact ⟨k + 1, _, by omega, by go_num, rfl, by omega, b0, HST.out.symm, HALL.out⟩
          case measure => simp [intOf]; omega
      · have HALL := Lib.hid (show (digL s.data.toList).all isD = true from by rw [HDL.out]; have := hA.out; rwa [List.take_of_length_le (by rw [Array.length_toList]; show s.size ≤ k; omega)] at this)
        have HX := Lib.hid (show valI s.data.toList = X from by rw [HVI.out, hX.out, List.take_of_length_le (by rw [Array.length_toList]; show s.size ≤ k; omega)])
        have HB := Lib.hid (numB_ok (by have := HLEN.out; omega) (by have := HLEN.out; omega) HALL.out)
        clear hX hA
        by_cases hq : Lib.itoa (X) = s.toList
        · have HBT := Lib.hid (show numB s.data.toList = true from by rw [HB.out, HX.out]; exact decide_eq_true (hq.trans (ByteArray.toList_eq s)))
          have q1 : (!(Lib.itoa (X) == s.toList)) = false := by simp [hq]
          have q2 : (Lib.itoa (X) == s.toList) = true := by simp [hq]
          clear hq
          go_wp2_with fail
          refine (spec_l01Dec _ _ (by omega) (by omega)).mono ?_; rintro e w1 ⟨rfl, b1⟩
          have B1 := Lib.hid b1; clear b1
          go_wp2_with fail
          go_ret2
          exact ⟨ret_nb (by rw [numV_yes HBT.out, HX.out]) HBT.out.symm, B1.out⟩
        · have HBF := Lib.hid (show numB s.data.toList = false from by rw [HB.out, HX.out]; exact decide_eq_false (fun h => hq (h.trans (ByteArray.toList_eq s).symm)))
          have q1 : (!(Lib.itoa (X) == s.toList)) = true := by simp [hq]
          have q2 : (Lib.itoa (X) == s.toList) = false := by simp [hq]
          clear hq
          go_wp2_with fail
          refine (spec_l01Dec _ _ (by omega) (by omega)).mono ?_; rintro e w1 ⟨rfl, b1⟩
          have B1 := Lib.hid b1; clear b1
          go_wp2_with fail
          go_ret2
          exact ⟨ret_nb (numV_no HBF.out).symm HBF.out.symm, B1.out⟩
end Go.Proofs.YtkhjmokjbiepgaaDoor
