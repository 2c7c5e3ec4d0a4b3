/- TurnsText of both packages. -/
import Derived.IntWalk
import Derived.Test.YtkhjmokjbiepgaaDoorTns
import Derived.Test.YtkhjmokjbiepgaaDoorDcm
namespace Go.Proofs.YtkhjmokjbiepgaaDoor
open Go.ChangeShapes Go.WideShapes Go.ChangeAt Go.RowKit
def ttF (xs : List Int) : Nat → List UInt8
  | 0 => []
  | j + 1 => ttF xs j ++ (if 0 ≤ nth xs (xs.length - (j + 1)) then [43] else []) ++ Lib.itoa (nth xs (xs.length - (j + 1)))
def ttR (b : Int) (xs : List Int) : List UInt8 := if validT b xs then (if xs.length = 0 then [48] else ttF xs xs.length) else []
theorem str_appT (a b : List UInt8) : (⟨a.toArray⟩ : ByteArray) ++ ⟨b.toArray⟩ = ⟨(a ++ b).toArray⟩ := by rw [ByteArray.mk_append_mk]
theorem itoa_ne (n : Int) : 0 < (Lib.itoa n).length := by
  unfold Lib.itoa
  split
  · simp
  · rw [Lib.decDigits_length]; exact Lib.nDigits_pos _
theorem ttF_pos (xs : List Int) {j : Nat} (h : ¬ j = 0) : 0 < (ttF xs j).length := by
  obtain ⟨i, rfl⟩ : ∃ i, j = i + 1 := ⟨j - 1, by omega⟩
  show 0 < (ttF xs i ++ _ ++ _).length
  have := itoa_ne (nth xs (xs.length - (i + 1)))
  rw [List.length_append]; omega
theorem ttR_len (b : Int) (xs : List Int) : (ttR b xs).length ≤ 4000 := by
  have key : ∀ j, j ≤ xs.length → allT xs = true → (ttF xs j).length ≤ 23 * j := by
    intro j
    induction j with
    | zero => intro _ _; exact Nat.le_refl _
    | succ j ih =>
      intro hj ha
      have t := inB_iff.1 (all_get ha (j := xs.length - (j + 1)) (by omega))
      have l := Lib.itoa_length_le (nth xs (xs.length - (j + 1))) (by omega) (by omega)
      have i := ih (by omega) ha
      show (ttF xs j ++ _ ++ _).length ≤ _
      rw [List.length_append, List.length_append]
      split <;> simp <;> omega
  unfold ttR
  split
  · rename_i h
    obtain ⟨-, l, a, -⟩ := validT_parts h
    split
    · simp
    · have := key _ (Nat.le_refl _) a; omega
  · simp
set_option maxHeartbeats 1000000 in
theorem impl_TurnsText {B : Nat} {v : Value} {xs : List Int} (b : Int) (w : World) (h : Own w B v xs) (hlen : xs.length ≤ 1048576) (hT : TabW w) :
    Calls Tryd.prog 13 #[.agg #[.int .i64 b, v]] w (RetV w (.string ⟨(ttR b xs).toArray⟩)) := by
  have HO := Lib.hid h
  obtain ⟨a1, c1, rfl, m1, q1⟩ := own_form h
  have QQ := Lib.hid q1; clear q1 h
  have HT := Lib.hid hT; clear hT
  cases hv : validT b xs
  · have HR := Lib.hid (show ttR b xs = [] from by simp [ttR, hv])
    have HV := Lib.hid hv; clear hv
    go_enter Tryd.func13, Tryd.ntmps13
    go_wp2_with fail
    refine (impl_ValidTurns b _ (own_alloc HO.out _) hlen).mono ?_; rintro e w1 ⟨rfl, b1⟩; rw [HV.out]
    have BW := Lib.hid (blk1 b1).2.1; clear b1
    go_wp2_with fail
    go_ret
    exact ⟨str_eq HR.out.symm, BW.out⟩
  have HV := Lib.hid hv
  obtain ⟨-, l40, ha, -⟩ := validT_parts hv
  have HA := Lib.hid ha
  have HR := Lib.hid (show ttR b xs = if xs.length = 0 then [48] else ttF xs xs.length from by simp [ttR, hv])
  clear hv ha
  by_cases h0 : xs.length = 0
  · have HR0 := Lib.hid (show ttR b xs = [48] from by rw [HR.out, if_pos h0])
    have hz : ((xs.length : Int) == 0) = true := by simp; exact List.eq_nil_of_length_eq_zero h0
    clear h0
    go_enter Tryd.func13, Tryd.ntmps13
    go_wp2_with fail
    refine (impl_ValidTurns b _ (own_alloc HO.out _) hlen).mono ?_; rintro e w1 ⟨rfl, b1⟩; rw [HV.out]
    obtain ⟨y1, bw, -, -⟩ := blk1 b1
    have z0 := cell_blk y1 0; have z1 := cell_blk y1 1
    have BW := Lib.hid bw; clear b1 bw y1
    go_wp2_with fail
    go_ret
    exact ⟨str_eq HR0.out.symm, BW.out⟩
  have HR0 := Lib.hid (show ttR b xs = ttF xs xs.length from by rw [HR.out, if_neg h0])
  have hz : ((xs.length : Int) == 0) = false := by simp; intro e; rw [e] at h0; simp at h0
  go_enter Tryd.func13, Tryd.ntmps13
  go_wp2_with fail
  refine (impl_ValidTurns b _ (own_alloc HO.out _) hlen).mono ?_; rintro e w1 ⟨rfl, b1⟩; rw [HV.out]
  obtain ⟨y1, bw, s1, -⟩ := blk1 b1
  have Z0 := Lib.hid (cell_blk y1 0); have Z1 := Lib.hid (cell_blk y1 1)
  have z0 := Z0.out; have z1 := Z1.out
  have lt0 : w.heap.size < w1.heap.size := by omega
  have BW := Lib.hid bw
  have HT1 := Lib.hid (tab_keep HT.out bw)
  clear b1 bw y1
  go_wp2_with fail
  clear z0 z1 hz
  go_loopw [3, 4] (fun s k wr => ∃ (j : Nat) (T : List UInt8), j ≤ xs.length ∧ k = .int .i64 ((xs.length : Int) - 1 - j) ∧ s = .string ⟨T.toArray⟩ ∧ T.length ≤ 23 * j ∧ Hid (T = ttF xs j) ∧ Below w1.heap.size w1 wr) (fun _ k _ => (intOf k + 1).toNat)
  case atStart => exact ⟨0, [], by omega, by simp, rfl, Nat.le_refl _, rfl, Below.refl _ _⟩
  case round =>
    obtain ⟨j, T, hj, rfl, rfl, hTl, hTT, hbw⟩ := hrel
    have HB := Lib.hid hbw
    have z0 := (hbw.cell lt0).trans Z0.out; have z1 := (hbw.cell lt0).trans Z1.out
    have ltr : w.heap.size < wr.heap.size := Nat.lt_of_lt_of_le lt0 hbw.size
    clear hbw
    by_cases hlt : j < xs.length
    · obtain ⟨g, rfl, qc⟩ := QQ.out (xs.length - (j + 1)) (by omega)
      have gl0 : g < w.heap.size := World.block_lt_of_cell? w _ qc
      have gl1 : g < w1.heap.size := by omega
      have q2 := (HB.out.cell (p := ⟨g, xs.length - (j + 1), none⟩) gl1).trans ((BW.out.cell (p := ⟨g, xs.length - (j + 1), none⟩) gl0).trans qc)
      have t0 := inB_iff.1 (all_get HA.out (j := xs.length - (j + 1)) (by omega))
      obtain ⟨tl, th⟩ := t0
      have i0 : (0 : Int) ≤ (xs.length : Int) - 1 - (j : Int) := by omega
      have i1 : (xs.length : Int) - 1 - (j : Int) < (xs.length : Int) := by omega
      have i2 : ((xs.length : Int) - 1 - (j : Int)).toNat = xs.length - (j + 1) := by omega
      have hil := Lib.itoa_length_le (nth xs (xs.length - (j + 1))) (by omega) (by omega)
      have HN := Lib.hid (show ttF xs (j + 1) = T ++ (if 0 ≤ nth xs (xs.length - (j + 1)) then [43] else []) ++ Lib.itoa (nth xs (xs.length - (j + 1))) from by rw [hTT.out]; rfl)
      generalize nth xs (xs.length - (j + 1)) = n at *
      clear qc hTT
      by_cases hn : 0 ≤ n
      · rw [if_pos hn] at HN
        go_wp2_with fail
        refine (impl_Decimal _ _ (by omega) (by omega) (tab_keep HT1.out HB.out)).mono ?_; rintro e w2 ⟨rfl, b2⟩
        have B2 := Lib.hid (Below.trans_size HB.out b2); clear b2 z0 z1 q2
        go_wp2_with fail
        go_roundw
        case rel => exact ⟨j + 1, _, by omega, by go_num, by rw [str_appT, str_appT], by simp; omega, HN.out.symm, B2.out⟩
        case measure => simp [intOf]; omega
      · rw [if_neg hn] at HN
        go_wp2_with fail
        refine (impl_Decimal _ _ (by omega) (by omega) (tab_keep HT1.out HB.out)).mono ?_; rintro e w2 ⟨rfl, b2⟩
        have B2 := Lib.hid (Below.trans_size HB.out b2); clear b2 z0 z1 q2
        go_wp2_with fail
        go_roundw
        case rel => exact ⟨j + 1, _, by omega, by go_num, by rw [str_appT], by simp; omega, (HN.out.trans (by rw [List.append_nil])).symm, B2.out⟩
        case measure => simp [intOf]; omega
    · obtain rfl : j = xs.length := by omega
      go_wp2_with fail
      go_ret
      exact ⟨str_eq (by rw [HR0.out, hTT.out]), Below.trans_size BW.out HB.out⟩
set_option maxHeartbeats 1000000 in
theorem spec_TurnsText {B : Nat} {v : Value} {xs : List Int} (b : Int) (w : World) (h : Own w B v xs) (hlen : xs.length ≤ 1048576) :
    Calls Tryd.prog 11 #[.agg #[.int .i64 b, v]] w (RetV w (.string ⟨(ttR b xs).toArray⟩)) := by
  have HO := Lib.hid h
  obtain ⟨a1, c1, rfl, m1, q1⟩ := own_form h
  have QQ := Lib.hid q1; clear q1 h
  cases hv : validT b xs
  · have HR := Lib.hid (show ttR b xs = [] from by simp [ttR, hv])
    have HV := Lib.hid hv; clear hv
    go_enter Tryd.func11, Tryd.ntmps11
    go_wp2_with fail
    refine (spec_l13Ok b _ _ (own_alloc HO.out _) (cell_blk (heap_last _ _) 0) (cell_blk (heap_last _ _) 1) hlen).mono ?_; rintro e w1 ⟨rfl, b1⟩; rw [HV.out]
    have BW := Lib.hid (blk1 b1).2.1; clear b1
    go_wp2_with fail
    go_ret
    exact ⟨str_eq HR.out.symm, BW.out⟩
  have HV := Lib.hid hv
  obtain ⟨-, l40, ha, -⟩ := validT_parts hv
  have HA := Lib.hid ha
  have HR := Lib.hid (show ttR b xs = if xs.length = 0 then [48] else ttF xs xs.length from by simp [ttR, hv])
  clear hv ha
  go_enter Tryd.func11, Tryd.ntmps11
  go_wp2_with fail
  refine (spec_l13Ok b _ _ (own_alloc HO.out _) (cell_blk (heap_last _ _) 0) (cell_blk (heap_last _ _) 1) hlen).mono ?_; rintro e w1 ⟨rfl, b1⟩; rw [HV.out]
  obtain ⟨y1, bw, s1, -⟩ := blk1 b1
  have Z0 := Lib.hid (cell_blk y1 0); have Z1 := Lib.hid (cell_blk y1 1)
  have z0 := Z0.out; have z1 := Z1.out
  have lt0 : w.heap.size < w1.heap.size := by omega
  have BW := Lib.hid bw
  clear b1 bw y1
  go_wp2_with fail
  clear z0 z1
  go_loopw [3, 4] (fun s k wr => ∃ (j : Nat) (T : List UInt8), j ≤ xs.length ∧ k = .int .i64 ((xs.length : Int) - 1 - j) ∧ s = .string ⟨T.toArray⟩ ∧ T.length ≤ 23 * j ∧ Hid (T = ttF xs j) ∧ Below w1.heap.size w1 wr) (fun _ k _ => (intOf k + 1).toNat)
  case atStart => exact ⟨0, [], by omega, by simp, rfl, Nat.le_refl _, rfl, Below.refl _ _⟩
  case round =>
    obtain ⟨j, T, hj, rfl, rfl, hTl, hTT, hbw⟩ := hrel
    have HB := Lib.hid hbw
    have z0 := (hbw.cell lt0).trans Z0.out; have z1 := (hbw.cell lt0).trans Z1.out
    have ltr : w.heap.size < wr.heap.size := Nat.lt_of_lt_of_le lt0 hbw.size
    clear hbw
    by_cases hlt : j < xs.length
    · obtain ⟨g, rfl, qc⟩ := QQ.out (xs.length - (j + 1)) (by omega)
      have gl0 : g < w.heap.size := World.block_lt_of_cell? w _ qc
      have gl1 : g < w1.heap.size := by omega
      have q2 := (HB.out.cell (p := ⟨g, xs.length - (j + 1), none⟩) gl1).trans ((BW.out.cell (p := ⟨g, xs.length - (j + 1), none⟩) gl0).trans qc)
      have t0 := inB_iff.1 (all_get HA.out (j := xs.length - (j + 1)) (by omega))
      obtain ⟨tl, th⟩ := t0
      have i0 : (0 : Int) ≤ (xs.length : Int) - 1 - (j : Int) := by omega
      have i1 : (xs.length : Int) - 1 - (j : Int) < (xs.length : Int) := by omega
      have i2 : ((xs.length : Int) - 1 - (j : Int)).toNat = xs.length - (j + 1) := by omega
      have hil := Lib.itoa_length_le (nth xs (xs.length - (j + 1))) (by omega) (by omega)
      have HN := Lib.hid (show ttF xs (j + 1) = T ++ (if 0 ≤ nth xs (xs.length - (j + 1)) then [43] else []) ++ Lib.itoa (nth xs (xs.length - (j + 1))) from by rw [hTT.out]; rfl)
      generalize nth xs (xs.length - (j + 1)) = n at *
      clear qc hTT
      by_cases hn : 0 ≤ n
      · rw [if_pos hn] at HN
        go_wp2_with fail
        refine (spec_l01Dec _ _ (by omega) (by omega)).mono ?_; rintro e w2 ⟨rfl, b2⟩
        have B2 := Lib.hid (Below.trans_size HB.out b2); clear b2 z0 z1 q2
        go_wp2_with fail
        go_roundw
        case rel => exact ⟨j + 1, _, by omega, by go_num, by rw [str_appT, str_appT], by simp; omega, HN.out.symm, B2.out⟩
        case measure => simp [intOf]; omega
      · rw [if_neg hn] at HN
        go_wp2_with fail
        refine (spec_l01Dec _ _ (by omega) (by omega)).mono ?_; rintro e w2 ⟨rfl, b2⟩
        have B2 := Lib.hid (Below.trans_size HB.out b2); clear b2 z0 z1 q2
        go_wp2_with fail
        go_roundw
        case rel => exact ⟨j + 1, _, by omega, by go_num, by rw [str_appT], by simp; omega, (HN.out.trans (by rw [List.append_nil])).symm, B2.out⟩
        case measure => simp [intOf]; omega
    · have hj2 : j = xs.length := by omega
      by_cases h0 : j = 0
      · subst h0
        have HR0 := Lib.hid (show ttR b xs = [48] from by rw [HR.out, if_pos hj2.symm])
        obtain rfl : T = [] := List.eq_nil_of_length_eq_zero (by omega)
        clear hj2
        go_wp2_with fail
        go_ret
        exact ⟨str_eq HR0.out.symm, Below.trans_size BW.out HB.out⟩
      · have HR0 := Lib.hid (show ttR b xs = T from by rw [HR.out, if_neg (by omega), hTT.out, hj2])
        have hp : 0 < T.length := by rw [hTT.out]; exact ttF_pos xs h0
        obtain ⟨c, T', rfl⟩ : ∃ c T', T = c :: T' := by
          cases T with
          | nil => simp at hp
          | cons c T' => exact ⟨c, T', rfl⟩
        clear hj2
        go_wp2_with fail
        go_ret
        exact ⟨str_eq HR0.out.symm, Below.trans_size BW.out HB.out⟩
end Go.Proofs.YtkhjmokjbiepgaaDoor
