/- DivideProgram and SumProgram of both packages: lists of instructions that grow in a loop. -/
import Derived.IntWalk
import Derived.Test.YtaipfcbphfjgoaaGrowR
namespace Go.Proofs.Ytaipfcbphfjgoaa
open Go.ChangeShapes Go.WideShapes Go.ChangeAt Go.RowKit
def divT : Nat → List Int
  | 0 => []
  | r + 1 => [9, 0, 3, 1, 10, 0, 2, 1] ++ ((if r = 0 then [] else [5, 1]) ++ divT r)
def frontL (p : Nat) : List Int := if 1 < p then [4, (p : Int) - 1] else []
def frontN (p : Nat) : Nat := if 1 < p then 1 else 0
def divP (p : Nat) : List Int := frontL p ++ divT p
def cntT : Nat → Nat
  | 0 => 0
  | r + 1 => 4 + ((if r = 0 then 0 else 1) + cntT r)
theorem cntT_le : ∀ r, cntT r ≤ 5 * r := by
  intro r
  induction r with
  | zero => exact Nat.le_refl _
  | succ r ih => unfold cntT; split <;> omega
def divN (p : Nat) : Nat := frontN p + cntT p
theorem divT_one : divT 1 = [9, 0, 3, 1, 10, 0, 2, 1] := rfl
theorem divT_more {r : Nat} (h : r ≠ 0) : divT (r + 1) = [9, 0, 3, 1, 10, 0, 2, 1] ++ ([5, 1] ++ divT r) := by show _ ++ ((if r = 0 then [] else [5, 1]) ++ divT r) = _; rw [if_neg h]
theorem cntT_more {r : Nat} (h : r ≠ 0) : cntT (r + 1) = 4 + (1 + cntT r) := by show 4 + ((if r = 0 then 0 else 1) + cntT r) = _; rw [if_neg h]
theorem recr_len0 {w : World} {B : Nat} {v : Value} {n m : Nat} {zs : List Int} (h : OwnR w B v n zs) (e : n = m) : OwnR w B v m zs := e ▸ h
set_option maxHeartbeats 4000000 in
theorem impl_divideProgram (p : Nat) (w : World) (hp : 1 ≤ p) (hp2 : p ≤ 16) :
    Calls Try.prog 38 #[.int .i64 p] w (RetRec w (divN p) (divP p)) := by
  have hc16 := cntT_le p
  have key : ∀ (n0 : Nat) (l0 : List Int), n0 + cntT p = divN p → l0 ++ divT p = divP p → True := fun _ _ _ _ => trivial
  clear key
  by_cases h1 : 1 < p
  · have hn0 : frontN p = 1 := by simp [frontN, h1]
    have hl0 := Lib.hid (show [4, (p : Int) - 1] ++ divT p = divP p from by simp [divP, frontL, h1])
    have hN : 1 + cntT p = divN p := by unfold divN; omega
    have HO0 := Lib.hid (recr_empty w w.heap.size (Nat.le_refl _))
    have HB0 := Lib.hid ((Below.refl w.heap.size w).alloc (Nat.le_refl _) (.cells #[] 47))
    clear hn0
    go_enter Try.func38, Try.ntmps38
    go_wp2_with (at_builtin; go_loud ((refine wp_appR (t := 47) rfl _ _ rfl 1 [4, (p : Int) - 1] rfl _ (recr_alloc HO0.out _) rfl rfl (by have h := heap_last (w.alloc (.cells #[] 47)) (.cells #[.int .i64 4, .int .i64 ((p : Int) - 1)] 47); simpa using h) (by omega) (by simp; omega) ?_; intro v7 w7 ho' hg'; obtain ⟨hb', hs'⟩ := recr_below HB0.out HO0.out hg' (Nat.le_refl _) (by simp); have O7 := Lib.hid ho'; have BO7 := Lib.hid hb'; have s7 := hs'; clear ho' hb' hg' hs')))
    go_wp2_with fail
    go_loopw [3, 4, 15] (fun vv _ ii wr => ∃ (r n : Nat) (l : List Int) (v : Value), vv = v ∧ r ≤ p ∧ ii = .int .i64 ((p : Int) - r) ∧ OwnR wr w.heap.size v n l ∧ n + cntT r = divN p ∧ Below w.heap.size w wr ∧ w.heap.size ≤ wr.heap.size ∧ Hid (l ++ divT r = divP p)) (fun _ _ ii _ => p - (intOf ii).toNat)
    case atStart => exact ⟨p, 1, _, _, rfl, Nat.le_refl _, by simp, O7.out, hN, BO7.out, s7, hl0⟩
    case round =>
      obtain ⟨r, n, l, v, rfl, hr, rfl, ho, hn, hbw, hs, hf⟩ := hrel
      have hcr := cntT_le r
      obtain ⟨a, cap, rfl, -, -⟩ := recr_form ho
      have HOL := Lib.hid ho; have HBW := Lib.hid hbw; clear ho hbw
      by_cases hr0 : r = 0
      · subst hr0
        have HF := Lib.hid (show l = divP p from by have := hf.out; rwa [show divT 0 = [] from rfl, List.append_nil] at this)
        have HN := Lib.hid (show n = divN p from by have : cntT 0 = 0 := rfl; omega)
        clear hf
        go_wp2_with fail
        go_ret
        exact ⟨_, rfl, by rw [← HF.out, ← HN.out]; exact HOL.out, HBW.out⟩
      · by_cases hr1 : r = 1
        · subst hr1
          have HF := Lib.hid (show (l ++ [9, 0, 3, 1, 10, 0, 2, 1]) ++ divT 0 = divP p from by rw [← hf.out, List.append_assoc]; rfl)
          have HN := Lib.hid (show n + 4 + cntT 0 = divN p from by have : cntT 1 = 4 := rfl; have : cntT 0 = 0 := rfl; omega)
          clear hf
          go_wp2_with (at_builtin; (refine wp_appR rfl _ _ rfl 4 [9, 0, 3, 1, 10, 0, 2, 1] rfl _ (recr_alloc HOL.out _) rfl rfl (heap_last _ _) (by omega) (by simp; omega) ?_; intro v8 w8 ho' hg'; obtain ⟨hb', hs'⟩ := recr_below HBW.out HOL.out hg' (Nat.le_refl _) (by omega); have O8 := Lib.hid ho'; have BO8 := Lib.hid hb'; have s8 := hs'; clear ho' hb' hg' hs'))
          go_wp2_with fail
          go_roundw
          case rel => exact ⟨0, n + 4, _, _, rfl, by omega, by go_num, O8.out, HN.out, BO8.out, s8, HF.out⟩
          case measure => first | (simp [intOf]; done) | (simp [intOf]; omega)
        · obtain ⟨q, hq⟩ : ∃ q, r = q + 1 := ⟨r - 1, by omega⟩
          have HF := Lib.hid (show ((l ++ [9, 0, 3, 1, 10, 0, 2, 1]) ++ [5, 1]) ++ divT q = divP p from by rw [← hf.out, hq, divT_more (by omega), List.append_assoc, List.append_assoc])
          have HN := Lib.hid (show n + 4 + 1 + cntT q = divN p from by have := cntT_more (r := q) (by omega); rw [← hq] at this; omega)
          clear hf
          go_wp2_with (at_builtin; first | (refine wp_appR rfl _ _ rfl 4 [9, 0, 3, 1, 10, 0, 2, 1] rfl _ (recr_alloc HOL.out _) rfl rfl (heap_last _ _) (by omega) (by simp; omega) ?_; intro v8 w8 ho' hg'; obtain ⟨hb', hs'⟩ := recr_below HBW.out HOL.out hg' (Nat.le_refl _) (by omega); have O8 := Lib.hid ho'; have BO8 := Lib.hid hb'; have s8 := hs'; clear ho' hb' hg' hs') | (refine wp_appR rfl _ _ rfl 1 [5, 1] rfl _ (recr_alloc O8.out _) rfl rfl (heap_last _ _) (by omega) (by simp; omega) ?_; intro v9 w9 ho' hg'; obtain ⟨hb', hs'⟩ := recr_below BO8.out O8.out hg' (Nat.le_refl _) (by omega); have O9 := Lib.hid ho'; have BO9 := Lib.hid hb'; have s9 := hs'; clear ho' hb' hg' hs'))
          go_wp2_with fail
          refine ⟨⟨q, n + 4 + 1, _, _, rfl, by omega, by first | (congr 1; omega) | go_num, O9.out, HN.out, BO9.out, s9, HF.out⟩, ?_⟩
          first | (simp [intOf]; done) | (simp [intOf]; omega)
  · have hl0 := Lib.hid (show ([] : List Int) ++ divT p = divP p from by simp [divP, frontL, h1])
    have hN : 0 + cntT p = divN p := by simp [divN, frontN, h1]
    have HO0 := Lib.hid (recr_empty w w.heap.size (Nat.le_refl _))
    have HB0 := Lib.hid ((Below.refl w.heap.size w).alloc (Nat.le_refl _) (.cells #[] 47))
    go_enter Try.func38, Try.ntmps38
    go_wp2_with fail
    go_loopw [3, 4, 15] (fun vv _ ii wr => ∃ (r n : Nat) (l : List Int) (v : Value), vv = v ∧ r ≤ p ∧ ii = .int .i64 ((p : Int) - r) ∧ OwnR wr w.heap.size v n l ∧ n + cntT r = divN p ∧ Below w.heap.size w wr ∧ w.heap.size ≤ wr.heap.size ∧ Hid (l ++ divT r = divP p)) (fun _ _ ii _ => p - (intOf ii).toNat)
    case atStart => exact ⟨p, 0, _, _, rfl, Nat.le_refl _, by simp, HO0.out, hN, HB0.out, by simp, hl0⟩
    case round =>
      obtain ⟨r, n, l, v, rfl, hr, rfl, ho, hn, hbw, hs, hf⟩ := hrel
      have hcr := cntT_le r
      obtain ⟨a, cap, rfl, -, -⟩ := recr_form ho
      have HOL := Lib.hid ho; have HBW := Lib.hid hbw; clear ho hbw
      by_cases hr0 : r = 0
      · subst hr0
        have HF := Lib.hid (show l = divP p from by have := hf.out; rwa [show divT 0 = [] from rfl, List.append_nil] at this)
        have HN := Lib.hid (show n = divN p from by have : cntT 0 = 0 := rfl; omega)
        clear hf
        go_wp2_with fail
        go_ret
        exact ⟨_, rfl, by rw [← HF.out, ← HN.out]; exact HOL.out, HBW.out⟩
      · by_cases hr1 : r = 1
        · subst hr1
          have HF := Lib.hid (show (l ++ [9, 0, 3, 1, 10, 0, 2, 1]) ++ divT 0 = divP p from by rw [← hf.out, List.append_assoc]; rfl)
          have HN := Lib.hid (show n + 4 + cntT 0 = divN p from by have : cntT 1 = 4 := rfl; have : cntT 0 = 0 := rfl; omega)
          clear hf
          go_wp2_with (at_builtin; (refine wp_appR rfl _ _ rfl 4 [9, 0, 3, 1, 10, 0, 2, 1] rfl _ (recr_alloc HOL.out _) rfl rfl (heap_last _ _) (by omega) (by simp; omega) ?_; intro v8 w8 ho' hg'; obtain ⟨hb', hs'⟩ := recr_below HBW.out HOL.out hg' (Nat.le_refl _) (by omega); have O8 := Lib.hid ho'; have BO8 := Lib.hid hb'; have s8 := hs'; clear ho' hb' hg' hs'))
          go_wp2_with fail
          go_roundw
          case rel => exact ⟨0, n + 4, _, _, rfl, by omega, by go_num, O8.out, HN.out, BO8.out, s8, HF.out⟩
          case measure => first | (simp [intOf]; done) | (simp [intOf]; omega)
        · exfalso; omega
set_option maxHeartbeats 4000000 in
theorem spec_l12Divide (p : Nat) (w : World) (hp : 1 ≤ p) (hp2 : p ≤ 16) :
    Calls Try.prog 36 #[.int .i64 p] w (RetRec w (divN p) (divP p)) := by
  have hc16 := cntT_le p
  have key : ∀ (n0 : Nat) (l0 : List Int), n0 + cntT p = divN p → l0 ++ divT p = divP p → True := fun _ _ _ _ => trivial
  clear key
  by_cases h1 : 1 < p
  · have hn0 : frontN p = 1 := by simp [frontN, h1]
    have hl0 := Lib.hid (show [4, (p : Int) - 1] ++ divT p = divP p from by simp [divP, frontL, h1])
    have hN : 1 + cntT p = divN p := by unfold divN; omega
    have HO0 := Lib.hid (recr_empty w w.heap.size (Nat.le_refl _))
    have HB0 := Lib.hid ((Below.refl w.heap.size w).alloc (Nat.le_refl _) (.cells #[] 47))
    clear hn0
    go_enter Try.func36, Try.ntmps36
    go_wp2_with (at_builtin; go_loud ((refine wp_appR (t := 47) rfl _ _ rfl 1 [4, (p : Int) - 1] rfl _ (recr_alloc HO0.out _) rfl rfl (by have h := heap_last (w.alloc (.cells #[] 47)) (.cells #[.int .i64 4, .int .i64 ((p : Int) - 1)] 47); simpa using h) (by omega) (by simp; omega) ?_; intro v7 w7 ho' hg'; obtain ⟨hb', hs'⟩ := recr_below HB0.out HO0.out hg' (Nat.le_refl _) (by simp); have O7 := Lib.hid ho'; have BO7 := Lib.hid hb'; have s7 := hs'; clear ho' hb' hg' hs')))
    go_wp2_with fail
    go_loopw [3, 4] (fun vv ii wr => ∃ (r n : Nat) (l : List Int) (v : Value), vv = v ∧ r ≤ p ∧ ii = .int .i64 r ∧ OwnR wr w.heap.size v n l ∧ n + cntT r = divN p ∧ Below w.heap.size w wr ∧ w.heap.size ≤ wr.heap.size ∧ Hid (l ++ divT r = divP p)) (fun _ ii _ => (intOf ii).toNat)
    case atStart => exact ⟨p, 1, _, _, rfl, Nat.le_refl _, rfl, O7.out, hN, BO7.out, s7, hl0⟩
    case round =>
      obtain ⟨r, n, l, v, rfl, hr, rfl, ho, hn, hbw, hs, hf⟩ := hrel
      have hcr := cntT_le r
      obtain ⟨a, cap, rfl, -, -⟩ := recr_form ho
      have HOL := Lib.hid ho; have HBW := Lib.hid hbw; clear ho hbw
      by_cases hr0 : r = 0
      · subst hr0
        have HF := Lib.hid (show l = divP p from by have := hf.out; rwa [show divT 0 = [] from rfl, List.append_nil] at this)
        have HN := Lib.hid (show n = divN p from by have : cntT 0 = 0 := rfl; omega)
        clear hf
        go_wp2_with fail
        go_ret
        exact ⟨_, rfl, by rw [← HF.out, ← HN.out]; exact HOL.out, HBW.out⟩
      · by_cases hr1 : r = 1
        · subst hr1
          have HF := Lib.hid (show (l ++ [9, 0, 3, 1, 10, 0, 2, 1]) ++ divT 0 = divP p from by rw [← hf.out, List.append_assoc]; rfl)
          have HN := Lib.hid (show n + 4 + cntT 0 = divN p from by have : cntT 1 = 4 := rfl; have : cntT 0 = 0 := rfl; omega)
          clear hf
          go_wp2_with (at_builtin; (refine wp_appR rfl _ _ rfl 4 [9, 0, 3, 1, 10, 0, 2, 1] rfl _ (recr_alloc HOL.out _) rfl rfl (heap_last _ _) (by omega) (by simp; omega) ?_; intro v8 w8 ho' hg'; obtain ⟨hb', hs'⟩ := recr_below HBW.out HOL.out hg' (Nat.le_refl _) (by omega); have O8 := Lib.hid ho'; have BO8 := Lib.hid hb'; have s8 := hs'; clear ho' hb' hg' hs'))
          go_wp2_with fail
          go_roundw
          case rel => exact ⟨0, n + 4, _, _, rfl, by omega, by go_num, O8.out, HN.out, BO8.out, s8, HF.out⟩
          case measure => first | (simp [intOf]; done) | (simp [intOf]; omega)
        · obtain ⟨q, hq⟩ : ∃ q, r = q + 1 := ⟨r - 1, by omega⟩
          have HF := Lib.hid (show ((l ++ [9, 0, 3, 1, 10, 0, 2, 1]) ++ [5, 1]) ++ divT q = divP p from by rw [← hf.out, hq, divT_more (by omega), List.append_assoc, List.append_assoc])
          have HN := Lib.hid (show n + 4 + 1 + cntT q = divN p from by have := cntT_more (r := q) (by omega); rw [← hq] at this; omega)
          clear hf
          go_wp2_with (at_builtin; first | (refine wp_appR rfl _ _ rfl 4 [9, 0, 3, 1, 10, 0, 2, 1] rfl _ (recr_alloc HOL.out _) rfl rfl (heap_last _ _) (by omega) (by simp; omega) ?_; intro v8 w8 ho' hg'; obtain ⟨hb', hs'⟩ := recr_below HBW.out HOL.out hg' (Nat.le_refl _) (by omega); have O8 := Lib.hid ho'; have BO8 := Lib.hid hb'; have s8 := hs'; clear ho' hb' hg' hs') | (refine wp_appR rfl _ _ rfl 1 [5, 1] rfl _ (recr_alloc O8.out _) rfl rfl (heap_last _ _) (by omega) (by simp; omega) ?_; intro v9 w9 ho' hg'; obtain ⟨hb', hs'⟩ := recr_below BO8.out O8.out hg' (Nat.le_refl _) (by omega); have O9 := Lib.hid ho'; have BO9 := Lib.hid hb'; have s9 := hs'; clear ho' hb' hg' hs'))
          go_wp2_with fail
          refine ⟨⟨q, n + 4 + 1, _, _, rfl, by omega, by first | (congr 1; omega) | go_num, O9.out, HN.out, BO9.out, s9, HF.out⟩, ?_⟩
          first | (simp [intOf]; done) | (simp [intOf]; omega)
  · have hl0 := Lib.hid (show ([] : List Int) ++ divT p = divP p from by simp [divP, frontL, h1])
    have hN : 0 + cntT p = divN p := by simp [divN, frontN, h1]
    have HO0 := Lib.hid (recr_empty w w.heap.size (Nat.le_refl _))
    have HB0 := Lib.hid ((Below.refl w.heap.size w).alloc (Nat.le_refl _) (.cells #[] 47))
    go_enter Try.func36, Try.ntmps36
    go_wp2_with fail
    go_loopw [3, 4] (fun vv ii wr => ∃ (r n : Nat) (l : List Int) (v : Value), vv = v ∧ r ≤ p ∧ ii = .int .i64 r ∧ OwnR wr w.heap.size v n l ∧ n + cntT r = divN p ∧ Below w.heap.size w wr ∧ w.heap.size ≤ wr.heap.size ∧ Hid (l ++ divT r = divP p)) (fun _ ii _ => (intOf ii).toNat)
    case atStart => exact ⟨p, 0, _, _, rfl, Nat.le_refl _, rfl, HO0.out, hN, HB0.out, by simp, hl0⟩
    case round =>
      obtain ⟨r, n, l, v, rfl, hr, rfl, ho, hn, hbw, hs, hf⟩ := hrel
      have hcr := cntT_le r
      obtain ⟨a, cap, rfl, -, -⟩ := recr_form ho
      have HOL := Lib.hid ho; have HBW := Lib.hid hbw; clear ho hbw
      by_cases hr0 : r = 0
      · subst hr0
        have HF := Lib.hid (show l = divP p from by have := hf.out; rwa [show divT 0 = [] from rfl, List.append_nil] at this)
        have HN := Lib.hid (show n = divN p from by have : cntT 0 = 0 := rfl; omega)
        clear hf
        go_wp2_with fail
        go_ret
        exact ⟨_, rfl, by rw [← HF.out, ← HN.out]; exact HOL.out, HBW.out⟩
      · by_cases hr1 : r = 1
        · subst hr1
          have HF := Lib.hid (show (l ++ [9, 0, 3, 1, 10, 0, 2, 1]) ++ divT 0 = divP p from by rw [← hf.out, List.append_assoc]; rfl)
          have HN := Lib.hid (show n + 4 + cntT 0 = divN p from by have : cntT 1 = 4 := rfl; have : cntT 0 = 0 := rfl; omega)
          clear hf
          go_wp2_with (at_builtin; (refine wp_appR rfl _ _ rfl 4 [9, 0, 3, 1, 10, 0, 2, 1] rfl _ (recr_alloc HOL.out _) rfl rfl (heap_last _ _) (by omega) (by simp; omega) ?_; intro v8 w8 ho' hg'; obtain ⟨hb', hs'⟩ := recr_below HBW.out HOL.out hg' (Nat.le_refl _) (by omega); have O8 := Lib.hid ho'; have BO8 := Lib.hid hb'; have s8 := hs'; clear ho' hb' hg' hs'))
          go_wp2_with fail
          go_roundw
          case rel => exact ⟨0, n + 4, _, _, rfl, by omega, by go_num, O8.out, HN.out, BO8.out, s8, HF.out⟩
          case measure => first | (simp [intOf]; done) | (simp [intOf]; omega)
        · exfalso; omega
def dvC (p : Int) : Int := if inB p 1 16 then 0 else 2
def dvN (p : Int) : Nat := if inB p 1 16 then divN p.toNat else 0
def dvL (p : Int) : List Int := if inB p 1 16 then divP p.toNat else []
theorem impl_DivideProgram (p : Int) (w : World) :
    Calls Try.prog 16 #[.int .i64 p] w (RetRecI w (dvN p) (dvL p) (dvC p)) := by
  cases h : inB p 1 16
  · rw [show dvN p = 0 from by simp [dvN, h], show dvL p = [] from by simp [dvL, h], show dvC p = 2 from by simp [dvC, h]]
    have H := Lib.hid h; clear h
    go_enter Try.func16, Try.ntmps16
    go_wp2_with fail
    refine (impl_isRegisterWidth _ _).mono ?_; rintro e w1 ⟨rfl, rfl⟩; rw [H.out]
    go_wp2_with fail
    refine bodyPost_ret (v := .tuple #[.slice none 0 0, .int .i64 2]) (by simp [results, Try.results16, go_sem, *]) rfl ?_
    exact ⟨_, rfl, recr_nil, Below.refl _ _⟩
  · rw [show dvN p = divN p.toNat from by simp [dvN, h], show dvL p = divP p.toNat from by simp [dvL, h], show dvC p = 0 from by simp [dvC, h]]
    have H := Lib.hid h
    obtain ⟨h1, h2⟩ := inB_iff.1 h; clear h
    obtain ⟨p, rfl⟩ := Int.eq_ofNat_of_zero_le (show 0 ≤ p by omega)
    rw [Int.toNat_natCast]
    go_enter Try.func16, Try.ntmps16
    go_wp2_with fail
    refine (impl_isRegisterWidth _ _).mono ?_; rintro e w1 ⟨rfl, rfl⟩; rw [H.out]
    go_wp2_with fail
    refine (impl_divideProgram p _ (by omega) (by omega)).mono ?_; rintro e w1 ⟨v, rfl, o1, b1⟩
    have O1 := Lib.hid o1; have B1 := Lib.hid b1; clear o1 b1
    go_wp2_with fail
    refine bodyPost_ret (v := .tuple #[v, .int .i64 0]) (by simp [results, Try.results16, go_sem, *]) rfl ?_
    exact ⟨_, rfl, O1.out, B1.out⟩
theorem spec_DivideProgram (p : Int) (w : World) :
    Calls Try.prog 15 #[.int .i64 p] w (RetRecI w (dvN p) (dvL p) (dvC p)) := by
  cases h : inB p 1 16
  · rw [show dvN p = 0 from by simp [dvN, h], show dvL p = [] from by simp [dvL, h], show dvC p = 2 from by simp [dvC, h]]
    have H := Lib.hid h; clear h
    go_enter Try.func15, Try.ntmps15
    go_wp2_with fail
    refine (spec_l00In _ _ _ _).mono ?_; rintro e w1 ⟨rfl, rfl⟩; rw [H.out]
    go_wp2_with fail
    refine bodyPost_ret (v := .tuple #[.slice none 0 0, .int .i64 2]) (by simp [results, Try.results15, go_sem, *]) rfl ?_
    exact ⟨_, rfl, recr_nil, Below.refl _ _⟩
  · rw [show dvN p = divN p.toNat from by simp [dvN, h], show dvL p = divP p.toNat from by simp [dvL, h], show dvC p = 0 from by simp [dvC, h]]
    have H := Lib.hid h
    obtain ⟨h1, h2⟩ := inB_iff.1 h; clear h
    obtain ⟨p, rfl⟩ := Int.eq_ofNat_of_zero_le (show 0 ≤ p by omega)
    rw [Int.toNat_natCast]
    go_enter Try.func15, Try.ntmps15
    go_wp2_with fail
    refine (spec_l00In _ _ _ _).mono ?_; rintro e w1 ⟨rfl, rfl⟩; rw [H.out]
    go_wp2_with fail
    refine (spec_l12Divide p _ (by omega) (by omega)).mono ?_; rintro e w1 ⟨v, rfl, o1, b1⟩
    have O1 := Lib.hid o1; have B1 := Lib.hid b1; clear o1 b1
    go_wp2_with fail
    refine bodyPost_ret (v := .tuple #[v, .int .i64 0]) (by simp [results, Try.results15, go_sem, *]) rfl ?_
    exact ⟨_, rfl, O1.out, B1.out⟩
end Go.Proofs.Ytaipfcbphfjgoaa
