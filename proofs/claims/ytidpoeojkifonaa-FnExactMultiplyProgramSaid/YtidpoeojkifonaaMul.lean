/- MultiplyProgram of both packages: the list of instructions for turns at all places. -/
import Derived.IntWalk
import Derived.Test.YtidpoeojkifonaaPt
import Derived.Test.YtidpoeojkifonaaGrowR
namespace Go.Proofs.Ytidpoeojkifonaa
open Go.ChangeShapes Go.WideShapes Go.ChangeAt Go.RowKit
def signL (x : Int) : List Int := if 0 < x then [2, x] else if x < 0 then [3, -x] else []
def mulTo (ts : List Int) : Nat → List Int
  | 0 => []
  | j + 1 => mulTo ts j ++ ((if j = 0 then [] else [4, 1]) ++ signL (nth ts j))
def turnsL (b n : Int) (sh : Bool) : List Int := if tin b n then (if sh then few b.toNat n.toNat else pln b.toNat n.toNat) else []
def muL (b n : Int) (sh : Bool) : List Int := mulTo (turnsL b n sh) (turnsL b n sh).length
def muN (b n : Int) (sh : Bool) : Nat := (muL b n sh).length / 2
theorem sign_pos {x : Int} (h : 0 < x) : signL x = [2, x] := if_pos h
theorem sign_neg {x : Int} (h : x < 0) : signL x = [3, -x] := by unfold signL; rw [if_neg (by omega), if_pos h]
theorem sign_zero : signL 0 = [] := rfl
theorem mul_first {ts : List Int} : mulTo ts 1 = mulTo ts 0 ++ signL (nth ts 0) := rfl
theorem mul_more {ts : List Int} {j : Nat} (h : j ≠ 0) : mulTo ts (j + 1) = (mulTo ts j ++ [4, 1]) ++ signL (nth ts j) := by
  show mulTo ts j ++ ((if j = 0 then [] else [4, 1]) ++ signL (nth ts j)) = _
  rw [if_neg h, List.append_assoc]
theorem recr_len0 {w : World} {B : Nat} {v : Value} {n m : Nat} {zs : List Int} (h : OwnR w B v n zs) (e : n = m) : OwnR w B v m zs := e ▸ h
theorem allT_nth {ts : List Int} (h : allT ts = true) {j : Nat} (hj : j < ts.length) : -16 ≤ nth ts j ∧ nth ts j ≤ 16 := by
  have := all_get (p := isT) h hj
  exact inB_iff.1 this
set_option maxHeartbeats 4000000 in
theorem spec_l12Turns {B g0 : Nat} {u : Value} {ts : List Int} (b : Int) (w : World) (h1 : Own w B u ts) (hc0 : w.cell? ⟨g0, 0, none⟩ = some (.int .i64 b)) (hc1 : w.cell? ⟨g0, 1, none⟩ = some u) (hl : ts.length ≤ 62500000) (ha : allT ts = true) :
    Calls Try.prog 68 #[.pointer (some ⟨g0, 0, none⟩)] w (RetRec w ((mulTo ts ts.length).length / 2) (mulTo ts ts.length)) := by
  obtain ⟨a0, c0, rfl, m1, q1⟩ := own_form h1
  have QQ := Lib.hid q1; have HA := Lib.hid ha; have LEN := Lib.hid hl; have C1 := Lib.hid hc1
  have gl0 : g0 < w.heap.size := World.block_lt_of_cell? w _ hc1
  clear q1 h1 ha
  go_enter Try.func68, Try.ntmps68
  go_wp2_with fail
  go_loopw [3, 4, 5] (fun vv ii _ wr => ∃ (j n : Nat) (l : List Int) (v : Value), vv = v ∧ j ≤ ts.length ∧ n ≤ 2 * j ∧ ii = .int .i64 j ∧ OwnR wr w.heap.size v n l ∧ Below w.heap.size w wr ∧ w.heap.size ≤ wr.heap.size ∧ Hid (l = mulTo ts j)) (fun _ ii _ _ => ts.length - (intOf ii).toNat)
  case atStart => exact ⟨0, 0, [], _, rfl, Nat.zero_le _, by omega, rfl, recr_empty w _ (Nat.le_refl _), (Below.refl _ _).alloc (Nat.le_refl _) _, by simp, Lib.hid rfl⟩
  case round =>
    obtain ⟨j, n, l, v, rfl, hj, hn, rfl, ho, hbw, hs, hf⟩ := hrel
    obtain ⟨a, cap, rfl, -, -⟩ := recr_form ho
    have HOL := Lib.hid ho; have HBW := Lib.hid hbw
    have hln := LEN.out
    have y1 := (hbw.cell gl0).trans C1.out
    have gl1 : g0 < wr.heap.size := by omega
    by_cases hlt : j < ts.length
    · obtain ⟨g, rfl, x0⟩ := QQ.out j hlt
      have gl : g < w.heap.size := World.block_lt_of_cell? w _ x0
      have r0 := (hbw.cell gl).trans x0
      have gl2 : g < wr.heap.size := by omega
      have X0 := Lib.hid x0
      have hf' := hf.out
      have hts := allT_nth HA.out hlt
      clear x0 hbw ho hf
      obtain ⟨x, hx⟩ : ∃ x, x = nth ts j := ⟨_, rfl⟩
      rw [← hx] at r0 hts
      have HX := Lib.hid hx
      by_cases hj0 : j = 0
      · subst hj0
        by_cases hp : 0 < x
        · have HF := Lib.hid (show l ++ [2, x] = mulTo ts (0 + 1) from by rw [hf', mul_first, ← hx, sign_pos hp])
          clear hf' hx
          go_wp2_with (at_builtin; (refine wp_appR rfl _ _ rfl 1 [2, x] rfl _ (recr_alloc HOL.out _) rfl rfl (heap_last _ _) (by omega) (by simp; omega) ?_; intro v8 w8 ho' hg'; obtain ⟨hb', hs'⟩ := recr_below HBW.out HOL.out hg' (Nat.le_refl _) (by omega); have O8 := Lib.hid ho'; have BO8 := Lib.hid hb'; have s8 := hs'; clear ho' hb' hg' hs'))
          go_wp2_with fail
          refine ⟨⟨1, n + 1, _, _, rfl, by omega, by omega, by go_num, O8.out, BO8.out, s8, HF.out⟩, ?_⟩
          first | (simp [intOf]; done) | (simp [intOf]; omega)
        · by_cases hq : x < 0
          · have HF := Lib.hid (show l ++ [3, -x] = mulTo ts (0 + 1) from by rw [hf', mul_first, ← hx, sign_neg hq])
            clear hf' hx
            go_wp2_with (at_builtin; (refine wp_appR rfl _ _ rfl 1 [3, -x] rfl _ (recr_alloc HOL.out _) rfl rfl (heap_last _ _) (by omega) (by simp; omega) ?_; intro v8 w8 ho' hg'; obtain ⟨hb', hs'⟩ := recr_below HBW.out HOL.out hg' (Nat.le_refl _) (by omega); have O8 := Lib.hid ho'; have BO8 := Lib.hid hb'; have s8 := hs'; clear ho' hb' hg' hs'))
            go_wp2_with fail
            refine ⟨⟨1, n + 1, _, _, rfl, by omega, by omega, by go_num, O8.out, BO8.out, s8, HF.out⟩, ?_⟩
            first | (simp [intOf]; done) | (simp [intOf]; omega)
          · obtain rfl : x = 0 := by omega
            have HF := Lib.hid (show l = mulTo ts (0 + 1) from by rw [hf', mul_first, ← hx, sign_zero, List.append_nil])
            clear hf' hx
            go_wp2_with fail
            refine ⟨⟨1, n, _, _, rfl, by omega, by omega, by go_num, HOL.out, HBW.out, hs, HF.out⟩, ?_⟩
            first | (simp [intOf]; done) | (simp [intOf]; omega)
      · have hj1 : (0 : Int) < (j : Int) := by omega
        by_cases hp : 0 < x
        · have HF := Lib.hid (show (l ++ [4, 1]) ++ [2, x] = mulTo ts (j + 1) from by rw [hf', mul_more hj0, ← hx, sign_pos hp])
          clear hf' hx
          go_wp2_with (at_builtin; first | (refine wp_appR rfl _ _ rfl 1 [4, 1] rfl _ (recr_alloc HOL.out _) rfl rfl (heap_last _ _) (by omega) (by simp; omega) ?_; intro v8 w8 ho' hg'; obtain ⟨hb', hs'⟩ := recr_below HBW.out HOL.out hg' (Nat.le_refl _) (by omega); have z1 := (hb'.cell gl0).trans C1.out; have z2 := (hb'.cell gl).trans X0.out; rw [← HX.out] at z2; have gl8 := hs'; have gl9 : g < w8.heap.size := (by omega); have gl10 : g0 < w8.heap.size := (by omega); clear gl8; have O8 := Lib.hid ho'; have BO8 := Lib.hid hb'; have s8 := hs'; clear ho' hb' hg' hs') | (refine wp_appR rfl _ _ rfl 1 [2, x] rfl _ (recr_alloc O8.out _) rfl rfl (heap_last _ _) (by omega) (by simp; omega) ?_; intro v9 w9 ho' hg'; obtain ⟨hb', hs'⟩ := recr_below BO8.out O8.out hg' (Nat.le_refl _) (by omega); have O9 := Lib.hid ho'; have BO9 := Lib.hid hb'; have s9 := hs'; clear ho' hb' hg' hs'))
          go_wp2_with fail
          refine ⟨⟨j + 1, n + 1 + 1, _, _, rfl, by omega, by omega, by go_num, O9.out, BO9.out, s9, HF.out⟩, ?_⟩
          first | (simp [intOf]; done) | (simp [intOf]; omega)
        · by_cases hq : x < 0
          · have HF := Lib.hid (show (l ++ [4, 1]) ++ [3, -x] = mulTo ts (j + 1) from by rw [hf', mul_more hj0, ← hx, sign_neg hq])
            clear hf' hx
            go_wp2_with (at_builtin; first | (refine wp_appR rfl _ _ rfl 1 [4, 1] rfl _ (recr_alloc HOL.out _) rfl rfl (heap_last _ _) (by omega) (by simp; omega) ?_; intro v8 w8 ho' hg'; obtain ⟨hb', hs'⟩ := recr_below HBW.out HOL.out hg' (Nat.le_refl _) (by omega); have z1 := (hb'.cell gl0).trans C1.out; have z2 := (hb'.cell gl).trans X0.out; rw [← HX.out] at z2; have gl8 := hs'; have gl9 : g < w8.heap.size := (by omega); have gl10 : g0 < w8.heap.size := (by omega); clear gl8; have O8 := Lib.hid ho'; have BO8 := Lib.hid hb'; have s8 := hs'; clear ho' hb' hg' hs') | (refine wp_appR rfl _ _ rfl 1 [3, -x] rfl _ (recr_alloc O8.out _) rfl rfl (heap_last _ _) (by omega) (by simp; omega) ?_; intro v9 w9 ho' hg'; obtain ⟨hb', hs'⟩ := recr_below BO8.out O8.out hg' (Nat.le_refl _) (by omega); have O9 := Lib.hid ho'; have BO9 := Lib.hid hb'; have s9 := hs'; clear ho' hb' hg' hs'))
            go_wp2_with fail
            refine ⟨⟨j + 1, n + 1 + 1, _, _, rfl, by omega, by omega, by go_num, O9.out, BO9.out, s9, HF.out⟩, ?_⟩
            first | (simp [intOf]; done) | (simp [intOf]; omega)
          · obtain rfl : x = 0 := by omega
            have HF := Lib.hid (show l ++ [4, 1] = mulTo ts (j + 1) from by rw [hf', mul_more hj0, ← hx, sign_zero, List.append_nil])
            clear hf' hx
            go_wp2_with (at_builtin; (refine wp_appR rfl _ _ rfl 1 [4, 1] rfl _ (recr_alloc HOL.out _) rfl rfl (heap_last _ _) (by omega) (by simp; omega) ?_; intro v8 w8 ho' hg'; obtain ⟨hb', hs'⟩ := recr_below HBW.out HOL.out hg' (Nat.le_refl _) (by omega); have z1 := (hb'.cell gl0).trans C1.out; have z2 := (hb'.cell gl).trans X0.out; rw [← HX.out] at z2; have gl8 := hs'; have gl9 : g < w8.heap.size := (by omega); have gl10 : g0 < w8.heap.size := (by omega); clear gl8; have O8 := Lib.hid ho'; have BO8 := Lib.hid hb'; have s8 := hs'; clear ho' hb' hg' hs'))
            go_wp2_with fail
            refine ⟨⟨j + 1, n + 1, _, _, rfl, by omega, by omega, by go_num, O8.out, BO8.out, s8, HF.out⟩, ?_⟩
            first | (simp [intOf]; done) | (simp [intOf]; omega)
    · obtain rfl : j = ts.length := by omega
      have HF := Lib.hid hf.out
      have HNL := Lib.hid (show n = l.length / 2 from by have := recr_len HOL.out; omega)
      clear hbw ho hf
      go_wp2_with fail
      go_ret
      exact ⟨_, rfl, by rw [← HF.out, ← HNL.out]; exact HOL.out, HBW.out⟩
set_option maxHeartbeats 4000000 in
theorem impl_MultiplyProgram (b n : Int) (sh : Bool) (w : World) :
    Calls Try.prog 43 #[.int .i64 b, .int .i64 n, .bool sh] w (RetRecI w (muN b n sh) (muL b n sh) (codeR b n)) := by
  cases h : tin b n
  · rw [show muN b n sh = 0 from by simp [muN, muL, turnsL, h, mulTo], show muL b n sh = [] from by simp [muL, turnsL, h, mulTo], show codeR b n = 2 from by simp [codeR, h]]
    have HC := Lib.hid h; clear h
    go_enter Try.func43, Try.ntmps43
    go_wp2_with fail
    refine (impl_isTurnsInput _ _ _).mono ?_; rintro e w' ⟨rfl, rfl⟩; rw [HC.out]
    go_wp2_with fail
    refine bodyPost_ret (v := .tuple #[.slice none 0 0, .int .i64 2]) (by simp [results, Try.results43, go_sem, *]) rfl ?_
    exact ⟨_, rfl, recr_nil, Below.refl _ _⟩
  rw [show codeR b n = 0 from by simp [codeR, h]]
  unfold muN
  have HC := Lib.hid h
  have h' := h; unfold tin at h'; simp only [Bool.and_eq_true] at h'
  obtain ⟨b0, b1⟩ := inB_iff.1 h'.1
  obtain ⟨n0, n1⟩ := inB_iff.1 h'.2
  obtain ⟨b, rfl⟩ := Int.eq_ofNat_of_zero_le (show 0 ≤ b by omega)
  obtain ⟨n, rfl⟩ := Int.eq_ofNat_of_zero_le n0
  cases sh
  · rw [show muL b n false = mulTo (pln b n) (pln b n).length from by simp [muL, turnsL, h]]
    clear h h'
    go_enter Try.func43, Try.ntmps43
    go_wp2_with fail
    refine (impl_isTurnsInput _ _ _).mono ?_; rintro e w' ⟨rfl, rfl⟩; rw [HC.out]
    go_wp2_with fail
    refine (impl_plainTurns b n _ (by omega) (by omega) (by omega)).mono ?_; rintro e w1 ⟨⟨u1, rfl, o1, b1'⟩, ha, hl⟩
    generalize pln b n = ts at *
    obtain ⟨a0, c0, rfl, m1, q1⟩ := own_form o1
    have QQ := Lib.hid q1; have HA := Lib.hid ha; have LEN := Lib.hid hl; have BW := Lib.hid b1'; have s1 := b1'.size
    clear q1 o1 ha hl b1'
    go_wp2_with fail
    go_loopw [9, 10, 11, 26] (fun vv _ _ ii wr => ∃ (j n : Nat) (l : List Int) (v : Value), vv = v ∧ j ≤ ts.length ∧ n ≤ 2 * j ∧ ii = .int .i64 j ∧ OwnR wr w1.heap.size v n l ∧ Below w1.heap.size w1 wr ∧ w1.heap.size ≤ wr.heap.size ∧ Hid (l = mulTo ts j)) (fun _ _ _ ii _ => ts.length - (intOf ii).toNat)
    case atStart => exact ⟨0, 0, [], _, rfl, Nat.zero_le _, by omega, rfl, recr_empty w1 _ (Nat.le_refl _), (Below.refl _ _).alloc (Nat.le_refl _) _, by simp, Lib.hid rfl⟩
    case round =>
      obtain ⟨j, n, l, v, rfl, hj, hn, rfl, ho, hbw, hs, hf⟩ := hrel
      obtain ⟨a, cap, rfl, -, -⟩ := recr_form ho
      have HOL := Lib.hid ho; have HBW := Lib.hid hbw
      have hln := LEN.out
      by_cases hlt : j < ts.length
      · obtain ⟨g, rfl, x0⟩ := QQ.out j hlt
        have gl : g < w1.heap.size := World.block_lt_of_cell? w1 _ x0
        have r0 := (hbw.cell gl).trans x0
        have gl2 : g < wr.heap.size := by omega
        have X0 := Lib.hid x0
        have hf' := hf.out
        have hts := allT_nth HA.out hlt
        clear x0 hbw ho hf
        obtain ⟨x, hx⟩ : ∃ x, x = nth ts j := ⟨_, rfl⟩
        rw [← hx] at r0 hts
        have HX := Lib.hid hx
        by_cases hj0 : j = 0
        · subst hj0
          by_cases hp : 0 < x
          · have HF := Lib.hid (show l ++ [2, x] = mulTo ts (0 + 1) from by rw [hf', mul_first, ← hx, sign_pos hp])
            clear hf' hx
            go_wp2_with (at_builtin; (refine wp_appR rfl _ _ rfl 1 [2, x] rfl _ (recr_alloc HOL.out _) rfl rfl (heap_last _ _) (by omega) (by simp; omega) ?_; intro v8 w8 ho' hg'; obtain ⟨hb', hs'⟩ := recr_below HBW.out HOL.out hg' (Nat.le_refl _) (by omega); have O8 := Lib.hid ho'; have BO8 := Lib.hid hb'; have s8 := hs'; clear ho' hb' hg' hs'))
            go_wp2_with fail
            refine ⟨⟨1, n + 1, _, _, rfl, by omega, by omega, by go_num, O8.out, BO8.out, s8, HF.out⟩, ?_⟩
            first | (simp [intOf]; done) | (simp [intOf]; omega)
          · by_cases hq : x < 0
            · have HF := Lib.hid (show l ++ [3, -x] = mulTo ts (0 + 1) from by rw [hf', mul_first, ← hx, sign_neg hq])
              clear hf' hx
              go_wp2_with (at_builtin; (refine wp_appR rfl _ _ rfl 1 [3, -x] rfl _ (recr_alloc HOL.out _) rfl rfl (heap_last _ _) (by omega) (by simp; omega) ?_; intro v8 w8 ho' hg'; obtain ⟨hb', hs'⟩ := recr_below HBW.out HOL.out hg' (Nat.le_refl _) (by omega); have O8 := Lib.hid ho'; have BO8 := Lib.hid hb'; have s8 := hs'; clear ho' hb' hg' hs'))
              go_wp2_with fail
              refine ⟨⟨1, n + 1, _, _, rfl, by omega, by omega, by go_num, O8.out, BO8.out, s8, HF.out⟩, ?_⟩
              first | (simp [intOf]; done) | (simp [intOf]; omega)
            · obtain rfl : x = 0 := by omega
              have HF := Lib.hid (show l = mulTo ts (0 + 1) from by rw [hf', mul_first, ← hx, sign_zero, List.append_nil])
              clear hf' hx
              go_wp2_with fail
              refine ⟨⟨1, n, _, _, rfl, by omega, by omega, by go_num, HOL.out, HBW.out, hs, HF.out⟩, ?_⟩
              first | (simp [intOf]; done) | (simp [intOf]; omega)
        · have hj1 : (0 : Int) < (j : Int) := by omega
          by_cases hp : 0 < x
          · have HF := Lib.hid (show (l ++ [4, 1]) ++ [2, x] = mulTo ts (j + 1) from by rw [hf', mul_more hj0, ← hx, sign_pos hp])
            clear hf' hx
            go_wp2_with (at_builtin; first | (refine wp_appR rfl _ _ rfl 1 [4, 1] rfl _ (recr_alloc HOL.out _) rfl rfl (heap_last _ _) (by omega) (by simp; omega) ?_; intro v8 w8 ho' hg'; obtain ⟨hb', hs'⟩ := recr_below HBW.out HOL.out hg' (Nat.le_refl _) (by omega); have O8 := Lib.hid ho'; have BO8 := Lib.hid hb'; have s8 := hs'; clear ho' hb' hg' hs') | (refine wp_appR rfl _ _ rfl 1 [2, x] rfl _ (recr_alloc O8.out _) rfl rfl (heap_last _ _) (by omega) (by simp; omega) ?_; intro v9 w9 ho' hg'; obtain ⟨hb', hs'⟩ := recr_below BO8.out O8.out hg' (Nat.le_refl _) (by omega); have O9 := Lib.hid ho'; have BO9 := Lib.hid hb'; have s9 := hs'; clear ho' hb' hg' hs'))
            go_wp2_with fail
            refine ⟨⟨j + 1, n + 1 + 1, _, _, rfl, by omega, by omega, by go_num, O9.out, BO9.out, s9, HF.out⟩, ?_⟩
            first | (simp [intOf]; done) | (simp [intOf]; omega)
          · by_cases hq : x < 0
            · have HF := Lib.hid (show (l ++ [4, 1]) ++ [3, -x] = mulTo ts (j + 1) from by rw [hf', mul_more hj0, ← hx, sign_neg hq])
              clear hf' hx
              go_wp2_with (at_builtin; first | (refine wp_appR rfl _ _ rfl 1 [4, 1] rfl _ (recr_alloc HOL.out _) rfl rfl (heap_last _ _) (by omega) (by simp; omega) ?_; intro v8 w8 ho' hg'; obtain ⟨hb', hs'⟩ := recr_below HBW.out HOL.out hg' (Nat.le_refl _) (by omega); have O8 := Lib.hid ho'; have BO8 := Lib.hid hb'; have s8 := hs'; clear ho' hb' hg' hs') | (refine wp_appR rfl _ _ rfl 1 [3, -x] rfl _ (recr_alloc O8.out _) rfl rfl (heap_last _ _) (by omega) (by simp; omega) ?_; intro v9 w9 ho' hg'; obtain ⟨hb', hs'⟩ := recr_below BO8.out O8.out hg' (Nat.le_refl _) (by omega); have O9 := Lib.hid ho'; have BO9 := Lib.hid hb'; have s9 := hs'; clear ho' hb' hg' hs'))
              go_wp2_with fail
              refine ⟨⟨j + 1, n + 1 + 1, _, _, rfl, by omega, by omega, by go_num, O9.out, BO9.out, s9, HF.out⟩, ?_⟩
              first | (simp [intOf]; done) | (simp [intOf]; omega)
            · obtain rfl : x = 0 := by omega
              have HF := Lib.hid (show l ++ [4, 1] = mulTo ts (j + 1) from by rw [hf', mul_more hj0, ← hx, sign_zero, List.append_nil])
              clear hf' hx
              go_wp2_with (at_builtin; (refine wp_appR rfl _ _ rfl 1 [4, 1] rfl _ (recr_alloc HOL.out _) rfl rfl (heap_last _ _) (by omega) (by simp; omega) ?_; intro v8 w8 ho' hg'; obtain ⟨hb', hs'⟩ := recr_below HBW.out HOL.out hg' (Nat.le_refl _) (by omega); have O8 := Lib.hid ho'; have BO8 := Lib.hid hb'; have s8 := hs'; clear ho' hb' hg' hs'))
              go_wp2_with fail
              refine ⟨⟨j + 1, n + 1, _, _, rfl, by omega, by omega, by go_num, O8.out, BO8.out, s8, HF.out⟩, ?_⟩
              first | (simp [intOf]; done) | (simp [intOf]; omega)
      · obtain rfl : j = ts.length := by omega
        have HF := Lib.hid hf.out
        have HNL := Lib.hid (show n = l.length / 2 from by have := recr_len HOL.out; omega)
        clear hbw ho hf
        go_wp2_with fail
        refine bodyPost_ret (v := .tuple #[.slice a n cap, .int .i64 0]) (by simp [results, Try.results43, go_sem, *]) rfl ?_
        exact ⟨_, rfl, by rw [← HF.out, ← HNL.out]; exact recr_base HOL.out s1, Below.trans_size BW.out HBW.out⟩
  · rw [show muL b n true = mulTo (few b n) (few b n).length from by simp [muL, turnsL, h]]
    clear h h'
    go_enter Try.func43, Try.ntmps43
    go_wp2_with fail
    refine (impl_isTurnsInput _ _ _).mono ?_; rintro e w' ⟨rfl, rfl⟩; rw [HC.out]
    go_wp2_with fail
    refine (impl_plainTurns b n _ (by omega) (by omega) (by omega)).mono ?_; rintro e w0 ⟨⟨u0, rfl, o0, b0'⟩, -, -⟩
    have B0 := Lib.hid b0'; clear o0 b0'
    go_wp2_with fail
    refine (impl_fewestTurns b n _ (by omega) (by omega) (by omega)).mono ?_; rintro e w1 ⟨⟨u1, rfl, o1, b1'⟩, ha, hl⟩
    generalize few b n = ts at *
    obtain ⟨a0, c0, rfl, m1, q1⟩ := own_form o1
    have QQ := Lib.hid q1; have HA := Lib.hid ha; have LEN := Lib.hid hl; have BW := Lib.hid (Below.trans_size B0.out b1'); have s1 := BW.out.size
    clear q1 o1 ha hl b1' B0
    go_wp2_with fail
    go_loopw [9, 10, 11, 26] (fun vv _ _ ii wr => ∃ (j n : Nat) (l : List Int) (v : Value), vv = v ∧ j ≤ ts.length ∧ n ≤ 2 * j ∧ ii = .int .i64 j ∧ OwnR wr w1.heap.size v n l ∧ Below w1.heap.size w1 wr ∧ w1.heap.size ≤ wr.heap.size ∧ Hid (l = mulTo ts j)) (fun _ _ _ ii _ => ts.length - (intOf ii).toNat)
    case atStart => exact ⟨0, 0, [], _, rfl, Nat.zero_le _, by omega, rfl, recr_empty w1 _ (Nat.le_refl _), (Below.refl _ _).alloc (Nat.le_refl _) _, by simp, Lib.hid rfl⟩
    case round =>
      obtain ⟨j, n, l, v, rfl, hj, hn, rfl, ho, hbw, hs, hf⟩ := hrel
      obtain ⟨a, cap, rfl, -, -⟩ := recr_form ho
      have HOL := Lib.hid ho; have HBW := Lib.hid hbw
      have hln := LEN.out
      by_cases hlt : j < ts.length
      · obtain ⟨g, rfl, x0⟩ := QQ.out j hlt
        have gl : g < w1.heap.size := World.block_lt_of_cell? w1 _ x0
        have r0 := (hbw.cell gl).trans x0
        have gl2 : g < wr.heap.size := by omega
        have X0 := Lib.hid x0
        have hf' := hf.out
        have hts := allT_nth HA.out hlt
        clear x0 hbw ho hf
        obtain ⟨x, hx⟩ : ∃ x, x = nth ts j := ⟨_, rfl⟩
        rw [← hx] at r0 hts
        have HX := Lib.hid hx
        by_cases hj0 : j = 0
        · subst hj0
          by_cases hp : 0 < x
          · have HF := Lib.hid (show l ++ [2, x] = mulTo ts (0 + 1) from by rw [hf', mul_first, ← hx, sign_pos hp])
            clear hf' hx
            go_wp2_with (at_builtin; (refine wp_appR rfl _ _ rfl 1 [2, x] rfl _ (recr_alloc HOL.out _) rfl rfl (heap_last _ _) (by omega) (by simp; omega) ?_; intro v8 w8 ho' hg'; obtain ⟨hb', hs'⟩ := recr_below HBW.out HOL.out hg' (Nat.le_refl _) (by omega); have O8 := Lib.hid ho'; have BO8 := Lib.hid hb'; have s8 := hs'; clear ho' hb' hg' hs'))
            go_wp2_with fail
            refine ⟨⟨1, n + 1, _, _, rfl, by omega, by omega, by go_num, O8.out, BO8.out, s8, HF.out⟩, ?_⟩
            first | (simp [intOf]; done) | (simp [intOf]; omega)
          · by_cases hq : x < 0
            · have HF := Lib.hid (show l ++ [3, -x] = mulTo ts (0 + 1) from by rw [hf', mul_first, ← hx, sign_neg hq])
              clear hf' hx
              go_wp2_with (at_builtin; (refine wp_appR rfl _ _ rfl 1 [3, -x] rfl _ (recr_alloc HOL.out _) rfl rfl (heap_last _ _) (by omega) (by simp; omega) ?_; intro v8 w8 ho' hg'; obtain ⟨hb', hs'⟩ := recr_below HBW.out HOL.out hg' (Nat.le_refl _) (by omega); have O8 := Lib.hid ho'; have BO8 := Lib.hid hb'; have s8 := hs'; clear ho' hb' hg' hs'))
              go_wp2_with fail
              refine ⟨⟨1, n + 1, _, _, rfl, by omega, by omega, by go_num, O8.out, BO8.out, s8, HF.out⟩, ?_⟩
              first | (simp [intOf]; done) | (simp [intOf]; omega)
            · obtain rfl : x = 0 := by omega
              have HF := Lib.hid (show l = mulTo ts (0 + 1) from by rw [hf', mul_first, ← hx, sign_zero, List.append_nil])
              clear hf' hx
              go_wp2_with fail
              refine ⟨⟨1, n, _, _, rfl, by omega, by omega, by go_num, HOL.out, HBW.out, hs, HF.out⟩, ?_⟩
              first | (simp [intOf]; done) | (simp [intOf]; omega)
        · have hj1 : (0 : Int) < (j : Int) := by omega
          by_cases hp : 0 < x
          · have HF := Lib.hid (show (l ++ [4, 1]) ++ [2, x] = mulTo ts (j + 1) from by rw [hf', mul_more hj0, ← hx, sign_pos hp])
            clear hf' hx
            go_wp2_with (at_builtin; first | (refine wp_appR rfl _ _ rfl 1 [4, 1] rfl _ (recr_alloc HOL.out _) rfl rfl (heap_last _ _) (by omega) (by simp; omega) ?_; intro v8 w8 ho' hg'; obtain ⟨hb', hs'⟩ := recr_below HBW.out HOL.out hg' (Nat.le_refl _) (by omega); have O8 := Lib.hid ho'; have BO8 := Lib.hid hb'; have s8 := hs'; clear ho' hb' hg' hs') | (refine wp_appR rfl _ _ rfl 1 [2, x] rfl _ (recr_alloc O8.out _) rfl rfl (heap_last _ _) (by omega) (by simp; omega) ?_; intro v9 w9 ho' hg'; obtain ⟨hb', hs'⟩ := recr_below BO8.out O8.out hg' (Nat.le_refl _) (by omega); have O9 := Lib.hid ho'; have BO9 := Lib.hid hb'; have s9 := hs'; clear ho' hb' hg' hs'))
            go_wp2_with fail
            refine ⟨⟨j + 1, n + 1 + 1, _, _, rfl, by omega, by omega, by go_num, O9.out, BO9.out, s9, HF.out⟩, ?_⟩
            first | (simp [intOf]; done) | (simp [intOf]; omega)
          · by_cases hq : x < 0
            · have HF := Lib.hid (show (l ++ [4, 1]) ++ [3, -x] = mulTo ts (j + 1) from by rw [hf', mul_more hj0, ← hx, sign_neg hq])
              clear hf' hx
              go_wp2_with (at_builtin; first | (refine wp_appR rfl _ _ rfl 1 [4, 1] rfl _ (recr_alloc HOL.out _) rfl rfl (heap_last _ _) (by omega) (by simp; omega) ?_; intro v8 w8 ho' hg'; obtain ⟨hb', hs'⟩ := recr_below HBW.out HOL.out hg' (Nat.le_refl _) (by omega); have O8 := Lib.hid ho'; have BO8 := Lib.hid hb'; have s8 := hs'; clear ho' hb' hg' hs') | (refine wp_appR rfl _ _ rfl 1 [3, -x] rfl _ (recr_alloc O8.out _) rfl rfl (heap_last _ _) (by omega) (by simp; omega) ?_; intro v9 w9 ho' hg'; obtain ⟨hb', hs'⟩ := recr_below BO8.out O8.out hg' (Nat.le_refl _) (by omega); have O9 := Lib.hid ho'; have BO9 := Lib.hid hb'; have s9 := hs'; clear ho' hb' hg' hs'))
              go_wp2_with fail
              refine ⟨⟨j + 1, n + 1 + 1, _, _, rfl, by omega, by omega, by go_num, O9.out, BO9.out, s9, HF.out⟩, ?_⟩
              first | (simp [intOf]; done) | (simp [intOf]; omega)
            · obtain rfl : x = 0 := by omega
              have HF := Lib.hid (show l ++ [4, 1] = mulTo ts (j + 1) from by rw [hf', mul_more hj0, ← hx, sign_zero, List.append_nil])
              clear hf' hx
              go_wp2_with (at_builtin; (refine wp_appR rfl _ _ rfl 1 [4, 1] rfl _ (recr_alloc HOL.out _) rfl rfl (heap_last _ _) (by omega) (by simp; omega) ?_; intro v8 w8 ho' hg'; obtain ⟨hb', hs'⟩ := recr_below HBW.out HOL.out hg' (Nat.le_refl _) (by omega); have O8 := Lib.hid ho'; have BO8 := Lib.hid hb'; have s8 := hs'; clear ho' hb' hg' hs'))
              go_wp2_with fail
              refine ⟨⟨j + 1, n + 1, _, _, rfl, by omega, by omega, by go_num, O8.out, BO8.out, s8, HF.out⟩, ?_⟩
              first | (simp [intOf]; done) | (simp [intOf]; omega)
      · obtain rfl : j = ts.length := by omega
        have HF := Lib.hid hf.out
        have HNL := Lib.hid (show n = l.length / 2 from by have := recr_len HOL.out; omega)
        clear hbw ho hf
        go_wp2_with fail
        refine bodyPost_ret (v := .tuple #[.slice a n cap, .int .i64 0]) (by simp [results, Try.results43, go_sem, *]) rfl ?_
        exact ⟨_, rfl, by rw [← HF.out, ← HNL.out]; exact recr_base HOL.out s1, Below.trans_size BW.out HBW.out⟩
theorem spec_l12Digits (b n : Int) (sh : Bool) (w : World) :
    Calls Try.prog 67 #[.int .i64 b, .int .i64 n, .bool sh] w (RetAggI w (fewB b n) (turnsL b n sh) (codeR b n)) := by
  cases sh
  · rw [show turnsL b n false = plnL b n from by simp [turnsL, plnL]]
    have D := Lib.hid (fun wx => spec_PlainTurns b n wx)
    generalize plnL b n = L at *
    generalize fewB b n = bb at *
    generalize codeR b n = cc at *
    go_enter Try.func67, Try.ntmps67
    go_wp2_with fail
    refine (D.out _).mono ?_
    rintro e w1 ⟨v1, rfl, o1, b1'⟩
    obtain ⟨x0, bw, hs, he⟩ := blk1 b1'
    rw [he] at o1
    have O1 := Lib.hid o1; have BW := Lib.hid bw
    obtain ⟨av, cv, rfl, -, -⟩ := own_form o1
    have c0 := cell_blk x0 0; have c1 := cell_blk x0 1; have f0 := frozen_blk x0 0; have f1 := frozen_blk x0 1
    clear o1 b1' bw x0 he
    go_wp2_with fail
    refine bodyPost_ret (v := .tuple #[.agg #[.int .i64 bb, .slice av L.length cv], .int .i64 cc]) (by simp [results, Try.results67, go_sem, *]) rfl ?_
    exact ⟨_, rfl, own_base (ownsRow_setCell_below (ownsRow_setCell_below O1.out (by simp) _) (by simp) _) (by omega), (BW.out.setCell (by simp) _).setCell (by simp) _⟩
  · rw [show turnsL b n true = fewL b n from by simp [turnsL, fewL]]
    have D := Lib.hid (fun wx => spec_FewestTurns b n wx)
    generalize fewL b n = L at *
    generalize fewB b n = bb at *
    generalize codeR b n = cc at *
    go_enter Try.func67, Try.ntmps67
    go_wp2_with fail
    refine (D.out _).mono ?_
    rintro e w1 ⟨v1, rfl, o1, b1'⟩
    obtain ⟨x0, bw, hs, he⟩ := blk1 b1'
    rw [he] at o1
    have O1 := Lib.hid o1; have BW := Lib.hid bw
    obtain ⟨av, cv, rfl, -, -⟩ := own_form o1
    have c0 := cell_blk x0 0; have c1 := cell_blk x0 1; have f0 := frozen_blk x0 0; have f1 := frozen_blk x0 1
    clear o1 b1' bw x0 he
    go_wp2_with fail
    refine bodyPost_ret (v := .tuple #[.agg #[.int .i64 bb, .slice av L.length cv], .int .i64 cc]) (by simp [results, Try.results67, go_sem, *]) rfl ?_
    exact ⟨_, rfl, own_base (ownsRow_setCell_below (ownsRow_setCell_below O1.out (by simp) _) (by simp) _) (by omega), (BW.out.setCell (by simp) _).setCell (by simp) _⟩
set_option maxHeartbeats 2000000 in
theorem spec_MultiplyProgram (b n : Int) (sh : Bool) (w : World) (hT : allT (turnsL b n sh) = true) (hTl : (turnsL b n sh).length ≤ 62500000) :
    Calls Try.prog 42 #[.int .i64 b, .int .i64 n, .bool sh] w (RetRecI w (muN b n sh) (muL b n sh) (codeR b n)) := by
  have hcc : codeR b n = 0 ∨ (codeR b n = 2 ∧ muN b n sh = 0 ∧ muL b n sh = []) := by
    cases h : tin b n
    · exact .inr ⟨by simp [codeR, h], by simp [muN, muL, turnsL, h, mulTo], by simp [muL, turnsL, h, mulTo]⟩
    · exact .inl (by simp [codeR, h])
  have D := Lib.hid (fun wx => spec_l12Digits b n sh wx)
  have HMU := Lib.hid (show muL b n sh = mulTo (turnsL b n sh) (turnsL b n sh).length from rfl)
  have HMN := Lib.hid (show muN b n sh = (mulTo (turnsL b n sh) (turnsL b n sh).length).length / 2 from rfl)
  generalize turnsL b n sh = ts at *
  generalize fewB b n = bb at *
  have HT := Lib.hid hT; have HTL := Lib.hid hTl; clear hT
  rcases hcc with h0 | ⟨h2, hN, hL⟩
  · have H0 := Lib.hid h0
    rw [h0] at D ⊢
    clear h0
    go_enter Try.func42, Try.ntmps42
    go_wp2_with fail
    refine (D.out _).mono ?_; rintro e w1 ⟨v1, rfl, o1, b1⟩
    have O1 := Lib.hid o1; have B1 := Lib.hid b1; have s1 := b1.size
    obtain ⟨av, cv, rfl, -, -⟩ := own_form o1
    clear o1 b1
    go_wp2_with fail
    refine (spec_l12Turns bb _ (own_alloc O1.out _) (cell_blk (heap_last _ _) 0) (cell_blk (heap_last _ _) 1) HTL.out HT.out).mono ?_; rintro e w2 ⟨v2, rfl, o2, b2⟩
    have O2 := Lib.hid o2; have B2 := Lib.hid (Below.trans_size (B1.out.alloc B1.out.size _) b2); clear o2
    go_wp2_with fail
    refine bodyPost_ret (v := .tuple #[v2, .int .i64 0]) (by simp [results, Try.results42, go_sem, *]) rfl ?_
    exact ⟨_, rfl, by rw [HMU.out, HMN.out]; exact recr_base O2.out (by simp; omega), B2.out⟩
  · rw [h2] at D ⊢
    rw [hN, hL]
    clear h2 hN hL
    go_enter Try.func42, Try.ntmps42
    go_wp2_with fail
    refine (D.out _).mono ?_; rintro e w1 ⟨v1, rfl, o1, b1⟩
    have B1 := Lib.hid b1
    obtain ⟨av, cv, rfl, -, -⟩ := own_form o1
    clear o1 b1
    go_wp2_with fail
    refine bodyPost_ret (v := .tuple #[.slice none 0 0, .int .i64 2]) (by simp [results, Try.results42, go_sem, *]) rfl ?_
    exact ⟨_, rfl, recr_nil, B1.out.alloc B1.out.size _⟩
end Go.Proofs.Ytidpoeojkifonaa
