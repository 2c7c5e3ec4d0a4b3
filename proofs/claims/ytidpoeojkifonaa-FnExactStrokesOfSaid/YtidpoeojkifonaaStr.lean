/- Strokes of turns: both packages return the same plain list. -/
import Derived.IntWalk
import Derived.Test.YtidpoeojkifonaaTns2
namespace Go.Proofs.Ytidpoeojkifonaa
open Go.ChangeShapes Go.WideShapes Go.ChangeAt Go.RowKit
def kd (x : Int) : Int := if x < 0 then 2 else 1
def strk (l : List Int) : Nat → List Int
  | 0 => List.replicate (l.length - 1) 3
  | j + 1 => strk l j ++ List.replicate (iabs (nth l (l.length - (j + 1)))).toNat (kd (nth l (l.length - (j + 1)))) ++ (if j + 1 < l.length then [4] else [])
def strR (b : Int) (l : List Int) : List Int × Int := if validT b l then (if (strk l l.length).length ≤ 300 then (strk l l.length, 0) else ([], 5)) else ([], 1)
theorem strk_len {l : List Int} (ha : allT l = true) (hl : l.length ≤ 40) : ∀ j, j ≤ l.length → (strk l j).length ≤ 40 + 17 * j
  | 0, _ => by simp [strk]; omega
  | j + 1, h => by
    have i := strk_len ha hl j (by omega)
    have a := iabs16 (all_get ha (j := l.length - (j + 1)) (by omega))
    unfold strk
    simp only [List.length_append, List.length_replicate]
    split <;> simp <;> omega
theorem strR_len (b : Int) (l : List Int) : (strR b l).1.length ≤ 1000 := by
  unfold strR; split
  · split
    · show (strk l l.length).length ≤ _; omega
    · simp
  · simp
theorem rep_snoc (n : Nat) (x : Int) : List.replicate n x ++ [x] = List.replicate (n + 1) x := by rw [List.replicate_succ']
theorem rep_snoc2 (l : List Int) (n : Nat) (x : Int) : (l ++ List.replicate n x) ++ [x] = l ++ List.replicate (n + 1) x := by rw [List.append_assoc, rep_snoc]
set_option maxHeartbeats 4000000 in
theorem impl_StrokesOf {B : Nat} {v : Value} {xs : List Int} (b : Int) (w : World) (h : Own w B v xs) (hlen : xs.length ≤ 1048576) :
    Calls Try.prog 38 #[.agg #[.int .i64 b, v]] w (RetOwnI w (strR b xs).1 (strR b xs).2) := by
  have HX := Lib.hid h
  obtain ⟨a1, c1, rfl, m1, q1⟩ := own_form h
  have QQ := Lib.hid q1; clear q1 h
  cases hv : validT b xs
  · rw [show strR b xs = ([], 1) from by simp [strR, hv]]
    have HV := Lib.hid hv; clear hv
    go_enter Try.func38, Try.ntmps38
    go_wp2_with fail
    refine (impl_ValidTurns b _ (own_alloc HX.out _) hlen).mono ?_; rintro e w1 ⟨rfl, b1⟩; rw [HV.out]
    have BW := Lib.hid ((blk1 b1).2.1); clear b1
    go_wp2_with fail
    go_ret2
    exact ⟨_, rfl, own_nil, BW.out⟩
  have HV := Lib.hid hv
  obtain ⟨-, h40, hA, -⟩ := validT_parts hv
  have HA := Lib.hid hA
  have HR := Lib.hid (show strR b xs = (if (strk xs xs.length).length ≤ 300 then (strk xs xs.length, 0) else ([], 5)) from by simp [strR, hv])
  clear hA hv
  go_enter Try.func38, Try.ntmps38
  go_wp2_with fail
  refine (impl_ValidTurns b _ (own_alloc HX.out _) hlen).mono ?_; rintro e w1 ⟨rfl, b1⟩; rw [HV.out]
  obtain ⟨x0, bw, hsz, -⟩ := blk1 b1
  have CB := Lib.hid (cell_blk x0 1); have BW := Lib.hid bw
  have X1 := Lib.hid (own_keep b1 (own_alloc HX.out _))
  have cb := cell_blk x0 1
  clear b1 x0 bw
  have QW := Lib.hid (show ∀ j, j < xs.length → ∃ g, a1 = some ⟨g, 0, none⟩ ∧ w1.cell? ⟨g, j, none⟩ = some (.int .i64 (nth xs j)) from by
    intro j hj; obtain ⟨_, _, e, _, q⟩ := own_form X1.out; injection e with e1; subst e1; exact q j hj)
  obtain ⟨K, hKK⟩ : ∃ K, K = w1.heap.size := ⟨_, rfl⟩
  have hK : w.heap.size < K := by omega
  have HKE := Lib.hid hKK
  have hK1 : w.heap.size < w1.heap.size := by omega
  go_wp2_with fail
  go_loopw [4, 15] (fun o i wr => ∃ k : Nat, k ≤ xs.length - 1 ∧ i = .int .i64 k ∧ Own wr K o (List.replicate k 3) ∧ Below K w1 wr ∧ K ≤ wr.heap.size) (fun _ i _ => (100 - intOf i).toNat)
  case atStart => exact ⟨0, Nat.zero_le _, by first | rfl | simp, by rw [HKE.out]; exact own_empty w1 w1.heap.size (Nat.le_refl _), by rw [HKE.out]; exact (Below.refl _ _).alloc (Nat.le_refl _) _, by rw [HKE.out]; simp⟩
  case round =>
    clear cb
    obtain ⟨k, hk, rfl, ho, hbw, hs⟩ := hrel
    have HO := Lib.hid ho; have HBW := Lib.hid hbw
    obtain ⟨a2, c2, rfl, -, -⟩ := own_form ho
    have cb := (hbw.cell (p := ⟨w.heap.size, 1, none⟩) hK).trans CB.out
    clear ho hbw
    by_cases hlt : k < xs.length - 1
    · go_wp2_with (at_builtin; refine wp_app rfl _ _ rfl _ _ (own_alloc HO.out _) rfl rfl (by simp; rfl) (by simp; omega) (by simp; omega) ?_; intro v' w9 ho' hg')
      obtain ⟨hb', hs'⟩ := app_below HBW.out HO.out hg' (Nat.le_refl _) hs
      rw [rep_snoc] at ho'
      have O9 := Lib.hid ho'; have B9 := Lib.hid hb'; clear ho' hb' hg'
      go_wp2_with fail
      go_roundw
      case rel => exact ⟨k + 1, by omega, by go_num, O9.out, B9.out, hs'⟩
      case measure => first | (simp [intOf]; done) | (simp [intOf]; omega)
    · obtain rfl : k = xs.length - 1 := by omega
      go_wp2_with fail
      go_loopw [4, 5] (fun o i wr => ∃ j : Nat, j ≤ xs.length ∧ i = .int .i64 ((xs.length : Int) - 1 - j) ∧ Own wr K o (strk xs j) ∧ Below K w1 wr ∧ K ≤ wr.heap.size) (fun _ i _ => (intOf i + 1).toNat)
      case atStart => exact ⟨0, Nat.zero_le _, by simp, HO.out, HBW.out, hs⟩
      case round =>
        clear cb HO HBW hs
        obtain ⟨j, hj, rfl, ho, hbw, hs⟩ := hrel
        have hL := strk_len HA.out h40 j hj
        have HO := Lib.hid ho; have HBW := Lib.hid hbw
        obtain ⟨a2, c2, rfl, -, -⟩ := own_form ho
        have cb := (hbw.cell (p := ⟨w.heap.size, 1, none⟩) hK).trans CB.out
        by_cases hlt : j < xs.length
        · obtain ⟨g, rfl, qg⟩ := QW.out (xs.length - (j + 1)) (by omega)
          have QG := Lib.hid qg
          have hgK : g < K := by rw [HKE.out]; exact World.block_lt_of_cell? w1 _ qg
          have q := (hbw.cell (p := ⟨g, xs.length - (j + 1), none⟩) hgK).trans qg
          clear ho hbw qg
          have t0 := inB_iff.1 (all_get HA.out (j := xs.length - (j + 1)) (by omega))
          obtain ⟨tl, th⟩ := t0
          have aa := iabs16 (all_get HA.out (j := xs.length - (j + 1)) (by omega))
          obtain ⟨A, hAA⟩ : ∃ A : Nat, A = (iabs (nth xs (xs.length - (j + 1)))).toNat := ⟨_, rfl⟩
          have HAA := Lib.hid hAA
          have HAI := Lib.hid (show iabs (nth xs (xs.length - (j + 1))) = (A : Int) from by omega)
          have hA16 : A ≤ 16 := by omega
          clear aa hAA
          have i0 : (0 : Int) ≤ (xs.length : Int) - 1 - (j : Int) := by omega
          have i1 : (xs.length : Int) - 1 - (j : Int) < (xs.length : Int) := by omega
          have i2 : ((xs.length : Int) - 1 - (j : Int)).toNat = xs.length - (j + 1) := by omega
          by_cases sg : nth xs (xs.length - (j + 1)) < 0
          · have HKD := Lib.hid (show kd (nth xs (xs.length - (j + 1))) = 2 from if_pos sg)
            go_wp2_with fail
            refine (impl_absolute _ _ (by omega) (by omega)).mono ?_; rintro e w' ⟨rfl, rfl⟩; rw [HAI.out]
            go_wp2_with fail
            go_loopw [4, 41] (fun o c wr => ∃ r : Nat, r ≤ A ∧ c = .int .i64 r ∧ Own wr K o (strk xs j ++ List.replicate r (2 : Int)) ∧ Below K w1 wr ∧ K ≤ wr.heap.size) (fun _ c _ => (100 - intOf c).toNat)
            case atStart => exact ⟨0, Nat.zero_le _, by first | rfl | simp, by rw [List.replicate_zero, List.append_nil]; exact HO.out, HBW.out, hs⟩
            case round =>
              clear HO HBW hs cb q
              obtain ⟨r, hr, rfl, ho, hbw, hs⟩ := hrel
              have HO := Lib.hid ho; have HBW := Lib.hid hbw
              obtain ⟨a2, c2, rfl, -, -⟩ := own_form ho
              have cb := (hbw.cell (p := ⟨w.heap.size, 1, none⟩) hK).trans CB.out
              have q := (hbw.cell (p := ⟨g, xs.length - (j + 1), none⟩) hgK).trans QG.out
              clear ho hbw
              by_cases hra : r < A
              · go_wp2_with (at_builtin; refine wp_app rfl _ _ rfl _ _ (own_alloc HO.out _) rfl rfl (by simp; rfl) (by simp; omega) (by simp; omega) ?_; intro v' w9 ho' hg')
                obtain ⟨hb', hs'⟩ := app_below HBW.out HO.out hg' (Nat.le_refl _) hs
                rw [rep_snoc2] at ho'
                have O9 := Lib.hid ho'; have B9 := Lib.hid hb'; clear ho' hb' hg'
                go_wp2_with fail
                go_roundw
                case rel => exact ⟨r + 1, by omega, by first | go_num | (congr 1; omega), O9.out, B9.out, hs'⟩
                case measure => first | (simp [intOf]; done) | (simp [intOf]; omega)
              · obtain rfl : r = A := by omega
                by_cases hlast : j + 1 < xs.length
                · have HN := Lib.hid (show strk xs j ++ List.replicate r (2 : Int) ++ [4] = strk xs (j + 1) from by conv => rhs; unfold strk; rw [if_pos hlast, ← HAA.out, HKD.out])
                  go_wp2_with (at_builtin; refine wp_app rfl _ _ rfl _ _ (own_alloc HO.out _) rfl rfl (by simp; rfl) (by simp; omega) (by simp; omega) ?_; intro v' w9 ho' hg')
                  obtain ⟨hb', hs'⟩ := app_below HBW.out HO.out hg' (Nat.le_refl _) hs
                  rw [HN.out] at ho'
                  have O9 := Lib.hid ho'; have B9 := Lib.hid hb'; clear ho' hb' hg'
                  go_wp2_with fail
                  go_roundw
                  case rel => exact ⟨j + 1, by omega, by go_num, O9.out, B9.out, hs'⟩
                  case measure => first | (simp [intOf]; done) | (simp [intOf]; omega)
                · have HN := Lib.hid (show strk xs j ++ List.replicate r (2 : Int) = strk xs (j + 1) from by conv => rhs; unfold strk; rw [if_neg hlast, ← HAA.out, List.append_nil, HKD.out])
                  go_wp2_with fail
                  go_roundw
                  case rel => exact ⟨j + 1, by omega, by go_num, by rw [← HN.out]; exact HO.out, HBW.out, hs⟩
                  case measure => first | (simp [intOf]; done) | (simp [intOf]; omega)
          · have HKD := Lib.hid (show kd (nth xs (xs.length - (j + 1))) = 1 from if_neg sg)
            go_wp2_with fail
            refine (impl_absolute _ _ (by omega) (by omega)).mono ?_; rintro e w' ⟨rfl, rfl⟩; rw [HAI.out]
            go_wp2_with fail
            go_loopw [4, 41] (fun o c wr => ∃ r : Nat, r ≤ A ∧ c = .int .i64 r ∧ Own wr K o (strk xs j ++ List.replicate r (1 : Int)) ∧ Below K w1 wr ∧ K ≤ wr.heap.size) (fun _ c _ => (100 - intOf c).toNat)
            case atStart => exact ⟨0, Nat.zero_le _, by first | rfl | simp, by rw [List.replicate_zero, List.append_nil]; exact HO.out, HBW.out, hs⟩
            case round =>
              clear HO HBW hs cb q
              obtain ⟨r, hr, rfl, ho, hbw, hs⟩ := hrel
              have HO := Lib.hid ho; have HBW := Lib.hid hbw
              obtain ⟨a2, c2, rfl, -, -⟩ := own_form ho
              have cb := (hbw.cell (p := ⟨w.heap.size, 1, none⟩) hK).trans CB.out
              have q := (hbw.cell (p := ⟨g, xs.length - (j + 1), none⟩) hgK).trans QG.out
              clear ho hbw
              by_cases hra : r < A
              · go_wp2_with (at_builtin; refine wp_app rfl _ _ rfl _ _ (own_alloc HO.out _) rfl rfl (by simp; rfl) (by simp; omega) (by simp; omega) ?_; intro v' w9 ho' hg')
                obtain ⟨hb', hs'⟩ := app_below HBW.out HO.out hg' (Nat.le_refl _) hs
                rw [rep_snoc2] at ho'
                have O9 := Lib.hid ho'; have B9 := Lib.hid hb'; clear ho' hb' hg'
                go_wp2_with fail
                go_roundw
                case rel => exact ⟨r + 1, by omega, by first | go_num | (congr 1; omega), O9.out, B9.out, hs'⟩
                case measure => first | (simp [intOf]; done) | (simp [intOf]; omega)
              · obtain rfl : r = A := by omega
                by_cases hlast : j + 1 < xs.length
                · have HN := Lib.hid (show strk xs j ++ List.replicate r (1 : Int) ++ [4] = strk xs (j + 1) from by conv => rhs; unfold strk; rw [if_pos hlast, ← HAA.out, HKD.out])
                  go_wp2_with (at_builtin; refine wp_app rfl _ _ rfl _ _ (own_alloc HO.out _) rfl rfl (by simp; rfl) (by simp; omega) (by simp; omega) ?_; intro v' w9 ho' hg')
                  obtain ⟨hb', hs'⟩ := app_below HBW.out HO.out hg' (Nat.le_refl _) hs
                  rw [HN.out] at ho'
                  have O9 := Lib.hid ho'; have B9 := Lib.hid hb'; clear ho' hb' hg'
                  go_wp2_with fail
                  go_roundw
                  case rel => exact ⟨j + 1, by omega, by go_num, O9.out, B9.out, hs'⟩
                  case measure => first | (simp [intOf]; done) | (simp [intOf]; omega)
                · have HN := Lib.hid (show strk xs j ++ List.replicate r (1 : Int) = strk xs (j + 1) from by conv => rhs; unfold strk; rw [if_neg hlast, ← HAA.out, List.append_nil, HKD.out])
                  go_wp2_with fail
                  go_roundw
                  case rel => exact ⟨j + 1, by omega, by go_num, by rw [← HN.out]; exact HO.out, HBW.out, hs⟩
                  case measure => first | (simp [intOf]; done) | (simp [intOf]; omega)
        · clear ho hbw
          obtain rfl : j = xs.length := by omega
          by_cases hf : (strk xs xs.length).length ≤ 300
          · have HF := Lib.hid (show strR b xs = (strk xs xs.length, 0) from by rw [HR.out, if_pos hf])
            go_wp2_with fail
            go_ret2
            exact ⟨_, by rw [HF.out]; rfl, by rw [HF.out]; exact own_base HO.out (by omega), BW.out.trans (HBW.out.mono (by omega))⟩
          · have HF := Lib.hid (show strR b xs = ([], 5) from by rw [HR.out, if_neg hf])
            go_wp2_with fail
            go_ret2
            exact ⟨_, by rw [HF.out]; rfl, by rw [HF.out]; exact own_nil, BW.out.trans (HBW.out.mono (by omega))⟩
set_option maxHeartbeats 4000000 in
theorem spec_StrokesOf {B : Nat} {v : Value} {xs : List Int} (b : Int) (w : World) (h : Own w B v xs) (hlen : xs.length ≤ 1048576) :
    Calls Try.prog 37 #[.agg #[.int .i64 b, v]] w (RetOwnI w (strR b xs).1 (strR b xs).2) := by
  have HX := Lib.hid h
  obtain ⟨a1, c1, rfl, m1, q1⟩ := own_form h
  have QQ := Lib.hid q1; clear q1 h
  cases hv : validT b xs
  · rw [show strR b xs = ([], 1) from by simp [strR, hv]]
    have HV := Lib.hid hv; clear hv
    go_enter Try.func37, Try.ntmps37
    go_wp2_with fail
    refine (spec_l13Ok b _ _ (own_alloc HX.out _) (cell_blk (heap_last _ _) 0) (cell_blk (heap_last _ _) 1) hlen).mono ?_; rintro e w1 ⟨rfl, b1⟩; rw [HV.out]
    have BW := Lib.hid ((blk1 b1).2.1); clear b1
    go_wp2_with fail
    go_ret2
    exact ⟨_, rfl, own_nil, BW.out⟩
  have HV := Lib.hid hv
  obtain ⟨-, h40, hA, -⟩ := validT_parts hv
  have HA := Lib.hid hA
  have HR := Lib.hid (show strR b xs = (if (strk xs xs.length).length ≤ 300 then (strk xs xs.length, 0) else ([], 5)) from by simp [strR, hv])
  clear hA hv
  go_enter Try.func37, Try.ntmps37
  go_wp2_with fail
  refine (spec_l13Ok b _ _ (own_alloc HX.out _) (cell_blk (heap_last _ _) 0) (cell_blk (heap_last _ _) 1) hlen).mono ?_; rintro e w1 ⟨rfl, b1⟩; rw [HV.out]
  obtain ⟨x0, bw, hsz, -⟩ := blk1 b1
  have CB := Lib.hid (cell_blk x0 1); have BW := Lib.hid bw
  have X1 := Lib.hid (own_keep b1 (own_alloc HX.out _))
  have cb := cell_blk x0 1
  clear b1 x0 bw
  have QW := Lib.hid (show ∀ j, j < xs.length → ∃ g, a1 = some ⟨g, 0, none⟩ ∧ w1.cell? ⟨g, j, none⟩ = some (.int .i64 (nth xs j)) from by
    intro j hj; obtain ⟨_, _, e, _, q⟩ := own_form X1.out; injection e with e1; subst e1; exact q j hj)
  obtain ⟨K, hKK⟩ : ∃ K, K = w1.heap.size := ⟨_, rfl⟩
  have hK : w.heap.size < K := by omega
  have HKE := Lib.hid hKK
  have hK1 : w.heap.size < w1.heap.size := by omega
  go_wp2_with fail
  go_loopw [4, 5] (fun o i wr => ∃ k : Nat, k ≤ xs.length - 1 ∧ i = .int .i64 ((k : Int) + 1) ∧ Own wr K o (List.replicate k 3) ∧ Below K w1 wr ∧ K ≤ wr.heap.size) (fun _ i _ => (100 - intOf i).toNat)
  case atStart => exact ⟨0, Nat.zero_le _, by first | rfl | simp, by rw [HKE.out]; exact own_empty w1 w1.heap.size (Nat.le_refl _), by rw [HKE.out]; exact (Below.refl _ _).alloc (Nat.le_refl _) _, by rw [HKE.out]; simp⟩
  case round =>
    clear cb
    obtain ⟨k, hk, rfl, ho, hbw, hs⟩ := hrel
    have HO := Lib.hid ho; have HBW := Lib.hid hbw
    obtain ⟨a2, c2, rfl, -, -⟩ := own_form ho
    have cb := (hbw.cell (p := ⟨w.heap.size, 1, none⟩) hK).trans CB.out
    clear ho hbw
    by_cases hlt : k < xs.length - 1
    · go_wp2_with (at_builtin; refine wp_app rfl _ _ rfl _ _ (own_alloc HO.out _) rfl rfl (by simp; rfl) (by simp; omega) (by simp; omega) ?_; intro v' w9 ho' hg')
      obtain ⟨hb', hs'⟩ := app_below HBW.out HO.out hg' (Nat.le_refl _) hs
      rw [rep_snoc] at ho'
      have O9 := Lib.hid ho'; have B9 := Lib.hid hb'; clear ho' hb' hg'
      go_wp2_with fail
      go_roundw
      case rel => exact ⟨k + 1, by omega, by go_num, O9.out, B9.out, hs'⟩
      case measure => first | (simp [intOf]; done) | (simp [intOf]; omega)
    · obtain rfl : k = xs.length - 1 := by omega
      go_wp2_with fail
      go_loopw [4, 6] (fun o i wr => ∃ j : Nat, j ≤ xs.length ∧ i = .int .i64 ((xs.length : Int) - 1 - j) ∧ Own wr K o (strk xs j) ∧ Below K w1 wr ∧ K ≤ wr.heap.size) (fun _ i _ => (intOf i + 1).toNat)
      case atStart => exact ⟨0, Nat.zero_le _, by simp, HO.out, HBW.out, hs⟩
      case round =>
        clear cb HO HBW hs
        obtain ⟨j, hj, rfl, ho, hbw, hs⟩ := hrel
        have hL := strk_len HA.out h40 j hj
        have HO := Lib.hid ho; have HBW := Lib.hid hbw
        obtain ⟨a2, c2, rfl, -, -⟩ := own_form ho
        have cb := (hbw.cell (p := ⟨w.heap.size, 1, none⟩) hK).trans CB.out
        by_cases hlt : j < xs.length
        · obtain ⟨g, rfl, qg⟩ := QW.out (xs.length - (j + 1)) (by omega)
          have QG := Lib.hid qg
          have hgK : g < K := by rw [HKE.out]; exact World.block_lt_of_cell? w1 _ qg
          have q := (hbw.cell (p := ⟨g, xs.length - (j + 1), none⟩) hgK).trans qg
          clear ho hbw qg
          have t0 := inB_iff.1 (all_get HA.out (j := xs.length - (j + 1)) (by omega))
          obtain ⟨tl, th⟩ := t0
          have aa := iabs16 (all_get HA.out (j := xs.length - (j + 1)) (by omega))
          obtain ⟨A, hAA⟩ : ∃ A : Nat, A = (iabs (nth xs (xs.length - (j + 1)))).toNat := ⟨_, rfl⟩
          have HAA := Lib.hid hAA
          have HAI := Lib.hid (show iabs (nth xs (xs.length - (j + 1))) = (A : Int) from by omega)
          have hA16 : A ≤ 16 := by omega
          clear aa hAA
          have i0 : (0 : Int) ≤ (xs.length : Int) - 1 - (j : Int) := by omega
          have i1 : (xs.length : Int) - 1 - (j : Int) < (xs.length : Int) := by omega
          have i2 : ((xs.length : Int) - 1 - (j : Int)).toNat = xs.length - (j + 1) := by omega
          by_cases sg : nth xs (xs.length - (j + 1)) < 0
          · have HKD := Lib.hid (show kd (nth xs (xs.length - (j + 1))) = 2 from if_pos sg)
            go_wp2_with fail
            refine (spec_l04Size _ _ (by omega) (by omega)).mono ?_; rintro e w' ⟨rfl, rfl⟩; rw [HAI.out]
            go_wp2_with fail
            go_loopw [4, 8] (fun o c wr => ∃ r : Nat, r ≤ A ∧ c = .int .i64 ((A : Int) - r) ∧ Own wr K o (strk xs j ++ List.replicate r (2 : Int)) ∧ Below K w1 wr ∧ K ≤ wr.heap.size) (fun _ c _ => (intOf c).toNat)
            case atStart => exact ⟨0, Nat.zero_le _, by first | rfl | simp, by rw [List.replicate_zero, List.append_nil]; exact HO.out, HBW.out, hs⟩
            case round =>
              clear HO HBW hs cb q
              obtain ⟨r, hr, rfl, ho, hbw, hs⟩ := hrel
              have HO := Lib.hid ho; have HBW := Lib.hid hbw
              obtain ⟨a2, c2, rfl, -, -⟩ := own_form ho
              have cb := (hbw.cell (p := ⟨w.heap.size, 1, none⟩) hK).trans CB.out
              have q := (hbw.cell (p := ⟨g, xs.length - (j + 1), none⟩) hgK).trans QG.out
              clear ho hbw
              by_cases hra : r < A
              · go_wp2_with (at_builtin; refine wp_app rfl _ _ rfl _ _ (own_alloc HO.out _) rfl rfl (by simp; rfl) (by simp; omega) (by simp; omega) ?_; intro v' w9 ho' hg')
                obtain ⟨hb', hs'⟩ := app_below HBW.out HO.out hg' (Nat.le_refl _) hs
                rw [rep_snoc2] at ho'
                have O9 := Lib.hid ho'; have B9 := Lib.hid hb'; clear ho' hb' hg'
                go_wp2_with fail
                go_roundw
                case rel => exact ⟨r + 1, by omega, by first | go_num | (congr 1; omega), O9.out, B9.out, hs'⟩
                case measure => first | (simp [intOf]; done) | (simp [intOf]; omega)
              · obtain rfl : r = A := by omega
                by_cases hlast : j + 1 < xs.length
                · have HN := Lib.hid (show strk xs j ++ List.replicate r (2 : Int) ++ [4] = strk xs (j + 1) from by conv => rhs; unfold strk; rw [if_pos hlast, ← HAA.out, HKD.out])
                  go_wp2_with (at_builtin; refine wp_app rfl _ _ rfl _ _ (own_alloc HO.out _) rfl rfl (by simp; rfl) (by simp; omega) (by simp; omega) ?_; intro v' w9 ho' hg')
                  obtain ⟨hb', hs'⟩ := app_below HBW.out HO.out hg' (Nat.le_refl _) hs
                  rw [HN.out] at ho'
                  have O9 := Lib.hid ho'; have B9 := Lib.hid hb'; clear ho' hb' hg'
                  go_wp2_with fail
                  go_roundw
                  case rel => exact ⟨j + 1, by omega, by go_num, O9.out, B9.out, hs'⟩
                  case measure => first | (simp [intOf]; done) | (simp [intOf]; omega)
                · have HN := Lib.hid (show strk xs j ++ List.replicate r (2 : Int) = strk xs (j + 1) from by conv => rhs; unfold strk; rw [if_neg hlast, ← HAA.out, List.append_nil, HKD.out])
                  go_wp2_with fail
                  go_roundw
                  case rel => exact ⟨j + 1, by omega, by go_num, by rw [← HN.out]; exact HO.out, HBW.out, hs⟩
                  case measure => first | (simp [intOf]; done) | (simp [intOf]; omega)
          · have HKD := Lib.hid (show kd (nth xs (xs.length - (j + 1))) = 1 from if_neg sg)
            go_wp2_with fail
            refine (spec_l04Size _ _ (by omega) (by omega)).mono ?_; rintro e w' ⟨rfl, rfl⟩; rw [HAI.out]
            go_wp2_with fail
            go_loopw [4, 8] (fun o c wr => ∃ r : Nat, r ≤ A ∧ c = .int .i64 ((A : Int) - r) ∧ Own wr K o (strk xs j ++ List.replicate r (1 : Int)) ∧ Below K w1 wr ∧ K ≤ wr.heap.size) (fun _ c _ => (intOf c).toNat)
            case atStart => exact ⟨0, Nat.zero_le _, by first | rfl | simp, by rw [List.replicate_zero, List.append_nil]; exact HO.out, HBW.out, hs⟩
            case round =>
              clear HO HBW hs cb q
              obtain ⟨r, hr, rfl, ho, hbw, hs⟩ := hrel
              have HO := Lib.hid ho; have HBW := Lib.hid hbw
              obtain ⟨a2, c2, rfl, -, -⟩ := own_form ho
              have cb := (hbw.cell (p := ⟨w.heap.size, 1, none⟩) hK).trans CB.out
              have q := (hbw.cell (p := ⟨g, xs.length - (j + 1), none⟩) hgK).trans QG.out
              clear ho hbw
              by_cases hra : r < A
              · go_wp2_with (at_builtin; refine wp_app rfl _ _ rfl _ _ (own_alloc HO.out _) rfl rfl (by simp; rfl) (by simp; omega) (by simp; omega) ?_; intro v' w9 ho' hg')
                obtain ⟨hb', hs'⟩ := app_below HBW.out HO.out hg' (Nat.le_refl _) hs
                rw [rep_snoc2] at ho'
                have O9 := Lib.hid ho'; have B9 := Lib.hid hb'; clear ho' hb' hg'
                go_wp2_with fail
                go_roundw
                case rel => exact ⟨r + 1, by omega, by first | go_num | (congr 1; omega), O9.out, B9.out, hs'⟩
                case measure => first | (simp [intOf]; done) | (simp [intOf]; omega)
              · obtain rfl : r = A := by omega
                by_cases hlast : j + 1 < xs.length
                · have HN := Lib.hid (show strk xs j ++ List.replicate r (1 : Int) ++ [4] = strk xs (j + 1) from by conv => rhs; unfold strk; rw [if_pos hlast, ← HAA.out, HKD.out])
                  go_wp2_with (at_builtin; refine wp_app rfl _ _ rfl _ _ (own_alloc HO.out _) rfl rfl (by simp; rfl) (by simp; omega) (by simp; omega) ?_; intro v' w9 ho' hg')
                  obtain ⟨hb', hs'⟩ := app_below HBW.out HO.out hg' (Nat.le_refl _) hs
                  rw [HN.out] at ho'
                  have O9 := Lib.hid ho'; have B9 := Lib.hid hb'; clear ho' hb' hg'
                  go_wp2_with fail
                  go_roundw
                  case rel => exact ⟨j + 1, by omega, by go_num, O9.out, B9.out, hs'⟩
                  case measure => first | (simp [intOf]; done) | (simp [intOf]; omega)
                · have HN := Lib.hid (show strk xs j ++ List.replicate r (1 : Int) = strk xs (j + 1) from by conv => rhs; unfold strk; rw [if_neg hlast, ← HAA.out, List.append_nil, HKD.out])
                  go_wp2_with fail
                  go_roundw
                  case rel => exact ⟨j + 1, by omega, by go_num, by rw [← HN.out]; exact HO.out, HBW.out, hs⟩
                  case measure => first | (simp [intOf]; done) | (simp [intOf]; omega)
        · clear ho hbw
          obtain rfl : j = xs.length := by omega
          by_cases hf : (strk xs xs.length).length ≤ 300
          · have HF := Lib.hid (show strR b xs = (strk xs xs.length, 0) from by rw [HR.out, if_pos hf])
            go_wp2_with fail
            go_ret2
            exact ⟨_, by rw [HF.out]; rfl, by rw [HF.out]; exact own_base HO.out (by omega), BW.out.trans (HBW.out.mono (by omega))⟩
          · have HF := Lib.hid (show strR b xs = ([], 5) from by rw [HR.out, if_neg hf])
            go_wp2_with fail
            go_ret2
            exact ⟨_, by rw [HF.out]; rfl, by rw [HF.out]; exact own_nil, BW.out.trans (HBW.out.mono (by omega))⟩
theorem laws_markTurnDigits {B : Nat} {v : Value} {zs : List Int} (b : Int) (w : World) (k : Int) (h1 : Own w B v zs) (h0 : 0 ≤ k) (hk : k ≤ 1000000000) (hl : zs.length ≤ 1000000000) :
    Calls Try.prog 23 #[.agg #[.int .i64 b, v], .int .i64 k] w fun e w' => e = .returned (.int .i64 (k + zs.length)) ∧ ∃ o, (w.alloc o).grownBy w' v.ownBlock := by
  have H1 := Lib.hid h1
  obtain ⟨a1, c1, rfl, -, -⟩ := own_form h1
  clear h1
  go_enter Try.func23, Try.ntmps23
  go_wp2_with fail
  refine (laws_markInt64S _ k (own_alloc H1.out _) h0 hk hl).mono ?_; rintro e w1 ⟨rfl, o1, g1⟩
  have G1 := Lib.hid g1; clear o1 g1
  go_wp2_with fail
  go_ret
  exact ⟨rfl, _, G1.out⟩
end Go.Proofs.Ytidpoeojkifonaa
