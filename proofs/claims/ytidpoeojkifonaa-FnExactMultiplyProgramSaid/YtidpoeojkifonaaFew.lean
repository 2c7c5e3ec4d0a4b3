/- The fewest turns of the reference: a struct whose slice grows in a loop. -/
import Derived.IntWalk
import Derived.Maps.AppendAt
import Derived.Test.YtidpoeojkifonaaLow
namespace Go.Proofs.Ytidpoeojkifonaa
open Go.ChangeShapes Go.WideShapes Go.ChangeAt Go.RowKit
theorem own_setCell_ne {w : World} {B : Nat} {v : Value} {zs : List Int} (h : Own w B v zs) {g j : Nat} {u : Value} (hne : v.ownBlock ≠ some g) : Own (w.setCell ⟨g, j, none⟩ u) B v zs := by
  refine ⟨h.1, ?_⟩
  rcases h.2 with hn | ⟨g', cap, cur, hv, hg, hh, r⟩
  · exact .inl hn
  · refine .inr ⟨g', cap, cur, hv, hg, ?_, r⟩
    rw [Below.heap_setCell _ _ _ _ ?_]
    · exact hh
    · intro e
      apply hne
      rw [hv]
      show some g' = some g
      rw [show g' = g from e]
theorem setCell_blk {w : World} {g : Nat} {a b : Value} {t : TypeId} (h : w.heap[g]? = some (.cells #[a, b] t)) (u : Value) : (w.setCell ⟨g, 1, none⟩ u).heap[g]? = some (.cells #[a, u] t) := by
  simp [World.setCell, Array.getElem?_modify, h]
/-- 'append(out, x)', out owned: besides, where the new slice lies -/
theorem wp_app_at {w : World} {ops : Array Oper} {rest : List Oper} {o : Oper} {a : Act} {Q : Exit → Act → World → Prop} (hgd : o.guard = none) (s x : Operand)
    (ho : o.op = .call { callee := .builtin .append, args := #[s, x], argTypes := #[22, 22] })
    {B : Nat} {v : Value} {zs : List Int} (n : Int) (g : Nat) (hown : Own w B v zs) (hs : a.eval s = v) (hx : a.eval x = .slice (some ⟨g, 0, none⟩) 1 1)
    (hc : w.cell? ⟨g, 0, none⟩ = some (.int .i64 n)) (hl : zs.length ≤ 1000000000) (hB : B ≤ w.heap.size)
    (h : ∀ v' w', Own w' B v' (zs ++ [n]) → w.grownBy w' v.ownBlock → (v'.ownBlock = v.ownBlock ∨ v'.ownBlock = some w.heap.size) → wpList Try.prog ops Q rest (a.put o.dst v') w') : wpList Try.prog ops Q (o :: rest) a w := by
  obtain ⟨i0, hi, hz0, hz1, hz2⟩ := info_parts tinfo
  refine wpList_append_own_at w hgd s x 22 ho B 2 i0 (.int .i64 0) 1 8 Try.underlying22 hi hz0 hz1 hz2 rfl (by decide) v zs.length _ hs hown ⟨g, 0, none⟩ 1 1 [.int .i64 n] hx rfl ?_ ?_ ?_ ?_ hB ?_
  · intro j u hu
    match j with
    | 0 => simp at hu; subst hu; rw [Addr.add]; exact hc
    | j + 1 => simp at hu
  · intro u hu; simp at hu; subst hu; rfl
  · unfold maxLen; omega
  · omega
  · intro v' w' h1 h2 _ h4
    exact h v' w' (by unfold Own; rw [List.length_append, List.map_append]; exact h1) h2 h4
theorem loc_ne {v v' : Value} {n g : Nat} (hloc : v'.ownBlock = v.ownBlock ∨ v'.ownBlock = some n) (h : some g ≠ v.ownBlock) (hg : g < n) : v'.ownBlock ≠ some g := by
  intro h5
  rcases hloc with e | e
  · exact h (by rw [← e, h5])
  · rw [e] at h5; injection h5 with h5; omega
set_option maxHeartbeats 4000000 in
theorem spec_l13Few (b n : Nat) (w : World) (hb : 2 ≤ b) (hb2 : b ≤ 16) (hn : n ≤ 62500000) :
    Calls Try.prog 61 #[.int .i64 b, .int .i64 n] w fun e w' => RetAgg w b (few b n) e w' ∧ allT (few b n) = true ∧ (few b n).length ≤ 62500000 := by
  go_enter Try.func61, Try.ntmps61
  go_wp2_with fail
  go_loopw [1, 6, 7] (fun i _ _ wr => ∃ (m : Nat) (l : List Int) (v : Value), i = .int .i64 m ∧ m + l.length ≤ 62500000 ∧ Own wr w.heap.size v l ∧ some w.heap.size ≠ v.ownBlock ∧ some (w.heap.size + 1 + 1) ≠ v.ownBlock ∧ wr.heap[w.heap.size]? = some (.cells #[.int .i64 0, .slice none 0 0] 27) ∧ wr.heap[w.heap.size + 1 + 1]? = some (.cells #[.int .i64 b, v] 27) ∧ Below w.heap.size w wr ∧ w.heap.size + 3 ≤ wr.heap.size ∧ Hid (l ++ few b m = few b n) ∧ Hid (allT l = true)) (fun i _ _ _ => (intOf i).toNat)
  case atStart =>
    obtain ⟨x0, x1, x2, bw, hs, he⟩ := blk3 (Below.refl _ _)
    exact ⟨n, [], _, rfl, by simpa using hn, by have h := own_alloc (own_empty (w.alloc (.cells #[.int .i64 0, .slice none 0 0] 27)) w.heap.size (by simp)) (.cells #[.int .i64 b, .slice (some ⟨w.heap.size + 1, 0, none⟩) 0 0] 27); simpa using h, by simp [Value.ownBlock], by simp [Value.ownBlock], x0, x2, bw, by omega, rfl, rfl⟩
  case round =>
    obtain ⟨m, l, v, rfl, hm, ho, n4, n5, h4, h5, hbw, hs, hf, ha⟩ := hrel
    have H4 := Lib.hid h4; have H5 := Lib.hid h5; have N4 := Lib.hid n4; have N5 := Lib.hid n5
    have HO := Lib.hid ho; have HBW := Lib.hid hbw
    obtain ⟨a, cap, rfl, -, -⟩ := own_form ho
    have c0 := cell_blk h5 0; have c1 := cell_blk h5 1; have f1 := frozen_blk h5 1
    clear ho hbw n4 n5
    by_cases hm0 : m = 0
    · subst hm0
      have HF := Lib.hid (show l = few b n from by have := hf.out; rwa [few_zero, List.append_nil] at this)
      have d0 := cell_blk h4 0; have d1 := cell_blk h4 1; have g0 := frozen_blk h4 0; have g1 := frozen_blk h4 1
      clear h4 h5 hf
      go_wp2_with fail
      refine bodyPost_ret (v := .agg #[.int .i64 b, .slice a l.length cap]) (by simp [results, Try.results61, go_sem, *]) rfl ?_
      exact ⟨⟨_, by rfl, by rw [← HF.out]; exact own_setCell_ne (own_setCell_ne HO.out (fun e => N4.out e.symm)) (fun e => N4.out e.symm), (HBW.out.setCell (by simp) _).setCell (by simp) _⟩, by rw [← HF.out]; exact ha.out, by rw [← HF.out]; simpa using hm⟩
    · have z1 : (0 : Int) < (m : Int) := by omega
      clear h4 h5
      have d := div_mod_b (n := m) hb
      obtain ⟨d1, d2⟩ := d
      have zb2 : ¬ (b : Int) = 0 := by omega
      obtain ⟨D, hD⟩ : ∃ D : Nat, D = m % b := ⟨_, rfl⟩
      obtain ⟨Q, hQ⟩ : ∃ Q : Nat, Q = m / b := ⟨_, rfl⟩
      obtain ⟨E, hE⟩ : ∃ E : Nat, E = Q % b := ⟨_, rfl⟩
      have eD : (m : Int) % (b : Int) = (D : Int) := by rw [hD]; simp
      have eQ : (m : Int) / (b : Int) = (Q : Int) := by rw [hQ]; simp
      have eE : (Q : Int) % (b : Int) = (E : Int) := by rw [hE]; simp
      have hk : keepB b m = (decide (2 * D < b) || (decide (2 * D = b) && decide (2 * E < b - 1))) := by unfold keepB; rw [hE, hQ, hD]
      have hdec := few_dec (n := m) hb hm0
      have hqm := div_lt' (n := m) hb hm0
      have hfk := few_keep (n := m) hb hm0
      have hfu := few_up (n := m) hb hm0
      have hEb : E < b := by rw [hE]; exact Nat.mod_lt _ (by omega)
      rw [← hD, ← hQ] at *
      clear hD hQ hE
      have HK := Lib.hid hk; have HDEC := Lib.hid hdec; have HFK := Lib.hid hfk; have HFU := Lib.hid hfu; clear hk hdec hfk hfu
      have HA := Lib.hid ha; have HF := Lib.hid hf; clear ha hf
      by_cases c1' : 2 * D < b
      · have HKB := Lib.hid (show keepB b m = true from by rw [HK.out]; simp; omega)
        have HN := Lib.hid (show (l ++ [(D : Int)]) ++ few b Q = few b n from by rw [← HF.out, HFK.out HKB.out, List.append_assoc]; rfl)
        have hsz : Q + (l.length + 1) ≤ 62500000 := by omega
        have HT := Lib.hid (allT_app HA.out (isT_in (x := (D : Int)) (by omega) (by omega)))
        go_wp2_with (at_builtin; refine wp_app_at rfl _ _ rfl _ _ (own_alloc HO.out _) rfl rfl (by simp; rfl) (by omega) (by simp; omega) ?_; intro v' w9 ho' hg' hloc; obtain ⟨hb', hs'⟩ := app_below HBW.out HO.out hg' (Nat.le_refl _) (by omega); have X4 := Lib.hid ((hg'.block w.heap.size (by simp; omega) N4.out).trans ((Below.heap_alloc _ _ _ (by omega)).trans H4.out)); have x5 := (hg'.block (w.heap.size + 1 + 1) (by simp; omega) N5.out).trans ((Below.heap_alloc _ _ _ (by omega)).trans H5.out); have hs9 := hg'.size; have M4 := Lib.hid (loc_ne hloc N4.out (by simp; omega)); have M5 := Lib.hid (loc_ne hloc N5.out (by simp; omega)); obtain ⟨av, cv, rfl, -, -⟩ := own_form ho'; have c0 := cell_blk x5 0; have c1 := cell_blk x5 1; have f1 := frozen_blk x5 1; have X5 := Lib.hid x5; have O9 := Lib.hid ho'; have B9 := Lib.hid hb'; clear ho' hb' hg' hloc x5)
        go_wp2_with fail
        go_roundw
        case rel => exact ⟨Q, l ++ [(D : Int)], _, by first | rfl | (congr 1; done) | (congr 1; omega), by simp; omega, own_setCell_ne O9.out M5.out, fun e => M4.out e.symm, fun e => M5.out e.symm, by rw [Below.heap_setCell _ _ _ _ (by simp; omega)]; exact X4.out, by rw [List.length_append]; exact setCell_blk X5.out _, B9.out.setCell (by simp; omega) _, by simp at *; omega, HN.out, HT.out⟩
        case measure => first | (simp [intOf]; done) | (simp [intOf]; omega)
      · by_cases c2' : 2 * D = b
        · by_cases c3' : 2 * E < b - 1
          · have HKB := Lib.hid (show keepB b m = true from by rw [HK.out]; simp; omega)
            have HN := Lib.hid (show (l ++ [(D : Int)]) ++ few b Q = few b n from by rw [← HF.out, HFK.out HKB.out, List.append_assoc]; rfl)
            have hsz : Q + (l.length + 1) ≤ 62500000 := by omega
            have HT := Lib.hid (allT_app HA.out (isT_in (x := (D : Int)) (by omega) (by omega)))
            go_wp2_with (at_builtin; refine wp_app_at rfl _ _ rfl _ _ (own_alloc HO.out _) rfl rfl (by simp; rfl) (by omega) (by simp; omega) ?_; intro v' w9 ho' hg' hloc; obtain ⟨hb', hs'⟩ := app_below HBW.out HO.out hg' (Nat.le_refl _) (by omega); have X4 := Lib.hid ((hg'.block w.heap.size (by simp; omega) N4.out).trans ((Below.heap_alloc _ _ _ (by omega)).trans H4.out)); have x5 := (hg'.block (w.heap.size + 1 + 1) (by simp; omega) N5.out).trans ((Below.heap_alloc _ _ _ (by omega)).trans H5.out); have hs9 := hg'.size; have M4 := Lib.hid (loc_ne hloc N4.out (by simp; omega)); have M5 := Lib.hid (loc_ne hloc N5.out (by simp; omega)); obtain ⟨av, cv, rfl, -, -⟩ := own_form ho'; have c0 := cell_blk x5 0; have c1 := cell_blk x5 1; have f1 := frozen_blk x5 1; have X5 := Lib.hid x5; have O9 := Lib.hid ho'; have B9 := Lib.hid hb'; clear ho' hb' hg' hloc x5)
            go_wp2_with fail
            go_roundw
            case rel => exact ⟨Q, l ++ [(D : Int)], _, by first | rfl | (congr 1; done) | (congr 1; omega), by simp; omega, own_setCell_ne O9.out M5.out, fun e => M4.out e.symm, fun e => M5.out e.symm, by rw [Below.heap_setCell _ _ _ _ (by simp; omega)]; exact X4.out, by rw [List.length_append]; exact setCell_blk X5.out _, B9.out.setCell (by simp; omega) _, by simp at *; omega, HN.out, HT.out⟩
            case measure => first | (simp [intOf]; done) | (simp [intOf]; omega)
          · have HKB := Lib.hid (show keepB b m = false from by rw [HK.out]; simp; omega)
            have hdd := HDEC.out HKB.out
            have HN := Lib.hid (show (l ++ [(D : Int) - (b : Int)]) ++ few b (Q + 1) = few b n from by rw [← HF.out, HFU.out HKB.out, List.append_assoc]; rfl)
            have hsz : Q + 1 + (l.length + 1) ≤ 62500000 := by omega
            have HT := Lib.hid (allT_app HA.out (isT_in (x := (D : Int) - (b : Int)) (by omega) (by omega)))
            go_wp2_with (at_builtin; refine wp_app_at rfl _ _ rfl _ _ (own_alloc HO.out _) rfl rfl (by simp; rfl) (by omega) (by simp; omega) ?_; intro v' w9 ho' hg' hloc; obtain ⟨hb', hs'⟩ := app_below HBW.out HO.out hg' (Nat.le_refl _) (by omega); have X4 := Lib.hid ((hg'.block w.heap.size (by simp; omega) N4.out).trans ((Below.heap_alloc _ _ _ (by omega)).trans H4.out)); have x5 := (hg'.block (w.heap.size + 1 + 1) (by simp; omega) N5.out).trans ((Below.heap_alloc _ _ _ (by omega)).trans H5.out); have hs9 := hg'.size; have M4 := Lib.hid (loc_ne hloc N4.out (by simp; omega)); have M5 := Lib.hid (loc_ne hloc N5.out (by simp; omega)); obtain ⟨av, cv, rfl, -, -⟩ := own_form ho'; have c0 := cell_blk x5 0; have c1 := cell_blk x5 1; have f1 := frozen_blk x5 1; have X5 := Lib.hid x5; have O9 := Lib.hid ho'; have B9 := Lib.hid hb'; clear ho' hb' hg' hloc x5)
            go_wp2_with fail
            go_roundw
            case rel => exact ⟨Q + 1, l ++ [(D : Int) - (b : Int)], _, by first | rfl | (congr 1; done) | (congr 1; omega), by simp; omega, own_setCell_ne O9.out M5.out, fun e => M4.out e.symm, fun e => M5.out e.symm, by rw [Below.heap_setCell _ _ _ _ (by simp; omega)]; exact X4.out, by rw [List.length_append]; exact setCell_blk X5.out _, B9.out.setCell (by simp; omega) _, by simp at *; omega, HN.out, HT.out⟩
            case measure => first | (simp [intOf]; done) | (simp [intOf]; omega)
        · have HKB := Lib.hid (show keepB b m = false from by rw [HK.out]; simp; omega)
          have hdd := HDEC.out HKB.out
          have HN := Lib.hid (show (l ++ [(D : Int) - (b : Int)]) ++ few b (Q + 1) = few b n from by rw [← HF.out, HFU.out HKB.out, List.append_assoc]; rfl)
          have hsz : Q + 1 + (l.length + 1) ≤ 62500000 := by omega
          have HT := Lib.hid (allT_app HA.out (isT_in (x := (D : Int) - (b : Int)) (by omega) (by omega)))
          go_wp2_with (at_builtin; refine wp_app_at rfl _ _ rfl _ _ (own_alloc HO.out _) rfl rfl (by simp; rfl) (by omega) (by simp; omega) ?_; intro v' w9 ho' hg' hloc; obtain ⟨hb', hs'⟩ := app_below HBW.out HO.out hg' (Nat.le_refl _) (by omega); have X4 := Lib.hid ((hg'.block w.heap.size (by simp; omega) N4.out).trans ((Below.heap_alloc _ _ _ (by omega)).trans H4.out)); have x5 := (hg'.block (w.heap.size + 1 + 1) (by simp; omega) N5.out).trans ((Below.heap_alloc _ _ _ (by omega)).trans H5.out); have hs9 := hg'.size; have M4 := Lib.hid (loc_ne hloc N4.out (by simp; omega)); have M5 := Lib.hid (loc_ne hloc N5.out (by simp; omega)); obtain ⟨av, cv, rfl, -, -⟩ := own_form ho'; have c0 := cell_blk x5 0; have c1 := cell_blk x5 1; have f1 := frozen_blk x5 1; have X5 := Lib.hid x5; have O9 := Lib.hid ho'; have B9 := Lib.hid hb'; clear ho' hb' hg' hloc x5)
          go_wp2_with fail
          go_roundw
          case rel => exact ⟨Q + 1, l ++ [(D : Int) - (b : Int)], _, by first | rfl | (congr 1; done) | (congr 1; omega), by simp; omega, own_setCell_ne O9.out M5.out, fun e => M4.out e.symm, fun e => M5.out e.symm, by rw [Below.heap_setCell _ _ _ _ (by simp; omega)]; exact X4.out, by rw [List.length_append]; exact setCell_blk X5.out _, B9.out.setCell (by simp; omega) _, by simp at *; omega, HN.out, HT.out⟩
          case measure => first | (simp [intOf]; done) | (simp [intOf]; omega)
end Go.Proofs.Ytidpoeojkifonaa
