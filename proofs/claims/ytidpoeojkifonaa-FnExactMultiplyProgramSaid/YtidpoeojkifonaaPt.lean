/- PlainTurns of the reference: a struct whose slice grows in a loop whose statement draws. -/
import Derived.IntWalk
import Derived.Maps.AppendAt
import Derived.Deep.RegionLaw
import Derived.Test.YtidpoeojkifonaaFewR
import Derived.Test.YtidpoeojkifonaaPln
namespace Go.Proofs.Ytidpoeojkifonaa
open Go.ChangeShapes Go.WideShapes Go.ChangeAt Go.RowKit
def plnL (b n : Int) : List Int := if tin b n then pln b.toNat n.toNat else []
theorem step_app_at {w : World} {ops : Array Oper} {o : Oper} {a : Act} {K : Act → World → Prop} {Q : Exit → Act → World → Prop} {E : Prop} (hgd : o.guard = none) (s x : Operand)
    (ho : o.op = .call { callee := .builtin .append, args := #[s, x], argTypes := #[22, 22] })
    {B : Nat} {v : Value} {zs : List Int} (n : Int) (g : Nat) (hown : Own w B v zs) (hs : a.eval s = v) (hx : a.eval x = .slice (some ⟨g, 0, none⟩) 1 1)
    (hc : w.cell? ⟨g, 0, none⟩ = some (.int .i64 n)) (hl : zs.length ≤ 1000000000) (hB : B ≤ w.heap.size)
    (h : ∀ v' w', Own w' B v' (zs ++ [n]) → w.grownBy w' v.ownBlock → (v'.ownBlock = v.ownBlock ∨ v'.ownBlock = some w.heap.size) → K (a.put o.dst v') w') : if Region.wanted o (yielded ops a.tmps) = true then Oper.wp Try.prog o a w K Q else E := by
  have hw : Region.wanted o (yielded ops a.tmps) = true := by simp [Region.wanted, hgd]
  rw [if_pos hw]
  obtain ⟨i0, hi, hz0, hz1, hz2⟩ := info_parts tinfo
  obtain ⟨v', w', hr, h2, h3, h4, h5⟩ := run_append_own_at (P := Try.prog) w B 22 o.type 2 i0 (.int .i64 0) 1 8 Try.underlying22 hi hz0 hz1 hz2 rfl (by decide) v zs.length _ hown ⟨g, 0, none⟩ 1 1 [.int .i64 n] rfl
    (fun j u hu => by
      match j with
      | 0 => simp at hu; subst hu; rw [Addr.add]; exact hc
      | j + 1 => simp at hu)
    (fun u hu => by simp at hu; subst hu; rfl) (by unfold maxLen; omega) (by omega) hB
  unfold Oper.wp execOp
  simp only [ho, resolve, invoke, builtin, Sem.run_bind, Sem.run_pure, Result.andThen_ok, List.map_toArray, List.map_cons, List.map_nil, hs, hx, hr]
  exact h _ _ (by unfold Own; rw [List.length_append, List.map_append]; exact h2) h3 h5
set_option maxHeartbeats 4000000 in
theorem spec_PlainTurns (b n : Int) (w : World) :
    Calls Try.prog 21 #[.int .i64 b, .int .i64 n] w (RetAggI w (fewB b n) (plnL b n) (codeR b n)) := by
  cases h : tin b n
  · rw [show fewB b n = 0 from by simp [fewB, h], show plnL b n = [] from by simp [plnL, h], show codeR b n = 2 from by simp [codeR, h]]
    have HC := Lib.hid (show codeR b n = 2 from by simp [codeR, h]); clear h
    go_enter Try.func21, Try.ntmps21
    go_wp2_with fail
    refine (spec_l13Code _ _ _).mono ?_; rintro e w' ⟨rfl, rfl⟩; rw [HC.out]
    go_wp2_with fail
    refine bodyPost_ret (v := .tuple #[.agg #[.int .i64 0, .slice none 0 0], .int .i64 2]) (by simp [results, Try.results21, go_sem, *]) rfl ?_
    exact ⟨_, rfl, own_nil, by first | exact ((below_a _ _).setCell (by simp) _).setCell (by simp) _ | exact below_a _ _⟩
  rw [show fewB b n = b from by simp [fewB, h], show plnL b n = pln b.toNat n.toNat from by simp [plnL, h], show codeR b n = 0 from by simp [codeR, h]]
  have HC := Lib.hid (show codeR b n = 0 from by simp [codeR, h])
  have h' := h; unfold tin at h'; simp only [Bool.and_eq_true] at h'
  obtain ⟨b0, hb2⟩ := inB_iff.1 h'.1
  obtain ⟨n0, n1⟩ := inB_iff.1 h'.2
  clear h h'
  obtain ⟨b, rfl⟩ := Int.eq_ofNat_of_zero_le (show 0 ≤ b by omega)
  obtain ⟨n, rfl⟩ := Int.eq_ofNat_of_zero_le n0
  have hb : 2 ≤ b := by omega
  rw [Int.toNat_natCast, Int.toNat_natCast]
  go_enter Try.func21, Try.ntmps21
  go_wp2_with fail
  refine (spec_l13Code _ _ _).mono ?_; rintro e w' ⟨rfl, rfl⟩; rw [HC.out]
  go_wp2_with fail
  go_loopw [8] (fun i wr => ∃ (m : Nat) (l : List Int) (v : Value), i = .int .i64 m ∧ m + l.length ≤ 62500000 ∧ Own wr w.heap.size v l ∧ some w.heap.size ≠ v.ownBlock ∧ some (w.heap.size + 1 + 1) ≠ v.ownBlock ∧ wr.heap[w.heap.size]? = some (.cells #[.int .i64 0, .slice none 0 0] 27) ∧ wr.heap[w.heap.size + 1 + 1]? = some (.cells #[.int .i64 b, v] 27) ∧ Below w.heap.size w wr ∧ w.heap.size + 3 ≤ wr.heap.size ∧ Hid (l ++ pln b m = pln b n)) (fun i _ => (intOf i).toNat)
  case atStart =>
    obtain ⟨x0, x1, x2, bw, hs, he⟩ := blk3 (Below.refl _ _)
    exact ⟨n, [], _, rfl, by simp; omega, by have h := own_alloc (own_empty (w.alloc (.cells #[.int .i64 0, .slice none 0 0] 27)) w.heap.size (by simp)) (.cells #[.int .i64 b, .slice (some ⟨w.heap.size + 1, 0, none⟩) 0 0] 27); simpa using h, by simp [Value.ownBlock], by simp [Value.ownBlock], x0, x2, bw, by omega, rfl⟩
  case round =>
    obtain ⟨m, l, v, rfl, hm, ho, n4, n5, h4, h5, hbw, hs, hf⟩ := hrel
    have H4 := Lib.hid h4; have H5 := Lib.hid h5; have N4 := Lib.hid n4; have N5 := Lib.hid n5
    have HO := Lib.hid ho; have HBW := Lib.hid hbw
    obtain ⟨a, cap, rfl, -, -⟩ := own_form ho
    have c0 := cell_blk h5 0; have c1 := cell_blk h5 1; have f1 := frozen_blk h5 1
    clear ho hbw n4 n5
    by_cases hm0 : m = 0
    · subst hm0
      have HF := Lib.hid (show l = pln b n from by have := hf.out; rwa [pln_zero, List.append_nil] at this)
      have d0 := cell_blk h4 0; have d1 := cell_blk h4 1; have g0 := frozen_blk h4 0; have g1 := frozen_blk h4 1
      clear h4 h5 hf
      go_wp2_with fail
      refine bodyPost_ret (v := .tuple #[.agg #[.int .i64 b, .slice a l.length cap], .int .i64 0]) (by simp [results, Try.results21, go_sem, *]) rfl ?_
      exact ⟨_, by rfl, by rw [← HF.out]; exact own_setCell_ne (own_setCell_ne HO.out (fun e => N4.out e.symm)) (fun e => N4.out e.symm), (HBW.out.setCell (by simp) _).setCell (by simp) _⟩
    · have z1 : (0 : Int) < (m : Int) := by omega
      clear h4 h5
      have d := div_mod_b (n := m) hb
      obtain ⟨d1, d2⟩ := d
      have zb2 : ¬ (b : Int) = 0 := by omega
      obtain ⟨D, hD⟩ : ∃ D : Nat, D = m % b := ⟨_, rfl⟩
      obtain ⟨Q, hQ⟩ : ∃ Q : Nat, Q = m / b := ⟨_, rfl⟩
      have eD : (m : Int) % (b : Int) = (D : Int) := by rw [hD]; simp
      have eQ : (m : Int) / (b : Int) = (Q : Int) := by rw [hQ]; simp
      have zb3 : ¬ b = 0 := by omega
      have eT : (m : Int).tmod (b : Int) = (D : Int) := by rw [Int.tmod_eq_emod_of_nonneg (by omega)]; exact eD
      have wD : IntKind.i64.wrap (D : Int) = (D : Int) := IntWalk.i64_in _ (by omega)
      have hqm := div_lt' (n := m) hb hm0
      have hp := pln_rec (n := m) hb hm0
      rw [← hD, ← hQ] at *
      clear hD hQ
      have HN := Lib.hid (show (l ++ [(D : Int)]) ++ pln b Q = pln b n from by rw [← hf.out, hp, List.append_assoc]; rfl)
      clear hp hf
      go_wp2_with fail
      have lt5 : w.heap.size + 1 + 1 < wr.heap.size := by omega
      go_region_law ((refine step_app_at (by rfl) _ _ (by rfl) _ _ (own_alloc (own_drew HO.out) _) (by rfl) (by rfl) (by simp; rfl) (by omega) (by simp; omega) ?_; intro v' w9 ho' hg' hloc; obtain ⟨hb', hs'⟩ := app_below HBW.out.drew (own_drew HO.out) hg' (Nat.le_refl _) (show w.heap.size ≤ wr.heap.size by omega); have X4 := Lib.hid ((hg'.block w.heap.size (by simp; omega) N4.out).trans ((Below.heap_alloc wr.drew _ _ (show w.heap.size < wr.heap.size by omega)).trans H4.out)); have x5 := (hg'.block (w.heap.size + 1 + 1) (by simp; omega) N5.out).trans ((Below.heap_alloc wr.drew _ _ (show w.heap.size + 1 + 1 < wr.heap.size by omega)).trans H5.out); have hs9 := hg'.size; have M4 := Lib.hid (loc_ne hloc N4.out (by simp; omega)); have M5 := Lib.hid (loc_ne hloc N5.out (by simp; omega)); obtain ⟨av, cv, rfl, -, -⟩ := own_form ho'; have c0 := cell_blk x5 0; have c1 := cell_blk x5 1; have f1 := frozen_blk x5 1; have X5 := Lib.hid x5; have O9 := Lib.hid ho'; have B9 := Lib.hid hb'; clear ho' hb' hg' hloc x5))
      all_goals (
      clear zb3 eT wD
      go_wp2_with fail
      go_roundw
      case rel => exact ⟨Q, l ++ [(D : Int)], _, by first | rfl | (congr 1; done) | (congr 1; omega), by simp; omega, own_setCell_ne O9.out M5.out, fun e => M4.out e.symm, fun e => M5.out e.symm, by rw [Below.heap_setCell _ _ _ _ (by simp; omega)]; exact X4.out, by rw [List.length_append]; exact setCell_blk X5.out _, B9.out.setCell (by simp; omega) _, by simp at *; omega, HN.out⟩
      case measure => first | (simp [intOf]; done) | (simp [intOf]; omega))
end Go.Proofs.Ytidpoeojkifonaa
