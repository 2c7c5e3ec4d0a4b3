/- The fewest turns and the bound: the walks. -/
import Derived.IntWalk
import Derived.Test.YtidpoeojkifonaaLowP
namespace Go.Proofs.Ytidpoeojkifonaa
open Go.ChangeShapes Go.WideShapes Go.ChangeAt Go.RowKit
def tin (b n : Int) : Bool := inB b 2 16 && inB n 0 62500000
def codeR (b n : Int) : Int := if tin b n then 0 else 2
def lowR (b n : Int) : Int × Int := if tin b n then ((low b.toNat n.toNat).1, 0) else (0, 2)
theorem isT_in {x : Int} (h0 : -16 ≤ x) (h1 : x ≤ 16) : isT x = true := inB_true h0 h1
theorem allT_app {l : List Int} {x : Int} (h : allT l = true) (hx : isT x = true) : allT (l ++ [x]) = true := by
  unfold allT at *; rw [List.all_append, h]; simp [hx]
theorem own_drewN {w : World} {B : Nat} {v : Value} {zs : List Int} (h : Own w B v zs) (n : Nat) : Own (w.drewN n) B v zs := h
theorem cell_drewN (w : World) (n : Nat) (X : Int) (t : TypeId) : ((w.drewN n).alloc (.cells #[.int .i64 X] t)).cell? ⟨w.heap.size, 0, none⟩ = some (.int .i64 X) := by
  exact World.cell?_alloc_new (w := w.drewN n) #[.int .i64 X] t 0
theorem sz_drewN {w : World} {K : Nat} (h : K ≤ w.heap.size) (o : Obj) (n : Nat) : K ≤ ((w.drewN n).alloc o).heap.size := by show K ≤ (w.alloc o).heap.size; simp; omega
theorem impl_isTurnsInput (b n : Int) (w : World) :
    Calls Try.prog 53 #[.int .i64 b, .int .i64 n] w fun e w' => e = .returned (.bool (tin b n)) ∧ w = w' := by
  cases h1 : inB b 2 16
  all_goals
    cases h2 : inB n 0 62500000
    all_goals
      have HR := Lib.hid (show tin b n = _ from by unfold tin; rw [h1, h2])
      have H1 := Lib.hid h1; have H2 := Lib.hid h2; clear h1 h2
      go_enter Try.func53, Try.ntmps53
      go_wp2_with (first | (go_at_call 58; refine (impl_isBase _ _).mono ?_; rintro e w' ⟨rfl, rfl⟩; rw [H1.out]) | (go_at_call 59; refine (impl_between _ _ _ _).mono ?_; rintro e w' ⟨rfl, rfl⟩; rw [H2.out]))
      go_ret
      exact ⟨ret_b (by rw [HR.out]; rfl), rfl⟩
theorem spec_l13Code (b n : Int) (w : World) :
    Calls Try.prog 51 #[.int .i64 b, .int .i64 n] w fun e w' => e = .returned (.int .i64 (codeR b n)) ∧ w = w' := by
  cases h1 : inB b 2 16
  all_goals
    cases h2 : inB n 0 62500000
    all_goals
      have HR := Lib.hid (show codeR b n = _ from by unfold codeR tin; rw [h1, h2])
      have H1 := Lib.hid h1; have H2 := Lib.hid h2; clear h1 h2
      go_enter Try.func51, Try.ntmps51
      go_wp2_with (first | (go_at_call 70; refine (spec_l02Base _ _).mono ?_; rintro e w' ⟨rfl, rfl⟩; rw [H1.out]) | (go_at_call 71; refine (spec_l00In _ _ _ _).mono ?_; rintro e w' ⟨rfl, rfl⟩; rw [H2.out]))
      go_ret
      exact ⟨ret_int (by rw [HR.out]; rfl), rfl⟩
set_option maxHeartbeats 2000000 in
theorem impl_fewestTurns (b n : Nat) (w : World) (hb : 2 ≤ b) (hb2 : b ≤ 16) (hn : n ≤ 62500000) :
    Calls Try.prog 55 #[.int .i64 b, .int .i64 n] w fun e w' => RetOwn w (few b n) e w' ∧ allT (few b n) = true ∧ (few b n).length ≤ 62500000 := by
  go_enter Try.func55, Try.ntmps55
  go_wp2_with fail
  go_loopw [5, 6, 7, 8] (fun o i _ _ wr => ∃ (m : Nat) (l : List Int), i = .int .i64 m ∧ m + l.length ≤ 62500000 ∧ Own wr w.heap.size o l ∧ Below w.heap.size w wr ∧ w.heap.size ≤ wr.heap.size ∧ Hid (l ++ few b m = few b n) ∧ Hid (allT l = true)) (fun _ i _ _ _ => (intOf i).toNat)
  case atStart => exact ⟨n, [], rfl, by simpa using hn, own_empty w w.heap.size (Nat.le_refl _), (Below.refl _ _).alloc (Nat.le_refl _) _, by simp, rfl, rfl⟩
  case round =>
    obtain ⟨m, l, rfl, hm, ho, hbw, hs, hf, ha⟩ := hrel
    by_cases hm0 : m = 0
    · subst hm0
      have HF := Lib.hid (show l = few b n from by have := hf.out; rwa [few_zero, List.append_nil] at this)
      have HO := Lib.hid ho; have HBW := Lib.hid hbw; clear ho hbw hf
      go_wp2_with fail
      go_ret
      exact ⟨⟨_, rfl, by rw [← HF.out]; exact HO.out, HBW.out⟩, by rw [← HF.out]; exact ha.out, by rw [← HF.out]; simpa using hm⟩
    · have z1 : (0 : Int) < (m : Int) := by omega
      have d := div_mod_b (n := m) hb
      obtain ⟨d1, d2⟩ := d
      obtain ⟨wo, hwo⟩ : ∃ wo : World, wo = wr := ⟨_, rfl⟩
      subst hwo
      have HO := Lib.hid ho; have HBW := Lib.hid hbw; clear ho hbw
      obtain ⟨a, cap, rfl, hl2, -⟩ := own_form HO.out
      have zb2 : ¬ (b : Int) = 0 := by omega
      obtain ⟨D, hD⟩ : ∃ D : Nat, D = m % b := ⟨_, rfl⟩
      obtain ⟨Q, hQ⟩ : ∃ Q : Nat, Q = m / b := ⟨_, rfl⟩
      obtain ⟨E, hE⟩ : ∃ E : Nat, E = Q % b := ⟨_, rfl⟩
      have eD : (m : Int) % (b : Int) = (D : Int) := by rw [hD]; simp
      have eQ : (m : Int) / (b : Int) = (Q : Int) := by rw [hQ]; simp
      have eE : (Q : Int) % (b : Int) = (E : Int) := by rw [hE]; simp
      have hk : keepB b m = (decide (2 * D < b) || (decide (2 * D = b) && decide (2 * E < b - 1))) := by unfold keepB; rw [hE, hQ, hD]
      have hdec := few_dec (n := m) hb hm0
      have hqm := div_lt' (n := m) hb hm0
      have hfk := few_keep (n := m) hb hm0
      have hfu := few_up (n := m) hb hm0
      have hEb : E < b := by rw [hE]; exact Nat.mod_lt _ (by omega)
      rw [← hD, ← hQ] at *
      clear hD hQ hE
      have HK := Lib.hid hk; have HDEC := Lib.hid hdec; have HFK := Lib.hid hfk; have HFU := Lib.hid hfu; clear hk hdec hfk hfu
      have HA := Lib.hid ha; have HF := Lib.hid hf; clear ha hf
      by_cases c1 : 2 * D < b
      · have HKB := Lib.hid (show keepB b m = true from by rw [HK.out]; simp; omega)
        have HN := Lib.hid (show (l ++ [(D : Int)]) ++ few b Q = few b n from by rw [← HF.out, HFK.out HKB.out, List.append_assoc]; rfl)
        have hsz : Q + (l.length + 1) ≤ 62500000 := by omega
        have HT := Lib.hid (allT_app HA.out (isT_in (x := (D : Int)) (by omega) (by omega)))
        go_wp2_with fail
        go_quiet (fail)
        go_wp2_with (at_builtin; refine wp_app rfl _ _ rfl _ _ (own_alloc (own_drewN HO.out _) _) rfl rfl (cell_drewN _ _ _ _) (by omega) (sz_drewN hs _ _) ?_; intro v' w9 ho' hg')
        obtain ⟨hb', hs'⟩ := app_below (HBW.out.trans ((below_drewN wo _).mono hs)) (own_keep (below_drewN wo _) HO.out) hg' (Nat.le_refl _) hs
        have O9 := Lib.hid ho'; have B9 := Lib.hid hb'; clear ho' hb' hg'
        go_wp2_with fail
        go_roundw
        case rel => exact ⟨Q, l ++ [(D : Int)], by first | rfl | (congr 1; done) | (congr 1; omega), by simp; omega, O9.out, B9.out, hs', HN.out, HT.out⟩
        case measure => first | (simp [intOf]; done) | (simp [intOf]; omega)
      · by_cases c2 : 2 * D = b
        · by_cases c3 : 2 * E < b - 1
          · have HKB := Lib.hid (show keepB b m = true from by rw [HK.out]; simp; omega)
            have HN := Lib.hid (show (l ++ [(D : Int)]) ++ few b Q = few b n from by rw [← HF.out, HFK.out HKB.out, List.append_assoc]; rfl)
            have hsz : Q + (l.length + 1) ≤ 62500000 := by omega
            have HT := Lib.hid (allT_app HA.out (isT_in (x := (D : Int)) (by omega) (by omega)))
            go_wp2_with fail
            go_quiet (fail)
            go_wp2_with (at_builtin; refine wp_app rfl _ _ rfl _ _ (own_alloc (own_drewN HO.out _) _) rfl rfl (cell_drewN _ _ _ _) (by omega) (sz_drewN hs _ _) ?_; intro v' w9 ho' hg')
            obtain ⟨hb', hs'⟩ := app_below (HBW.out.trans ((below_drewN wo _).mono hs)) (own_keep (below_drewN wo _) HO.out) hg' (Nat.le_refl _) hs
            have O9 := Lib.hid ho'; have B9 := Lib.hid hb'; clear ho' hb' hg'
            go_wp2_with fail
            go_roundw
            case rel => exact ⟨Q, l ++ [(D : Int)], by first | rfl | (congr 1; done) | (congr 1; omega), by simp; omega, O9.out, B9.out, hs', HN.out, HT.out⟩
            case measure => first | (simp [intOf]; done) | (simp [intOf]; omega)
          · have HKB := Lib.hid (show keepB b m = false from by rw [HK.out]; simp; omega)
            have hdd := HDEC.out HKB.out
            have HN := Lib.hid (show (l ++ [(D : Int) - (b : Int)]) ++ few b (Q + 1) = few b n from by rw [← HF.out, HFU.out HKB.out, List.append_assoc]; rfl)
            have hsz : Q + 1 + (l.length + 1) ≤ 62500000 := by omega
            have HT := Lib.hid (allT_app HA.out (isT_in (x := (D : Int) - (b : Int)) (by omega) (by omega)))
            go_wp2_with fail
            go_quiet (fail)
            go_wp2_with (at_builtin; refine wp_app rfl _ _ rfl _ _ (own_alloc (own_drewN HO.out _) _) rfl rfl (cell_drewN _ _ _ _) (by omega) (sz_drewN hs _ _) ?_; intro v' w9 ho' hg')
            obtain ⟨hb', hs'⟩ := app_below (HBW.out.trans ((below_drewN wo _).mono hs)) (own_keep (below_drewN wo _) HO.out) hg' (Nat.le_refl _) hs
            have O9 := Lib.hid ho'; have B9 := Lib.hid hb'; clear ho' hb' hg'
            go_wp2_with fail
            go_roundw
            case rel => exact ⟨Q + 1, l ++ [(D : Int) - (b : Int)], by first | rfl | (congr 1; done) | (congr 1; omega), by simp; omega, O9.out, B9.out, hs', HN.out, HT.out⟩
            case measure => first | (simp [intOf]; done) | (simp [intOf]; omega)
        · have HKB := Lib.hid (show keepB b m = false from by rw [HK.out]; simp; omega)
          have hdd := HDEC.out HKB.out
          have HN := Lib.hid (show (l ++ [(D : Int) - (b : Int)]) ++ few b (Q + 1) = few b n from by rw [← HF.out, HFU.out HKB.out, List.append_assoc]; rfl)
          have hsz : Q + 1 + (l.length + 1) ≤ 62500000 := by omega
          have HT := Lib.hid (allT_app HA.out (isT_in (x := (D : Int) - (b : Int)) (by omega) (by omega)))
          go_wp2_with fail
          go_quiet (fail)
          go_wp2_with (at_builtin; refine wp_app rfl _ _ rfl _ _ (own_alloc (own_drewN HO.out _) _) rfl rfl (cell_drewN _ _ _ _) (by omega) (sz_drewN hs _ _) ?_; intro v' w9 ho' hg')
          obtain ⟨hb', hs'⟩ := app_below (HBW.out.trans ((below_drewN wo _).mono hs)) (own_keep (below_drewN wo _) HO.out) hg' (Nat.le_refl _) hs
          have O9 := Lib.hid ho'; have B9 := Lib.hid hb'; clear ho' hb' hg'
          go_wp2_with fail
          go_roundw
          case rel => exact ⟨Q + 1, l ++ [(D : Int) - (b : Int)], by first | rfl | (congr 1; done) | (congr 1; omega), by simp; omega, O9.out, B9.out, hs', HN.out, HT.out⟩
          case measure => first | (simp [intOf]; done) | (simp [intOf]; omega)
end Go.Proofs.Ytidpoeojkifonaa
