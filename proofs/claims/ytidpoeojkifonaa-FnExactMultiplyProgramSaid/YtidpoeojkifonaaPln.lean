/- Plain turns: the list, and the walk of impl.plainTurns. -/
import Derived.IntWalk
import Derived.Test.YtidpoeojkifonaaLow
namespace Go.Proofs.Ytidpoeojkifonaa
open Go.ChangeShapes Go.WideShapes Go.ChangeAt Go.RowKit
def pln (b n : Nat) : List Int := if h : n = 0 ∨ b < 2 then [] else ((n % b : Nat) : Int) :: pln b (n / b)
termination_by n
decreasing_by exact Nat.div_lt_self (by omega) (by omega)
theorem pln_zero (b : Nat) : pln b 0 = [] := by rw [pln]; simp
theorem pln_rec {b n : Nat} (hb : 2 ≤ b) (hn : n ≠ 0) : pln b n = ((n % b : Nat) : Int) :: pln b (n / b) := by rw [pln, dif_neg (by omega)]
set_option maxHeartbeats 2000000 in
theorem impl_plainTurns (b n : Nat) (w : World) (hb : 2 ≤ b) (hb2 : b ≤ 16) (hn : n ≤ 62500000) :
    Calls Try.prog 56 #[.int .i64 b, .int .i64 n] w fun e w' => RetOwn w (pln b n) e w' ∧ allT (pln b n) = true ∧ (pln b n).length ≤ 62500000 := by
  go_enter Try.func56, Try.ntmps56
  go_wp2_with fail
  go_loopw [5, 6] (fun o i wr => ∃ (m : Nat) (l : List Int), i = .int .i64 m ∧ m + l.length ≤ 62500000 ∧ Own wr w.heap.size o l ∧ Below w.heap.size w wr ∧ w.heap.size ≤ wr.heap.size ∧ Hid (l ++ pln b m = pln b n) ∧ Hid (allT l = true)) (fun _ i _ => (intOf i).toNat)
  case atStart => exact ⟨n, [], rfl, by simpa using hn, own_empty w w.heap.size (Nat.le_refl _), (Below.refl _ _).alloc (Nat.le_refl _) _, by simp, rfl, rfl⟩
  case round =>
    obtain ⟨m, l, rfl, hm, ho, hbw, hs, hf, ha⟩ := hrel
    by_cases hm0 : m = 0
    · subst hm0
      have HF := Lib.hid (show l = pln b n from by have := hf.out; rwa [pln_zero, List.append_nil] at this)
      have HO := Lib.hid ho; have HBW := Lib.hid hbw; clear ho hbw hf
      go_wp2_with fail
      go_ret
      exact ⟨⟨_, rfl, by rw [← HF.out]; exact HO.out, HBW.out⟩, by rw [← HF.out]; exact ha.out, by rw [← HF.out]; simpa using hm⟩
    · have z1 : (0 : Int) < (m : Int) := by omega
      have d := div_mod_b (n := m) hb
      obtain ⟨d1, d2⟩ := d
      have HO := Lib.hid ho; have HBW := Lib.hid hbw; clear ho hbw
      obtain ⟨a, cap, rfl, hl2, -⟩ := own_form HO.out
      have zb2 : ¬ (b : Int) = 0 := by omega
      obtain ⟨D, hD⟩ : ∃ D : Nat, D = m % b := ⟨_, rfl⟩
      obtain ⟨Q, hQ⟩ : ∃ Q : Nat, Q = m / b := ⟨_, rfl⟩
      have eD : (m : Int) % (b : Int) = (D : Int) := by rw [hD]; simp
      have eQ : (m : Int) / (b : Int) = (Q : Int) := by rw [hQ]; simp
      have hqm := div_lt' (n := m) hb hm0
      have hp := pln_rec (n := m) hb hm0
      rw [← hD, ← hQ] at *
      clear hD hQ
      have HN := Lib.hid (show (l ++ [(D : Int)]) ++ pln b Q = pln b n from by rw [← hf.out, hp, List.append_assoc]; rfl)
      have HT := Lib.hid (allT_app ha.out (isT_in (x := (D : Int)) (by omega) (by omega)))
      clear hp hf ha
      go_wp2_with (at_builtin; refine wp_app rfl _ _ rfl _ _ (own_alloc HO.out _) rfl rfl (by simp; rfl) (by omega) (by simp; omega) ?_; intro v' w9 ho' hg')
      obtain ⟨hb', hs'⟩ := app_below HBW.out HO.out hg' (Nat.le_refl _) hs
      have O9 := Lib.hid ho'; have B9 := Lib.hid hb'; clear ho' hb' hg'
      go_wp2_with fail
      go_roundw
      case rel => exact ⟨Q, l ++ [(D : Int)], by first | rfl | (congr 1; done) | (congr 1; omega), by simp; omega, O9.out, B9.out, hs', HN.out, HT.out⟩
      case measure => first | (simp [intOf]; done) | (simp [intOf]; omega)
end Go.Proofs.Ytidpoeojkifonaa
