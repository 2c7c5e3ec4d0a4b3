/- The strokes of a program without bells: plain facts on balanced ranges of a valid program. -/
import Derived.IntWalk
import Derived.Test.YtaipfcbphfjgoaaMat
namespace Go.Proofs.Ytaipfcbphfjgoaa
open Go.ChangeShapes Go.WideShapes Go.ChangeAt Go.RowKit
def opA (zs : List Int) (j : Nat) : Int := nth zs (j * 2)
def argA (zs : List Int) (j : Nat) : Int := nth zs (j * 2 + 1)
/-- no setting and no bell -/
def noSB (zs : List Int) (n : Nat) : Prop := ∀ j, j < n → opA zs j ≠ 1 ∧ opA zs j ≠ 9
/-- the range from a up to e begins and ends at the depth d, and never goes below it -/
def Bal (zs : List Int) (n a e : Nat) (d : Int) : Prop := a ≤ e ∧ e ≤ n ∧ dAt zs a = d ∧ dAt zs e = d ∧ ∀ k, a ≤ k → k ≤ e → d ≤ dAt zs k
theorem mtchF_spec {zs : List Int} {d0 : Int} : ∀ f i, (∃ k, i ≤ k ∧ k < i + f ∧ dAt zs (k + 1) = d0) → i ≤ mtchF zs d0 f i ∧ mtchF zs d0 f i < i + f ∧ dAt zs (mtchF zs d0 f i + 1) = d0 ∧ ∀ j, i ≤ j → j < mtchF zs d0 f i → dAt zs (j + 1) ≠ d0 := by
  intro f
  induction f with
  | zero => intro i ⟨k, h1, h2, _⟩; omega
  | succ f ih =>
    intro i ⟨k, h1, h2, h3⟩
    unfold mtchF
    by_cases h : dAt zs (i + 1) = d0
    · rw [if_pos h]
      exact ⟨Nat.le_refl _, by omega, h, fun j a b => by omega⟩
    · rw [if_neg h]
      have hk : i + 1 ≤ k := by
        rcases Nat.lt_or_ge i k with h4 | h4
        · exact h4
        · obtain rfl : k = i := by omega
          exact absurd h3 h
      obtain ⟨a1, a2, a3, a4⟩ := ih (i + 1) ⟨k, hk, by omega, h3⟩
      refine ⟨by omega, by omega, a3, fun j b1 b2 => ?_⟩
      by_cases e : j = i
      · subst e; exact h
      · exact a4 j (by omega) b2
theorem bal_plain {zs : List Int} {n a e : Nat} {d : Int} (hn : zs.length = n * 2) (hv : validP zs = true) (hs : noSB zs n) (hb : Bal zs n a e d) (hlt : a < e) (h8 : opA zs a ≠ 8) : opA zs a ≠ 10 ∧ Bal zs n (a + 1) e d := by
  obtain ⟨b1, b2, b3, b4, b5⟩ := hb
  obtain ⟨v1, v2, v3, v4⟩ := valid_parts hn hv
  have st := (v4 a (by omega)).2
  have nx := b5 (a + 1) (by omega) (by omega)
  have n9 := (hs a (by omega)).2
  rw [b3] at st
  have h10 : opA zs a ≠ 10 := by
    intro h
    rw [show nth zs (a * 2) = 10 from h] at st
    have : nextD 10 d = d - 1 := rfl
    omega
  have ho : opensB (nth zs (a * 2)) = false := by
    show (opA zs a == 8 || opA zs a == 9) = false
    simp [h8, n9]
  have e0 : nextD (nth zs (a * 2)) d = d := nextD_of.2.2 ho h10
  refine ⟨h10, hlt, b2, by rw [st, e0], b4, fun k h1 h2 => b5 k (by omega) h2⟩
theorem bal_loop {zs : List Int} {n a e : Nat} {d : Int} (hn : zs.length = n * 2) (hv : validP zs = true) (hb : Bal zs n a e d) (hlt : a < e) (h8 : opA zs a = 8) :
    a < mtch zs a ∧ mtch zs a < e ∧ Bal zs n (a + 1) (mtch zs a) (d + 1) ∧ Bal zs n (mtch zs a + 1) e d := by
  obtain ⟨b1, b2, b3, b4, b5⟩ := hb
  obtain ⟨v1, v2, v3, v4⟩ := valid_parts hn hv
  have ho : opensB (nth zs (a * 2)) = true := by show (opA zs a == 8 || opA zs a == 9) = true; simp [h8]
  have st := (v4 a (by omega)).2
  rw [b3, nextD_of.1 ho] at st
  have hm : mtch zs a = mtchF zs d (n - a) a := by unfold mtch; rw [show zs.length / 2 = n by omega, b3]
  obtain ⟨k, k1, k2, k3⟩ := match_ex hn hv (by omega) ho
  rw [b3] at k3
  obtain ⟨s1, s2, s3, s4⟩ := mtchF_spec (zs := zs) (d0 := d) (n - a) a ⟨k, k1, by omega, k3⟩
  rw [← hm] at s1 s2 s3 s4
  generalize mtch zs a = m at *
  have hma : a < m := by
    rcases Nat.lt_or_ge a m with h | h
    · exact h
    · obtain rfl : m = a := by omega
      omega
  have hme : m < e := by
    rcases Nat.lt_or_ge m e with h | h
    · exact h
    · have := s4 (e - 1) (by omega) (by omega)
      rw [show e - 1 + 1 = e by omega] at this
      exact absurd b4 this
  have hge : ∀ j, a + 1 ≤ j → j ≤ m → d + 1 ≤ dAt zs j := by
    intro j h1 h2
    have x := b5 j (by omega) (by omega)
    have y := s4 (j - 1) (by omega) (by omega)
    rw [show j - 1 + 1 = j by omega] at y
    omega
  have stm := (v4 m (by omega)).2
  have l := nextD_le (op := nth zs (m * 2)) (d := dAt zs m)
  have gm := hge m (by omega) (Nat.le_refl _)
  refine ⟨hma, hme, ⟨by omega, by omega, st, by omega, fun j h1 h2 => hge j h1 h2⟩, ⟨by omega, b2, s3, b4, fun j h1 h2 => b5 j (by omega) h2⟩⟩
def rep (k : Int) (l : List Int) : List Int := (List.replicate k.toNat l).flatten
def flatF (zs : List Int) : Nat → Nat → Nat → List Int
  | 0, _, _ => []
  | f + 1, a, e => if a < e then (if opA zs a = 8 then rep (argA zs a) (flatF zs f (a + 1) (mtch zs a)) ++ flatF zs f (mtch zs a + 1) e else rep (imax 1 (argA zs a)) [opA zs a - 1] ++ flatF zs f (a + 1) e) else []
theorem flat_end {zs : List Int} {f a : Nat} : flatF zs f a a = [] := by cases f <;> simp [flatF]
theorem flat_fuel {zs : List Int} {n : Nat} (hn : zs.length = n * 2) (hv : validP zs = true) (hs : noSB zs n) : ∀ (s a e : Nat) (d : Int) (f g : Nat), e - a ≤ s → Bal zs n a e d → e - a ≤ f → e - a ≤ g → flatF zs f a e = flatF zs g a e := by
  intro s
  induction s with
  | zero =>
    intro a e d f g h0 hb hf hg
    obtain rfl : a = e := by have := hb.1; omega
    rw [flat_end, flat_end]
  | succ s ih =>
    intro a e d f g h0 hb hf hg
    by_cases hlt : a < e
    · obtain ⟨f, rfl⟩ : ∃ k, f = k + 1 := ⟨f - 1, by omega⟩
      obtain ⟨g, rfl⟩ : ∃ k, g = k + 1 := ⟨g - 1, by omega⟩
      unfold flatF
      rw [if_pos hlt, if_pos hlt]
      by_cases h8 : opA zs a = 8
      · obtain ⟨m1, m2, m3, m4⟩ := bal_loop hn hv hb hlt h8
        rw [if_pos h8, if_pos h8, ih (a + 1) (mtch zs a) (d + 1) f g (by omega) m3 (by omega) (by omega), ih (mtch zs a + 1) e d f g (by omega) m4 (by omega) (by omega)]
      · have p := bal_plain hn hv hs hb hlt h8
        rw [if_neg h8, if_neg h8, ih (a + 1) e d f g (by omega) p.2 (by omega) (by omega)]
    · obtain rfl : a = e := by have := hb.1; omega
      rw [flat_end, flat_end]
/-- the strokes of a range -/
def flatR (zs : List Int) (a e : Nat) : List Int := flatF zs (e - a) a e
theorem flatR_end (zs : List Int) (a : Nat) : flatR zs a a = [] := flat_end
theorem flatR_loop {zs : List Int} {n a e : Nat} {d : Int} (hn : zs.length = n * 2) (hv : validP zs = true) (hs : noSB zs n) (hb : Bal zs n a e d) (hlt : a < e) (h8 : opA zs a = 8) :
    flatR zs a e = rep (argA zs a) (flatR zs (a + 1) (mtch zs a)) ++ flatR zs (mtch zs a + 1) e := by
  obtain ⟨m1, m2, m3, m4⟩ := bal_loop hn hv hb hlt h8
  unfold flatR
  rw [show e - a = (e - a - 1) + 1 by omega]
  rw [flatF, if_pos hlt, if_pos h8, flat_fuel hn hv hs _ (a + 1) (mtch zs a) (d + 1) (e - a - 1) (mtch zs a - (a + 1)) (Nat.le_refl _) m3 (by omega) (Nat.le_refl _), flat_fuel hn hv hs _ (mtch zs a + 1) e d (e - a - 1) (e - (mtch zs a + 1)) (Nat.le_refl _) m4 (by omega) (Nat.le_refl _)]
theorem flatR_plain {zs : List Int} {n a e : Nat} {d : Int} (hn : zs.length = n * 2) (hv : validP zs = true) (hs : noSB zs n) (hb : Bal zs n a e d) (hlt : a < e) (h8 : opA zs a ≠ 8) :
    flatR zs a e = rep (imax 1 (argA zs a)) [opA zs a - 1] ++ flatR zs (a + 1) e := by
  have p := bal_plain hn hv hs hb hlt h8
  unfold flatR
  rw [show e - a = (e - (a + 1)) + 1 by omega]
  rw [flatF, if_pos hlt, if_neg h8]
theorem rep_len (k : Int) (l : List Int) : (rep k l).length = k.toNat * l.length := by simp [rep]
theorem bal_all {zs : List Int} {n : Nat} (hn : zs.length = n * 2) (hv : validP zs = true) : Bal zs n 0 n 0 := by
  obtain ⟨v1, v2, v3, v4⟩ := valid_parts hn hv
  exact ⟨Nat.zero_le _, Nat.le_refl _, rfl, v2, fun k _ h => (v1 k h).2.1⟩
theorem flat_len {zs : List Int} {n : Nat} (hn : zs.length = n * 2) (hv : validP zs = true) (hs : noSB zs n) : ∀ (s a e : Nat) (d : Int), e - a ≤ s → Bal zs n a e d → 0 ≤ d → d ≤ 4 → (flatR zs a e).length ≤ (e - a) * 100 ^ (5 - d.toNat) := by
  obtain ⟨v1, v2, v3, v4⟩ := valid_parts hn hv
  intro s
  induction s with
  | zero =>
    intro a e d h0 hb _ _
    obtain rfl : a = e := by have := hb.1; omega
    rw [flatR_end]; simp
  | succ s ih =>
    intro a e d h0 hb hd0 hd4
    by_cases hlt : a < e
    · have hen := hb.2.1
      have ok := (v4 a (by omega)).1
      have harg : argA zs a ≤ 100 := by
        unfold okI at ok
        rw [Bool.and_eq_true] at ok
        have h1 := (hs a (by omega)).1
        have ok2 := ok.2
        unfold argB at ok2
        rw [if_neg (show ¬ nth zs (a * 2) = 1 from h1)] at ok2
        split at ok2
        · exact (inB_iff.1 ok2).2
        · have h3 : nth zs (a * 2 + 1) = 0 := by simpa using ok2
          have h4 : argA zs a = nth zs (a * 2 + 1) := rfl
          omega
      by_cases h8 : opA zs a = 8
      · obtain ⟨m1, m2, m3, m4⟩ := bal_loop hn hv hb hlt h8
        have hd5 : d + 1 ≤ 4 := by
          have := (v1 (a + 1) (by omega)).2.2
          have := m3.2.2.1
          omega
        rw [flatR_loop hn hv hs hb hlt h8, List.length_append, rep_len]
        have i1 := ih (a + 1) (mtch zs a) (d + 1) (by omega) m3 (by omega) hd5
        have i2 := ih (mtch zs a + 1) e d (by omega) m4 hd0 hd4
        have ep : 5 - d.toNat = (5 - (d + 1).toNat) + 1 := by omega
        rw [ep, Nat.pow_succ] at i2 ⊢
        generalize 100 ^ (5 - (d + 1).toNat) = K at *
        generalize (flatR zs (a + 1) (mtch zs a)).length = X at *
        generalize (flatR zs (mtch zs a + 1) e).length = Y at *
        generalize mtch zs a = m at *
        have j1 : (argA zs a).toNat * X ≤ 100 * ((m - (a + 1)) * K) := Nat.mul_le_mul (by omega) i1
        have j2 : (m - (a + 1)) * (K * 100) + (e - (m + 1)) * (K * 100) ≤ (e - a) * (K * 100) := by
          rw [← Nat.add_mul]
          exact Nat.mul_le_mul_right _ (by omega)
        have j3 : 100 * ((m - (a + 1)) * K) = (m - (a + 1)) * (K * 100) := by
          rw [Nat.mul_comm 100, Nat.mul_assoc]
        omega
      · have p := bal_plain hn hv hs hb hlt h8
        rw [flatR_plain hn hv hs hb hlt h8, List.length_append, rep_len]
        have i2 := ih (a + 1) e d (by omega) p.2 hd0 hd4
        have ep : 5 - d.toNat = (4 - d.toNat) + 1 := by omega
        have k1 : 1 ≤ 100 ^ (4 - d.toNat) := Nat.pos_of_ne_zero (by simp)
        rw [ep, Nat.pow_succ] at i2 ⊢
        generalize 100 ^ (4 - d.toNat) = K at *
        generalize (flatR zs (a + 1) e).length = Y at *
        have hmx : (imax 1 (argA zs a)).toNat ≤ 100 := by
          have := imax_ge 1 (argA zs a)
          rcases this.2.2 with h | h <;> omega
        have j2 : (e - (a + 1)) * (K * 100) + 1 * (K * 100) = (e - a) * (K * 100) := by
          rw [← Nat.add_mul]; congr 1; omega
        simp only [List.length_cons, List.length_nil]
        omega
    · obtain rfl : a = e := by have := hb.1; omega
      rw [flatR_end]; simp
end Go.Proofs.Ytaipfcbphfjgoaa
