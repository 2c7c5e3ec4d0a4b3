/- The registers that show a fault: plain. -/
import Derived.Test.YtkhjmokjbiepgaaWit
namespace Go.Proofs.Ytkhjmokjbiepgaa
open Go.ChangeShapes Go.WideShapes Go.ChangeAt Go.RowKit
def zL (n : Nat) : List Int := List.replicate n 0
theorem zL_len (n : Nat) : (zL n).length = n := by simp [zL]
theorem nth_zL (n k : Nat) : nth (zL n) k = 0 := by unfold zL nth; rw [List.getD_eq_getElem?_getD, List.getElem?_replicate]; split <;> rfl
theorem dv_zero (b : Int) : ∀ k, dv b 0 k = 0
  | 0 => rfl
  | k + 1 => by show dv b 0 k / b = 0; rw [dv_zero b k]; simp
theorem digL_zero (b : Int) (n : Nat) : digL b 0 n = zL n := by
  refine nth_ext (by simp [digL, zL]) (fun j hj => ?_)
  have hj' : j < n := by simpa [digL] using hj
  rw [nth_zL]
  unfold digL
  rw [nth_range_map _ hj']
  unfold dig
  rw [dv_zero]; simp
def wX (b kd : Int) (lv n : Nat) : List Int := if kd = 1 then (zL n).set lv (b - 1) else if kd = 3 ∧ 0 < lv then ((zL n).set (lv - 1) (b - 1)).set lv (b - 1) else zL n
def wY (kd : Int) (lv n : Nat) : List Int := if kd = 1 then (zL n).set lv 1 else if kd = 3 ∧ 0 < lv then (zL n).set (lv - 1) 1 else zL n
theorem wX_len (b kd : Int) (lv n : Nat) : (wX b kd lv n).length = n := by unfold wX; split <;> (try split) <;> simp [zL]
theorem wY_len (kd : Int) (lv n : Nat) : (wY kd lv n).length = n := by unfold wY; split <;> (try split) <;> simp [zL]
theorem nth_setW (zs : List Int) (j : Nat) (v : Int) (k : Nat) : nth (zs.set j v) k = if k = j ∧ j < zs.length then v else nth zs k := by
  unfold nth
  rw [List.getD_eq_getElem?_getD, List.getElem?_set]
  by_cases e : k = j
  · subst e
    rw [if_pos rfl]
    by_cases h : k < zs.length
    · rw [if_pos h, if_pos ⟨rfl, h⟩]; rfl
    · rw [if_neg h, if_neg (fun x => h x.2), List.getD_eq_getElem?_getD, List.getElem?_eq_none (by omega)]
  · rw [if_neg (fun x => e x.symm), if_neg (fun x => e x.1)]; rfl
theorem set_bd {b v : Int} {zs : List Int} {j n : Nat} (h : ∀ k, k < n → 0 ≤ nth zs k ∧ nth zs k < b) (h0 : 0 ≤ v) (h1 : v < b) : ∀ k, k < n → 0 ≤ nth (zs.set j v) k ∧ nth (zs.set j v) k < b := fun k hk => by
  rw [nth_setW]
  split
  · exact ⟨h0, h1⟩
  · exact h k hk
theorem zL_bd {b : Int} (hb : 2 ≤ b) (n m : Nat) : ∀ k, k < n → 0 ≤ nth (zL m) k ∧ nth (zL m) k < b := fun k _ => by rw [nth_zL]; omega
theorem wX_bd {b : Int} (kd : Int) (lv n : Nat) (hb : 2 ≤ b) : ∀ k, k < n → 0 ≤ nth (wX b kd lv n) k ∧ nth (wX b kd lv n) k < b := by
  unfold wX
  split
  · exact set_bd (zL_bd hb n n) (by omega) (by omega)
  · split
    · exact set_bd (set_bd (zL_bd hb n n) (by omega) (by omega)) (by omega) (by omega)
    · exact zL_bd hb n n
theorem wY_bd {b : Int} (kd : Int) (lv n : Nat) (hb : 2 ≤ b) : ∀ k, k < n → 0 ≤ nth (wY kd lv n) k ∧ nth (wY kd lv n) k < b := by
  unfold wY
  split
  · exact set_bd (zL_bd hb n n) (by omega) (by omega)
  · split
    · exact set_bd (zL_bd hb n n) (by omega) (by omega)
    · exact zL_bd hb n n
/-- all four registers are valid -/
def wOk (b kd : Int) (lv n : Nat) : Bool := validR b (wX b kd lv n) && (validR b (wY kd lv n) && (validR b (faL b (wX b kd lv n) (wY kd lv n) kd lv n) && validR b (faL b (wX b kd lv n) (wY kd lv n) 0 0 n)))
theorem valC_zero (b : Int) : ∀ n, valC b (zL n) = 0
  | 0 => rfl
  | n + 1 => by
    have h : zL (n + 1) = 0 :: zL n := List.replicate_succ
    rw [h]
    show (if 1000000000001 < valC b (zL n) * b + 0 then 1000000000001 else valC b (zL n) * b + 0) = 0
    rw [valC_zero b n]; simp
theorem valid_zero {b : Int} {n : Nat} (hb : 2 ≤ b) (hb2 : b ≤ 16) (h1 : 1 ≤ n) (h2 : n ≤ 16) : validR b (zL n) = true := by
  unfold validR
  rw [inB_true hb hb2, zL_len, inB_true (by omega) (by omega), valC_zero]
  have h : (zL n).all (isD b) = true := by
    rw [List.all_eq_true]
    intro x hx
    rw [zL, List.mem_replicate] at hx
    obtain ⟨_, rfl⟩ := hx
    exact inB_true (by omega) (by omega)
  rw [h]; rfl
theorem cf_late (b : Int) (n m kd : Nat) (hb : 2 ≤ b) (hk : kd = 3 ∨ kd = 0) : ∀ k, cf b (zL n) (zL m) kd 0 k = 0
  | 0 => rfl
  | k + 1 => by
    show outF b (nth (zL n) k + nth (zL m) k) (cf b (zL n) (zL m) kd 0 k) (kdA kd 0 k) = 0
    rw [cf_late b n m kd hb hk k, nth_zL, nth_zL]
    unfold outF kdA
    rcases hk with rfl | rfl <;> (repeat' split) <;> simp_all
theorem faL_late (b : Int) (n kd : Nat) (hb : 2 ≤ b) (hk : kd = 3 ∨ kd = 0) : faL b (zL n) (zL n) kd 0 n = zL n := by
  refine nth_ext (by simp [faL, zL]) (fun j hj => ?_)
  have hj' : j < n := by simpa [faL] using hj
  rw [nth_zL]
  unfold faL
  rw [nth_range_map _ hj']
  unfold fd
  rw [cf_late b n n kd hb hk, nth_zL]; simp
theorem wOk_late {b : Int} {n : Nat} (hb : 2 ≤ b) (hb2 : b ≤ 16) (h1 : 1 ≤ n) (h2 : n ≤ 16) : wOk b 3 0 n = true := by
  have e1 : wX b 3 0 n = zL n := by unfold wX; rw [if_neg (by omega), if_neg (by omega)]
  have e2 : wY 3 0 n = zL n := by unfold wY; rw [if_neg (by omega), if_neg (by omega)]
  unfold wOk
  rw [e1, e2, show (3 : Int) = ((3 : Nat) : Int) from rfl, faL_late b n 3 hb (.inl rfl), show (0 : Int) = ((0 : Nat) : Int) from rfl, faL_late b n 0 hb (.inr rfl), valid_zero hb hb2 h1 h2]
  rfl
/-- The call returns two registers with slices of their own, apart, and a code; nothing that was there has turned. -/
def RetRegs (w : World) (b : Int) (xs ys : List Int) (c : Int) (e : Ending) (w' : World) : Prop :=
  ∃ u v, e = .returned (.tuple #[.agg #[.int .i64 b, u], .agg #[.int .i64 b, v], .int .i64 c]) ∧ Own w' w.heap.size u xs ∧ Own w' w.heap.size v ys ∧ Apart u v ∧ Below w.heap.size w w'
def wiG (b wd kd lv : Int) : Bool := inB b 2 16 && (inB wd 1 16 && (inB kd 1 3 && inB lv 0 (wd - 1)))
def wiC (b wd kd lv : Int) : Int := if wiG b wd kd lv then (if kd = 3 ∧ lv = 0 then 3 else if wOk b kd lv.toNat wd.toNat then 0 else 5) else 2
def wiB (b wd kd lv : Int) : Int := if wiC b wd kd lv = 0 then b else 0
def wiX (b wd kd lv : Int) : List Int := if wiC b wd kd lv = 0 then wX b kd lv.toNat wd.toNat else []
def wiY (b wd kd lv : Int) : List Int := if wiC b wd kd lv = 0 then wY kd lv.toNat wd.toNat else []
theorem apart_nn (a b : Value) (h : a.ownBlock = none) : Apart a b := fun k hk => by rw [h] at hk; cases hk
theorem wi_len (b wd kd lv : Int) : (wiX b wd kd lv).length ≤ 16 ∧ (wiY b wd kd lv).length ≤ 16 := by
  have g : wiC b wd kd lv = 0 → wd.toNat ≤ 16 := fun h => by
    unfold wiC at h
    cases e : wiG b wd kd lv
    · rw [e] at h; simp at h
    · unfold wiG at e
      simp only [Bool.and_eq_true] at e
      have := inB_iff.1 e.2.1; omega
  unfold wiX wiY
  by_cases h : wiC b wd kd lv = 0
  · rw [if_pos h, if_pos h, wX_len, wY_len]; exact ⟨g h, g h⟩
  · rw [if_neg h, if_neg h]; simp
theorem wiC_eq {b kd : Int} {n lv : Nat} (hg : wiG b n kd lv = true) : wiC b n kd lv = if kd = 3 ∧ (lv : Int) = 0 then 3 else if wOk b kd lv n then 0 else 5 := by
  unfold wiC; rw [if_pos hg, Int.toNat_natCast, Int.toNat_natCast]
theorem kc1 {w : World} {g i : Nat} {u : Value} {p : Addr} {x : Value} (h : w.cell? p = some x) (hne : ¬ p.block = g) : (w.setCell ⟨g, i, none⟩ u).cell? p = some x := by
  unfold World.cell? at *
  rw [Below.heap_setCell w ⟨g, i, none⟩ u p.block hne]; exact h
theorem kc2 {w : World} {g : Nat} {u v : Value} {p : Addr} {x : Value} (h : w.cell? p = some x) (hne : ¬ p.block = g) : ((w.setCell ⟨g, 0, none⟩ u).setCell ⟨g, 1, none⟩ v).drew.cell? p = some x := kc1 (kc1 h hne) hne
theorem kc4 {w : World} {g k : Nat} {u v y z : Value} {p : Addr} {x : Value} (h : w.cell? p = some x) (hne : ¬ p.block = g) (hnk : ¬ p.block = k) : ((((w.setCell ⟨g, 0, none⟩ u).setCell ⟨g, 1, none⟩ v).setCell ⟨k, 0, none⟩ y).setCell ⟨k, 1, none⟩ z).drew.cell? p = some x := kc1 (kc1 (kc1 (kc1 h hne) hne) hnk) hnk
end Go.Proofs.Ytkhjmokjbiepgaa
