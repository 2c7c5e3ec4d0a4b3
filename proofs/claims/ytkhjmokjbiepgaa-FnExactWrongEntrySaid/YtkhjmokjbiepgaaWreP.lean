/- The repair of one entry of a table: plain facts. -/
import Derived.Test.YtkhjmokjbiepgaaDifP
import Derived.Test.YtkhjmokjbiepgaaBinP
import Derived.Test.YtkhjmokjbiepgaaInts
namespace Go.Proofs.Ytkhjmokjbiepgaa
/-- differences of functions -/
def dfn (f : Nat → Int) : Nat → Nat → Int
  | 0, i => f i
  | j + 1, i => dfn f j (i + 1) - dfn f j i
theorem difN_dfn (zs : List Int) : ∀ j i, i + j < zs.length → nth (difN zs j) i = dfn (nth zs) j i
  | 0, _, _ => rfl
  | j + 1, i, h => by
    show (dif (difN zs j)).getD i 0 = dfn (nth zs) j (i + 1) - dfn (nth zs) j i
    rw [dif_at _ _ (by rw [difN_len]; omega)]
    rw [← difN_dfn zs j (i + 1) (by omega), ← difN_dfn zs j i (by omega)]
    rfl
theorem dfn_lin (f g : Nat → Int) (v : Int) : ∀ j i, dfn (fun k => f k + v * g k) j i = dfn f j i + v * dfn g j i
  | 0, _ => rfl
  | j + 1, i => by
    show dfn _ j (i + 1) - dfn _ j i = (dfn f j (i + 1) - dfn f j i) + v * (dfn g j (i + 1) - dfn g j i)
    rw [dfn_lin f g v j (i + 1), dfn_lin f g v j i, Int.mul_sub]
    omega
theorem dfn_shift (f : Nat → Int) (s : Nat) : ∀ j i, dfn f j (i + s) = dfn (fun k => f (k + s)) j i
  | 0, _ => rfl
  | j + 1, i => by
    show dfn f j (i + s + 1) - dfn f j (i + s) = dfn _ j (i + 1) - dfn _ j i
    rw [← dfn_shift f s j (i + 1), ← dfn_shift f s j i, show i + 1 + s = i + s + 1 by omega]
/-- one at a place, zeros elsewhere -/
def dlt (p k : Nat) : Int := if k = p then 1 else 0
def sgnBin (o p : Nat) : Int := if (o - p) % 2 = 1 then - binOf o p else binOf o p
theorem dlt_chk : ∀ o : Fin 10, ∀ p : Fin 10, p.val ≤ o.val → dfn (dlt p.val) o.val 0 = sgnBin o.val p.val ∧ 1 ≤ binOf (o.val : Int) (p.val : Int) ∧ binOf (o.val : Int) (p.val : Int) ≤ 126 := by decide +kernel
theorem nth_set (zs : List Int) (j : Nat) (v : Int) (k : Nat) (h : j < zs.length) : nth (zs.set j v) k = if k = j then v else nth zs k := by
  unfold nth
  rw [List.getD_eq_getElem?_getD, List.getElem?_set]
  by_cases e : k = j
  · subst e; rw [if_pos rfl, if_pos rfl]; simp [h]
  · rw [if_neg (fun x => e x.symm), if_neg e]; rfl
def oneL (n j : Nat) : List Int := (List.replicate n (0 : Int)).set j 1
theorem oneL_len (n j : Nat) : (oneL n j).length = n := by simp [oneL]
theorem nth_one {n j : Nat} (h : j < n) (k : Nat) : nth (oneL n j) k = dlt j k := by
  unfold oneL
  rw [nth_set _ _ _ _ (by simpa using h)]
  unfold dlt
  by_cases e : k = j
  · rw [if_pos e, if_pos e]
  · rw [if_neg e, if_neg e]; unfold nth; rw [List.getD_eq_getElem?_getD, List.getElem?_replicate]; split <;> rfl
def rtR (zs : List Int) (o j i : Nat) : Int := nth (difN (zs.set j 0) o) i
def rtS (zs : List Int) (o j i : Nat) : Int := nth (difN (oneL zs.length j) o) i
theorem rep_lin {zs : List Int} {o j i : Nat} (v : Int) (hj : j < zs.length) (hi : i + o < zs.length) : nth (difN (zs.set j v) o) i = rtR zs o j i + v * rtS zs o j i := by
  unfold rtR rtS
  rw [difN_dfn _ _ _ (by simpa using hi), difN_dfn _ _ _ (by simpa using hi), difN_dfn _ _ _ (by rw [oneL_len]; exact hi), ← dfn_lin]
  congr 1
  funext k
  rw [nth_set _ _ _ _ hj, nth_set _ _ _ _ hj, nth_one hj]
  unfold dlt
  by_cases e : k = j
  · rw [if_pos e, if_pos e, if_pos e]; omega
  · rw [if_neg e, if_neg e, if_neg e]; omega
theorem set_self {zs : List Int} {j : Nat} (hj : j < zs.length) : zs.set j (nth zs j) = zs := by
  unfold nth
  rw [List.getD_eq_getElem?_getD, List.getElem?_eq_getElem hj]
  exact List.set_getElem_self hj
theorem rep_val {zs : List Int} {o j i : Nat} (hj : j < zs.length) (hi : i + o < zs.length) : nth (difN zs o) i = rtR zs o j i + nth zs j * rtS zs o j i := by
  rw [← rep_lin (nth zs j) hj hi, set_self hj]
theorem rtS_first {zs : List Int} {o j : Nat} (ho : o ≤ 9) (hj : j < zs.length) (hn : o < zs.length) : rtS zs o j (j - o) = sgnBin o (j - (j - o)) ∧ 1 ≤ binOf (o : Int) ((j - (j - o) : Nat) : Int) ∧ binOf (o : Int) ((j - (j - o) : Nat) : Int) ≤ 126 := by
  have c := dlt_chk ⟨o, by omega⟩ ⟨j - (j - o), by omega⟩ (by show j - (j - o) ≤ o; omega)
  refine ⟨?_, c.2⟩
  refine Eq.trans ?_ c.1
  show rtS zs o j (j - o) = dfn (dlt (j - (j - o))) o 0
  unfold rtS
  rw [difN_dfn _ _ _ (by rw [oneL_len]; omega)]
  have e : (nth (oneL zs.length j)) = dlt j := by funext k; exact nth_one hj k
  rw [e]
  generalize hs : j - o = s
  have e2 := dfn_shift (dlt j) s o 0
  rw [Nat.zero_add] at e2
  rw [e2]
  congr 1
  funext k
  unfold dlt
  by_cases e : k = j - s
  · rw [if_pos e, if_pos (by omega)]
  · rw [if_neg e, if_neg (by omega)]
theorem sgnBin_ne {o p : Nat} (h : 1 ≤ binOf (o : Int) (p : Int)) : sgnBin o p ≠ 0 := by unfold sgnBin; split <;> omega
/-- what the entry j must be so that all differences of the order o are zero -/
def repV (zs : List Int) (o j : Nat) : Int := -(rtR zs o j (j - o) / rtS zs o j (j - o))
def repOk (zs : List Int) (o j : Nat) : Bool := (List.range (zs.length - o)).all fun i => decide (rtR zs o j i + repV zs o j * rtS zs o j i = 0)
theorem repOk_iff {zs : List Int} {o j : Nat} : repOk zs o j = true ↔ ∀ i, i < zs.length - o → rtR zs o j i + repV zs o j * rtS zs o j i = 0 := by
  unfold repOk
  rw [List.all_eq_true]
  constructor
  · intro h i hi
    have := h i (List.mem_range.2 hi)
    exact of_decide_eq_true this
  · intro h i hi
    exact decide_eq_true (h i (List.mem_range.1 hi))
theorem repV_of {zs : List Int} {o j : Nat} (v : Int) (h0 : rtS zs o j (j - o) ≠ 0) (h : rtR zs o j (j - o) + v * rtS zs o j (j - o) = 0) : repV zs o j = v := by
  unfold repV
  have e : rtR zs o j (j - o) = (-v) * rtS zs o j (j - o) := by rw [Int.neg_mul]; omega
  rw [e, Int.mul_ediv_cancel _ h0]; omega
theorem repOk_of {zs : List Int} {o j : Nat} (v : Int) (hf : j - o < zs.length - o) (h0 : rtS zs o j (j - o) ≠ 0) (h : ∀ i, i < zs.length - o → rtR zs o j i + v * rtS zs o j i = 0) : repOk zs o j = true ∧ repV zs o j = v := by
  have e := repV_of v h0 (h _ hf)
  exact ⟨repOk_iff.2 (by rw [e]; exact h), e⟩
theorem repOk_not {zs : List Int} {o j i : Nat} (hi : i < zs.length - o) (h : rtR zs o j i + repV zs o j * rtS zs o j i ≠ 0) : repOk zs o j = false := by
  rw [Bool.eq_false_iff]; intro e; exact h (repOk_iff.1 e i hi)
/-- the program's loop: what it has found behind i places -/
def repInv (zs : List Int) (o j i : Nat) (due : Int) (found : Bool) : Prop :=
  (found = false ∧ ∀ k, k < i → rtS zs o j k = 0 ∧ rtR zs o j k = 0) ∨ (found = true ∧ (∃ k, k < i ∧ rtS zs o j k ≠ 0) ∧ ∀ k, k < i → rtR zs o j k + due * rtS zs o j k = 0)
theorem inv_zero (zs : List Int) (o j : Nat) : repInv zs o j 0 0 false := .inl ⟨rfl, fun k hk => by omega⟩
theorem inv_skip {zs : List Int} {o j i : Nat} {due : Int} {found : Bool} (h : repInv zs o j i due found) (hs : rtS zs o j i = 0) (hr : rtR zs o j i = 0) : repInv zs o j (i + 1) due found := by
  rcases h with ⟨h1, h2⟩ | ⟨h1, ⟨k, hk, hk2⟩, h2⟩
  · refine .inl ⟨h1, fun k hk => ?_⟩
    by_cases e : k = i
    · subst e; exact ⟨hs, hr⟩
    · exact h2 k (by omega)
  · refine .inr ⟨h1, ⟨k, by omega, hk2⟩, fun k hk => ?_⟩
    by_cases e : k = i
    · subst e; rw [hs, hr]; omega
    · exact h2 k (by omega)
theorem inv_fail0 {zs : List Int} {o j i : Nat} (hi : i < zs.length - o) (hs : rtS zs o j i = 0) (hr : rtR zs o j i ≠ 0) : repOk zs o j = false :=
  repOk_not hi (by rw [hs]; omega)
theorem tmod_of {r s v : Int} (h : r + v * s = 0) : r.tmod s = 0 := by
  have e : r = s * (-v) := by rw [Int.mul_neg, Int.mul_comm]; omega
  rw [e]; exact Int.mul_tmod_right s (-v)
theorem tdiv_of {r s v : Int} (hs : s ≠ 0) (h : r + v * s = 0) : (-r).tdiv s = v := by
  have e : -r = v * s := by omega
  rw [e]; exact Int.mul_tdiv_cancel v hs
theorem of_tmod {r s : Int} (h : r.tmod s = 0) : r + (-r).tdiv s * s = 0 := by
  have h1 := Int.tmod_add_mul_tdiv r s
  rw [h, Int.mul_comm] at h1
  rw [Int.neg_tdiv, Int.neg_mul]; omega
theorem inv_fail1 {zs : List Int} {o j i : Nat} (hi : i < zs.length - o) (hr : (rtR zs o j i).tmod (rtS zs o j i) ≠ 0) : repOk zs o j = false :=
  repOk_not hi (fun h => hr (tmod_of h))
theorem inv_fail2 {zs : List Int} {o j i : Nat} {due : Int} (hi : i < zs.length - o) (h : repInv zs o j i due true) (hs : rtS zs o j i ≠ 0) (hne : (-(rtR zs o j i)).tdiv (rtS zs o j i) ≠ due) : repOk zs o j = false := by
  rcases h with ⟨h1, _⟩ | ⟨_, ⟨k, hk, hk2⟩, h2⟩
  · cases h1
  · rw [Bool.eq_false_iff]; intro e
    have a := repOk_iff.1 e
    refine hne ?_
    rw [tdiv_of hs (a i hi), ← tdiv_of hk2 (a k (by omega)), tdiv_of hk2 (h2 k hk)]
theorem inv_next {zs : List Int} {o j i : Nat} {due : Int} {found : Bool} (h : repInv zs o j i due found) (hs : rtS zs o j i ≠ 0) (hr : (rtR zs o j i).tmod (rtS zs o j i) = 0) (hd : found = true → (-(rtR zs o j i)).tdiv (rtS zs o j i) = due) :
    repInv zs o j (i + 1) ((-(rtR zs o j i)).tdiv (rtS zs o j i)) true := by
  refine .inr ⟨rfl, ⟨i, by omega, hs⟩, fun k hk => ?_⟩
  by_cases e : k = i
  · subst e; exact of_tmod hr
  · rcases h with ⟨_, h2⟩ | ⟨h1, _, h2⟩
    · obtain ⟨a, b⟩ := h2 k (by omega)
      rw [a, b]; omega
    · rw [hd h1]; exact h2 k (by omega)
theorem inv_end {zs : List Int} {o j : Nat} {due : Int} {found : Bool} (h : repInv zs o j (zs.length - o) due found) (ho : o ≤ 9) (hj : j < zs.length) (hn : o < zs.length) : repOk zs o j = true ∧ repV zs o j = due := by
  have f0 := sgnBin_ne (rtS_first ho hj hn).2.1
  rw [← (rtS_first ho hj hn).1] at f0
  rcases h with ⟨_, h2⟩ | ⟨_, _, h2⟩
  · exact absurd (h2 (j - o) (by omega)).1 f0
  · exact repOk_of due (by omega) f0 h2
theorem bdd_nth {zs : List Int} {b : Int} (h : bdd b zs) (h0 : 0 ≤ b) (i : Nat) : -b ≤ nth zs i ∧ nth zs i ≤ b := by
  by_cases hi : i < zs.length
  · exact bdd_at h hi
  · unfold nth; rw [List.getD_eq_getElem?_getD, List.getElem?_eq_none (by omega)]; simp; omega
theorem bdd_set {zs : List Int} {b v : Int} (h : bdd b zs) (h1 : -b ≤ v) (h2 : v ≤ b) (j : Nat) : bdd b (zs.set j v) := fun x hx => by
  rcases List.mem_or_eq_of_mem_set hx with h' | h'
  · exact h x h'
  · omega
theorem pow9 {o : Nat} (ho : o ≤ 9) : (2 : Int) ^ o ≤ 512 := by
  have h := two_pow_le ho
  rw [show (2 : Int) ^ 9 = 512 by decide] at h
  exact h
theorem pow_nn (o : Nat) : (0 : Int) ≤ 2 ^ o := Int.pow_nonneg (by omega)
theorem bdd_ord {zs : List Int} {b : Int} (h : bdd b zs) (h0 : 0 ≤ b) {o : Nat} (ho : o ≤ 9) : bdd (512 * b) (difN zs o) := bdd_mono (bdd_difN h o) (Int.mul_le_mul_of_nonneg_right (pow9 ho) h0)
theorem bdd_one (n j : Nat) : bdd 1 (oneL n j) := bdd_set (fun x hx => by rw [List.mem_replicate] at hx; omega) (by omega) (by omega) j
theorem rtR_bd {zs : List Int} (h : bdd 1000000000 zs) {o : Nat} (ho : o ≤ 9) (j i : Nat) : -512000000000 ≤ rtR zs o j i ∧ rtR zs o j i ≤ 512000000000 := bdd_nth (bdd_ord (bdd_set h (by omega) (by omega) j) (by omega) ho) (by omega) i
theorem rtS_bd (zs : List Int) {o : Nat} (ho : o ≤ 9) (j i : Nat) : -512 ≤ rtS zs o j i ∧ rtS zs o j i ≤ 512 := bdd_nth (bdd_ord (bdd_one zs.length j) (by omega) ho) (by omega) i
theorem repV_bd {zs : List Int} (h : bdd 1000000000 zs) {o : Nat} (ho : o ≤ 9) (j : Nat) : -512000000000 ≤ repV zs o j ∧ repV zs o j ≤ 512000000000 := by
  have a := rtR_bd h ho j (j - o)
  have b : (rtR zs o j (j - o) / rtS zs o j (j - o)).natAbs ≤ (rtR zs o j (j - o)).natAbs := Int.natAbs_ediv_le_natAbs _ _
  unfold repV
  omega
/-- the search of the wrong entry, from the place j on -/
def weF (zs : List Int) (o : Nat) : Nat → Nat → Int × Int × Int
  | 0, _ => (0, 0, 3)
  | f + 1, j => if repOk zs o j then ((j : Int), repV zs o j, 0) else weF zs o f (j + 1)
theorem weF_hit {zs : List Int} {o n j : Nat} (hj : j < n) (h : repOk zs o j = true) : weF zs o (n - j) j = ((j : Int), repV zs o j, 0) := by
  rw [show n - j = (n - (j + 1)) + 1 by omega]
  show (if repOk zs o j then _ else _) = _
  rw [if_pos h]
theorem weF_miss {zs : List Int} {o n j : Nat} (hj : j < n) (h : repOk zs o j = false) : weF zs o (n - j) j = weF zs o (n - (j + 1)) (j + 1) := by
  rw [show n - j = (n - (j + 1)) + 1 by omega]
  show (if repOk zs o j then _ else _) = _
  rw [h]; rfl
/-- the reference's way: by the first difference that the entry takes part in -/
theorem ref_no {zs : List Int} {o j : Nat} (hj : j < zs.length) (hn : o < zs.length) (h : (nth (difN zs o) (j - o)).tmod (rtS zs o j (j - o)) ≠ 0) : repOk zs o j = false := by
  refine repOk_not (i := j - o) (by omega) (fun e => h ?_)
  rw [rep_val hj (by omega)]
  refine tmod_of (v := repV zs o j - nth zs j) ?_
  rw [Int.sub_mul]; omega
theorem ref_yes {zs : List Int} {o j : Nat} (hj : j < zs.length) (hn : o < zs.length) (h0 : rtS zs o j (j - o) ≠ 0) (h : (nth (difN zs o) (j - o)).tmod (rtS zs o j (j - o)) = 0) :
    nth zs j - (nth (difN zs o) (j - o)).tdiv (rtS zs o j (j - o)) = repV zs o j := by
  have e := of_tmod h
  rw [Int.neg_tdiv, Int.neg_mul] at e
  symm
  refine repV_of _ h0 ?_
  rw [Int.sub_mul]
  have r := rep_val (o := o) (i := j - o) hj (by omega)
  omega
end Go.Proofs.Ytkhjmokjbiepgaa
