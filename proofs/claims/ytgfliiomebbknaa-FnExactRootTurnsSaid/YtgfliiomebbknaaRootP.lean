/- Square roots by subtracting odd numbers: plain facts of the plain functions. -/
import Derived.Test.YtgfliiomebbknaaRows
namespace Go.Proofs.Ytgfliiomebbknaa
/-- digits of v in base B, the lowest first -/
def digs (B : Int) : Nat → Int → List Int
  | 0, _ => []
  | f + 1, v => if v ≤ 0 then [] else v % B :: digs B f (v / B)
def valr (B : Int) : List Int → Int
  | [] => 0
  | d :: l => d + B * valr B l
def digOk (B : Int) (l : List Int) : Prop := ∀ d ∈ l, 0 ≤ d ∧ d < B
theorem digs_ok {B : Int} (hB : 4 ≤ B) (f : Nat) : ∀ v, digOk B (digs B f v) := by
  induction f with
  | zero => intro v d hd; simp [digs] at hd
  | succ f ih =>
    intro v d hd
    unfold digs at hd
    split at hd
    · simp at hd
    · rcases List.mem_cons.1 hd with rfl | h
      · exact ⟨Int.emod_nonneg _ (by omega), Int.emod_lt_of_pos _ (by omega)⟩
      · exact ih _ d h
theorem digs_len {B : Int} (f : Nat) : ∀ v, (digs B f v).length ≤ f := by
  induction f with
  | zero => intro v; simp [digs]
  | succ f ih =>
    intro v
    unfold digs
    split
    · simp
    · simp only [List.length_cons]; have := ih (v / B); omega
theorem div_lt4 {B v : Int} {f : Nat} (hB : 4 ≤ B) (h0 : 0 < v) (h : v < 4 ^ (f + 1)) : v / B < 4 ^ f := by
  have e : (4 : Int) ^ (f + 1) = 4 ^ f * 4 := Int.pow_succ 4 f
  rw [e] at h
  have h2 : 4 * (v / 4) ≤ v := by omega
  have h3 : v / B ≤ v / 4 := by
    have a := Int.mul_ediv_add_emod v B
    have b := Int.emod_nonneg v (show B ≠ 0 by omega)
    have q0 : 0 ≤ v / B := Int.ediv_nonneg (by omega) (by omega)
    have c := Int.mul_le_mul_of_nonneg_right hB q0
    omega
  omega
theorem digs_val {B : Int} (hB : 4 ≤ B) (f : Nat) : ∀ v, 0 ≤ v → v < 4 ^ f → valr B (digs B f v) = v := by
  induction f with
  | zero => intro v h0 h; simp [digs, valr] at *; omega
  | succ f ih =>
    intro v h0 h
    unfold digs
    split
    · simp [valr]; omega
    · show v % B + B * valr B (digs B f (v / B)) = v
      rw [ih _ (Int.ediv_nonneg h0 (by omega)) (div_lt4 hB (by omega) h)]
      have := Int.mul_ediv_add_emod v B
      omega
theorem valr_nonneg {B : Int} (hB : 4 ≤ B) : ∀ l, digOk B l → 0 ≤ valr B l := by
  intro l
  induction l with
  | nil => intro _; simp [valr]
  | cons d l ih =>
    intro h
    have a := h d (by simp)
    have b := ih (fun x hx => h x (by simp [hx]))
    have c := Int.mul_nonneg (show 0 ≤ B by omega) b
    show 0 ≤ d + B * valr B l
    omega
theorem valr_drop {B : Int} (hB : 4 ≤ B) : ∀ l k, digOk B l → valr B (l.drop k) ≤ valr B l := by
  intro l
  induction l with
  | nil => intro k _; simp
  | cons d l ih =>
    intro k h
    have hl : digOk B l := fun x hx => h x (by simp [hx])
    cases k with
    | zero => simp
    | succ k =>
      have a := ih k hl
      have b := valr_nonneg hB l hl
      have c := Int.mul_le_mul_of_nonneg_right (show (1 : Int) ≤ B by omega) b
      have d0 := h d (by simp)
      show valr B (l.drop k) ≤ d + B * valr B l
      omega
/-- the inner loop: subtract odd numbers -/
def inn : Nat → Int → Int → List Int → Int × Int × List Int
  | 0, r, s, t => (r, s, t)
  | f + 1, r, s, t => if 2 * r + 1 ≤ s then inn f (r + 1) (s - (2 * r + 1)) (t ++ [2 * r + 1]) else (r, s, t)
theorem inn_go {f : Nat} {r s : Int} {t : List Int} (hf : s < (f : Int)) (h : 2 * r + 1 ≤ s) (hr : 0 ≤ r) : ∃ f' : Nat, s - (2 * r + 1) < (f' : Int) ∧ inn f r s t = inn f' (r + 1) (s - (2 * r + 1)) (t ++ [2 * r + 1]) := by
  cases f with
  | zero => simp at hf; omega
  | succ f => exact ⟨f, by omega, by show (if 2 * r + 1 ≤ s then _ else _) = _; rw [if_pos h]⟩
theorem inn_end {f : Nat} {r s : Int} {t : List Int} (h : ¬ 2 * r + 1 ≤ s) : inn f r s t = (r, s, t) := by
  cases f with
  | zero => rfl
  | succ f => show (if 2 * r + 1 ≤ s then _ else _) = _; rw [if_neg h]
theorem sq_succ (r : Int) : (r + 1) * (r + 1) = r * r + 2 * r + 1 := by rw [Int.add_mul, Int.mul_add]; omega
/-- what holds of the inner loop's end -/
structure InnOk (P : Int) (x : Int × Int × List Int) : Prop where
  r0 : 0 ≤ x.1
  s0 : 0 ≤ x.2.1
  s1 : x.2.1 ≤ 2 * x.1
  sq : x.1 * x.1 + x.2.1 = P
  len : (x.2.2.length : Int) ≤ x.1
theorem inn_ok (f : Nat) : ∀ r s t, 0 ≤ r → 0 ≤ s → s < (f : Int) → (t.length : Int) ≤ r → InnOk (r * r + s) (inn f r s t) := by
  induction f with
  | zero => intro r s t _ h1 h2; simp at h2; omega
  | succ f ih =>
    intro r s t h0 h1 h2 h3
    unfold inn
    split
    · have := ih (r + 1) (s - (2 * r + 1)) (t ++ [2 * r + 1]) (by omega) (by omega) (by omega) (by simp; omega)
      have e : (r + 1) * (r + 1) + (s - (2 * r + 1)) = r * r + s := by rw [sq_succ]; omega
      rwa [e] at this
    · exact ⟨h0, h1, by show s ≤ 2 * r; omega, rfl, h3⟩
/-- the root, the rest and the turns of the digits l, the lowest first -/
def rst (b : Int) : List Int → Int × Int × List Int
  | [] => (0, 0, [])
  | d :: l => inn ((rst b l).2.1 * b * b + d + 1).toNat ((rst b l).1 * b) ((rst b l).2.1 * b * b + d) (rst b l).2.2
theorem rst_ok {b : Int} (hb : 2 ≤ b) : ∀ l, digOk (b * b) l → InnOk (valr (b * b) l) (rst b l) := by
  intro l
  induction l with
  | nil => intro _; exact ⟨by simp [rst], by simp [rst], by simp [rst], by simp [rst, valr], by simp [rst]⟩
  | cons d l ih =>
    intro h
    have o := ih (fun x hx => h x (by simp [hx]))
    have hd := h d (by simp)
    have h0 : 0 ≤ (rst b l).2.1 * b * b := Int.mul_nonneg (Int.mul_nonneg o.s0 (by omega)) (by omega)
    have h1 : 0 ≤ (rst b l).1 * b := Int.mul_nonneg o.r0 (by omega)
    have h2 : (rst b l).1 ≤ (rst b l).1 * b := by have := Int.mul_le_mul_of_nonneg_left (show 1 ≤ b by omega) o.r0; omega
    have k := inn_ok ((rst b l).2.1 * b * b + d + 1).toNat ((rst b l).1 * b) ((rst b l).2.1 * b * b + d) (rst b l).2.2 h1 (by omega) (by omega) (by have := o.len; omega)
    have e : (rst b l).1 * b * ((rst b l).1 * b) + ((rst b l).2.1 * b * b + d) = valr (b * b) (d :: l) := by
      show _ = d + b * b * valr (b * b) l
      rw [← o.sq, Int.mul_add]
      have e1 : (rst b l).1 * b * ((rst b l).1 * b) = b * b * ((rst b l).1 * (rst b l).1) := by
        rw [Int.mul_comm (rst b l).1 b, Int.mul_assoc b, Int.mul_assoc b b, Int.mul_left_comm (rst b l).1 b]
      have e2 : (rst b l).2.1 * b * b = b * b * (rst b l).2.1 := by rw [Int.mul_assoc, Int.mul_comm]
      omega
    rwa [e] at k
theorem sq_le {r : Int} (h0 : 0 ≤ r) (h : r * r ≤ 1000000000000) : r ≤ 1000000 := by
  by_cases c : r ≤ 1000000
  · exact c
  · have a := Int.mul_le_mul_of_nonneg_left (show (1000001 : Int) ≤ r by omega) h0
    omega
theorem sq_nonneg (r : Int) : 0 ≤ r * r := by
  by_cases h : 0 ≤ r
  · exact Int.mul_nonneg h h
  · have := Int.mul_nonneg (show 0 ≤ -r by omega) (show 0 ≤ -r by omega); rwa [Int.neg_mul_neg] at this
def rootD (b v : Int) : List Int := digs (b * b) 20 v
def rootAll (b v : Int) : Int × Int × List Int := rst b (rootD b v)
/-- bounds of the state in front of the digit k -/
theorem rst_bd {b v : Int} (hb : 2 ≤ b) (hb2 : b ≤ 16) (h0 : 0 ≤ v) (h1 : v ≤ 1000000000000) (k : Nat) :
    let x := rst b ((rootD b v).drop k)
    0 ≤ x.1 ∧ x.1 ≤ 1000000 ∧ 0 ≤ x.2.1 ∧ x.2.1 ≤ 2000000 ∧ (x.2.2.length : Int) ≤ 1000000 := by
  intro x
  have hB : (4 : Int) ≤ b * b := by have := Int.mul_le_mul_of_nonneg_left hb (show 0 ≤ b by omega); omega
  have ok := digs_ok hB 20 v
  have okd : digOk (b * b) ((rootD b v).drop k) := fun d hd => ok d (List.mem_of_mem_drop hd)
  have o := rst_ok hb _ okd
  have le := valr_drop hB (rootD b v) k ok
  have ev : valr (b * b) (rootD b v) = v := digs_val hB 20 v h0 (by omega)
  have hs := o.s0; have hs1 := o.s1; have hr := o.r0; have hq := o.sq; have hl := o.len
  have rb := sq_le hr (by omega)
  exact ⟨hr, rb, hs, by show x.2.1 ≤ _; have : x.2.1 ≤ 2 * x.1 := hs1; have : x.1 ≤ 1000000 := rb; omega, by have : (x.2.2.length : Int) ≤ x.1 := hl; have : x.1 ≤ 1000000 := rb; omega⟩
theorem digs_step {B m : Int} {f : Nat} (hB : 4 ≤ B) (hm : 0 < m) (mf : m < 4 ^ f) : ∃ f' : Nat, digs B f m = m % B :: digs B f' (m / B) ∧ m / B < 4 ^ f' := by
  cases f with
  | zero => simp at mf; omega
  | succ f => exact ⟨f, by show (if m ≤ 0 then _ else _) = _; rw [if_neg (by omega)], div_lt4 hB hm mf⟩
theorem digs_end {B m : Int} {f : Nat} (hm : m ≤ 0) : digs B f m = [] := by
  cases f with
  | zero => rfl
  | succ f => show (if m ≤ 0 then _ else _) = _; rw [if_pos hm]
theorem rst_drop (b : Int) (l : List Int) (k : Nat) (hk : k < l.length) : rst b (l.drop k) =
    inn ((rst b (l.drop (k + 1))).2.1 * b * b + l.getD k 0 + 1).toNat ((rst b (l.drop (k + 1))).1 * b) ((rst b (l.drop (k + 1))).2.1 * b * b + l.getD k 0) (rst b (l.drop (k + 1))).2.2 := by
  rw [List.drop_eq_getElem_cons hk]
  simp [rst, List.getD, hk]
theorem mul_bd {x y p q : Int} (h0 : 0 ≤ x) (h1 : x ≤ p) (h2 : 0 ≤ y) (h3 : y ≤ q) : 0 ≤ x * y ∧ x * y ≤ p * q := by
  refine ⟨Int.mul_nonneg h0 h2, ?_⟩
  have a := Int.mul_le_mul_of_nonneg_right h1 h2
  have c := Int.mul_le_mul_of_nonneg_left h3 (show 0 ≤ p by omega)
  omega
theorem rootAll_eq (b v : Int) {D : List Int} (h : rootD b v = D) : rootAll b v = rst b (D.drop 0) := by rw [List.drop_zero, ← h]; rfl
theorem rst_sq {b v : Int} (hb : 2 ≤ b) (h0 : 0 ≤ v) (h1 : v ≤ 1000000000000) (k : Nat) (hk : k < (rootD b v).length) :
    (rst b ((rootD b v).drop (k + 1))).1 * b * ((rst b ((rootD b v).drop (k + 1))).1 * b) + ((rst b ((rootD b v).drop (k + 1))).2.1 * b * b + (rootD b v).getD k 0) ≤ 1000000000000 := by
  have hB : (4 : Int) ≤ b * b := by have := Int.mul_le_mul_of_nonneg_left hb (show 0 ≤ b by omega); omega
  have ok := digs_ok hB 20 v
  have okd : digOk (b * b) ((rootD b v).drop (k + 1)) := fun d hd => ok d (List.mem_of_mem_drop hd)
  have o := rst_ok hb _ okd
  have le := valr_drop hB (rootD b v) k ok
  have ev : valr (b * b) (rootD b v) = v := digs_val hB 20 v h0 (by omega)
  have e : valr (b * b) ((rootD b v).drop k) = (rootD b v).getD k 0 + b * b * valr (b * b) ((rootD b v).drop (k + 1)) := by
    rw [List.drop_eq_getElem_cons hk]; simp [valr, List.getD, hk]
  rw [← o.sq, Int.mul_add] at e
  generalize rst b ((rootD b v).drop (k + 1)) = x at *
  have e1 : x.1 * b * (x.1 * b) = b * b * (x.1 * x.1) := by
    rw [Int.mul_comm x.1 b, Int.mul_assoc b, Int.mul_assoc b b, Int.mul_left_comm x.1 b]
  have e2 : x.2.1 * b * b = b * b * x.2.1 := by rw [Int.mul_assoc, Int.mul_comm]
  omega
end Go.Proofs.Ytgfliiomebbknaa
