/- A region that draws its order and ends by a store into a cell that it has read: every reading may be done first. -/
import Derived.OrdersHeld
import Derived.RegionTactic
import Derived.Test.YtkhjmokjbiepgaaBase
namespace Go.Proofs.Ytkhjmokjbiepgaa
open Go.ChangeShapes Go.WideShapes Go.ChangeAt Go.RowKit
/-- In whatever order: behind every operation but the number t the condition S holds. -/
def AnyX (P : Program) (md : Region.Mode) (ops : Array Oper) (Q : Exit → Act → World → Prop) (S : World → Prop) (t : Nat) : Nat → Array Bool → Act → World → Prop
  | 0 => fun l a w => Region.ready md ops l = [] ∧ Q .normal a w
  | n + 1 => fun l a w => (Region.ready md ops l = [] → Q .normal a w) ∧ ∀ i, i ∈ Region.ready md ops l → wpOp P ops Q i (fun a' w' => (i = t ∨ S w') ∧ AnyX P md ops Q S t n (l.setIfInBounds i true) a' w') a w
theorem anyX_any {P : Program} {md : Region.Mode} {ops : Array Oper} {Q : Exit → Act → World → Prop} {S : World → Prop} {t : Nat} :
    ∀ (n : Nat) (l : Array Bool) (a : Act) (w : World), AnyX P md ops Q S t n l a w → wpAny P md ops Q n l a w := by
  intro n
  induction n with
  | zero => intro l a w h; exact h
  | succ n ih =>
    intro l a w h
    refine ⟨h.1, fun i hi => ?_⟩
    exact wpOp_mono (fun a' w' k => ih _ a' w' k.2) (h.2 i hi)
theorem anyX_first {P : Program} {md : Region.Mode} {ops : Array Oper} {Q : Exit → Act → World → Prop} {S : World → Prop} {t i : Nat} {oi : Oper} {v : Value} (hi : ops[i]? = some oi)
    (hsel : ∀ (j : Nat) (o : Oper) cs b, ops[j]? = some o → o.op ≠ .select cs b) (hQ : ∀ c a w, Q (.panic c) (a.put oi.dst v) w → Q (.panic c) a w)
    (ht : ∀ ot, ops[t]? = some ot → ∃ e, e ∈ ot.after ∧ Region.binds md e = true ∧ e.on = i) :
    ∀ (n : Nat) (l : Array Bool) (a : Act) (w : World), (∀ j oj, ops[j]? = some oj → j ≠ i → l.getD j true = false → (∀ e ∈ oj.after, Region.binds md e = true → e.on ≠ i) → oi.apart ops oj = true) →
      i ∈ Region.ready md ops l → YieldsIf P ops S oi v a → S w → AnyX P md ops Q S t n (l.setIfInBounds i true) (a.put oi.dst v) w → AnyX P md ops Q S t (n + 1) l a w := by
  intro n
  induction n with
  | zero =>
    intro l a w _ hr hy hS H
    constructor
    · intro e; rw [e] at hr; cases hr
    · intro j hj
      by_cases e : j = i
      · subst e; exact hy.wpOp hi hS ⟨.inr hS, H⟩
      · have c := ready_mono hj e
        rw [H.1] at c; cases c
  | succ n ih =>
    intro l a w hf hr hy hS H
    constructor
    · intro e; rw [e] at hr; cases hr
    · intro j hj
      by_cases e : j = i
      · subst e; exact hy.wpOp hi hS ⟨.inr hS, H⟩
      · have k1 := H.2 j (ready_mono hj e)
        obtain ⟨u0, oj, hoj, hall⟩ := mem_ready.1 hj
        have li : l.getD i false = false := by
          have x := (mem_ready.1 hr).1
          cases y : l[i]? with
          | none => simp [y] at x
          | some z => simp [y] at x ⊢; exact x
        have hno : ∀ e ∈ oj.after, Region.binds md e = true → e.on ≠ i := by
          intro f hf1 hf2 hf3
          have x := hall f hf1 hf2
          rw [hf3, li] at x; cases x
        have jt : j ≠ t := by
          intro x
          subst x
          obtain ⟨f, hf1, hf2, hf3⟩ := ht oj hoj
          exact hno f hf1 hf2 hf3
        have k2 := wpOp_putIf hoj (hf j oj hoj e u0 hno) (fun cs b => hsel i oi cs b hi) (fun cs b => hsel j oj cs b hoj) hQ hy k1
        refine wpOp_mono (fun a' w' k3 => ?_) k2
        obtain ⟨k4, k5, k6⟩ := k3
        have s' : S w' := by rcases k5 with x | x; exact absurd x jt; exact x
        refine ⟨.inr s', ih _ a' w' ?_ (ready_mono hr (Ne.symm e)) k4 s' ?_⟩
        · intro q oq hq hqi hun hnq
          refine hf q oq hq hqi ?_ hnq
          by_cases x : j = q
          · subst x; exact u0
          · rw [getD_set_ne true x] at hun; exact hun
        · rw [Array.setIfInBounds_comm _ _ e]; exact k6
/-- number i is done first -/
theorem anyX_take {P : Program} {md : Region.Mode} {ops : Array Oper} {Q : Exit → Act → World → Prop} {S : World → Prop} {t i : Nat} {oi : Oper} {v : Value} {n : Nat} {l : Array Bool} {a : Act} {w : World} (hi : ops[i]? = some oi)
    (hs : Region.noSelect ops = true) (hf : Region.free md ops l i = true) (hr : (Region.ready md ops l).contains i = true)
    (ht : ((ops[t]?).map fun o => o.after.any fun e => Region.binds md e && e.on == i) = some true)
    (hQ : ∀ c a w, Q (.panic c) (a.put oi.dst v) w → Q (.panic c) a w) (hy : YieldsIf P ops S oi v a) (hS : S w)
    (h : AnyX P md ops Q S t n (l.setIfInBounds i true) (a.put oi.dst v) w) : AnyX P md ops Q S t (n + 1) l a w := by
  refine anyX_first hi (Region.noSelect_spec hs) hQ ?_ n l a w (Region.free_spec hi hf) (by simpa using hr) hy hS h
  intro ot hot
  rw [hot] at ht
  have x : (ot.after.any fun e => Region.binds md e && e.on == i) = true := by simpa using ht
  obtain ⟨f, hf1, hf2⟩ := Array.any_eq_true'.1 x
  simp only [Bool.and_eq_true, beq_iff_eq] at hf2
  exact ⟨f, hf1, hf2.1, hf2.2⟩
/-- number i alone may come up -/
theorem anyX_one {P : Program} {md : Region.Mode} {ops : Array Oper} {Q : Exit → Act → World → Prop} {S : World → Prop} {t : Nat} (i : Nat) {o : Oper} {n : Nat} {l : Array Bool} {a : Act} {w : World} (hr : Region.ready md ops l = [i]) (ho : ops[i]? = some o)
    (h : ∀ K : Act → World → Prop, Hid (∀ a' w', (i = t ∨ S w') → AnyX P md ops Q S t n (l.setIfInBounds i true) a' w' → K a' w') → if Region.wanted o (yielded ops a.tmps) = true then Oper.wp P o a w K Q else K (a.put o.dst undef) w) : AnyX P md ops Q S t (n + 1) l a w := by
  refine ⟨fun e => (by rw [hr] at e; cases e), fun j hj => ?_⟩
  rw [hr] at hj
  obtain rfl : j = i := by simpa using hj
  exact wpOp_step ho (fun K' hK => h K' (Lib.hid (fun a' w' x y => hK a' w' ⟨x, y⟩)))
/-- all is done -/
theorem anyX_done {P : Program} {md : Region.Mode} {ops : Array Oper} {Q : Exit → Act → World → Prop} {S : World → Prop} {t : Nat} {l : Array Bool} {a : Act} {w : World} (hr : Region.ready md ops l = []) (h : Q .normal a w) : ∀ n, AnyX P md ops Q S t n l a w
  | 0 => ⟨hr, h⟩
  | _ + 1 => ⟨fun _ => h, fun i hi => by rw [hr] at hi; cases hi⟩
theorem anyX_region {P : Program} {ops : Array Oper} {Q : Exit → Act → World → Prop} {id : Nat} {a : Act} {w : World} (S : World → Prop) (t : Nat) (hm : P.follows .mixedOrders = true)
    (h : AnyX P .any ops Q S t ops.size (Array.replicate ops.size false) a w.drew) : (Code.region id ops true).wp P Q a w :=
  wp_region_any hm (anyX_any _ _ _ _ h)
end Go.Proofs.Ytkhjmokjbiepgaa
