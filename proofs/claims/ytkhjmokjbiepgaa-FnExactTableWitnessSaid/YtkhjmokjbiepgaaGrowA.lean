/- Growing a slice of rows of an adder's table: append of one row. -/
import Derived.IntWalk
import Derived.Test.YtkhjmokjbiepgaaRecA
import Derived.Test.YtkhjmokjbiepgaaGrow
namespace Go.Proofs.Ytkhjmokjbiepgaa
open Go.ChangeShapes Go.WideShapes Go.ChangeAt Go.RowKit
/-- 'append(out, AddRow{..})', out owned, inside a region that is walked by laws -/
theorem step_appA {w : World} {ops : Array Oper} {o : Oper} {a : Act} {K : Act → World → Prop} {Q : Exit → Act → World → Prop} {E : Prop} (hgd : o.guard = none) (s x : Operand)
    (ho : o.op = .call { callee := .builtin .append, args := #[s, x], argTypes := #[44, 44] })
    {B : Nat} {v : Value} {n : Nat} {zs : List Int} (xs : List Int) (hxs : xs.length = 5) (g : Nat) {t : TypeId} (hown : OwnR w B v n zs) (hs : a.eval s = v) (hx : a.eval x = .slice (some ⟨g, 0, none⟩) 1 1)
    (hc : w.heap[g]? = some (.cells (xs.map (Value.int .i64)).toArray t)) (hl : n ≤ 1000000000) (hB : B ≤ w.heap.size)
    (h : ∀ v' w', OwnR w' B v' (n + 1) (zs ++ xs) → w.grownBy w' v.ownBlock → K (a.put o.dst v') w') : if Region.wanted o (yielded ops a.tmps) = true then Oper.wp Try.prog o a w K Q else E := by
  have hw : Region.wanted o (yielded ops a.tmps) = true := by simp [Region.wanted, hgd]
  rw [if_pos hw]
  obtain ⟨i0, hi, hz0, hz1, hz2⟩ := info_parts tinfoR
  refine wp_append_own w s x 44 ho B 69 i0 (.agg #[.int .i64 0, .int .i64 0, .int .i64 0, .int .i64 0, .int .i64 0]) 5 40 Try.underlying44 hi hz0 hz1 hz2 rfl (by decide) v n _ hs hown ⟨g, 0, none⟩ 1 1 (xs.map (Value.int .i64)) hx (by rw [List.length_map, hxs]) ?_ ?_ ?_ ?_ hB ?_
  · intro j u hu
    rw [show (⟨g, 0, none⟩ : Addr).add j = ⟨g, j, none⟩ by unfold Addr.add; split <;> simp_all]
    rw [cell_blk hc]
    simpa using hu
  · intro u hu
    rw [List.mem_map] at hu
    obtain ⟨y, _, rfl⟩ := hu
    rfl
  · unfold maxLen; omega
  · omega
  · intro v' w' h1 h2 _
    exact h v' w' (by unfold OwnR; rw [List.map_append]; exact h1) h2
theorem recr_below {w wr w' : World} {o : Obj} {B K n : Nat} {v : Value} {zs : List Int} (hb : Below K w wr) (ho : OwnR wr B v n zs) (hg : (wr.alloc o).grownBy w' v.ownBlock) (hK : K ≤ B) (hs : K ≤ wr.heap.size) : Below K w w' ∧ K ≤ w'.heap.size :=
  ⟨recr_grown_below (hb.alloc hs o) (recr_alloc ho o) hg hK (by simp; omega), by have := hg.size; simp at this; omega⟩
theorem recr_len0 {w : World} {B : Nat} {v : Value} {n m : Nat} {zs : List Int} (h : OwnR w B v n zs) (e : n = m) : OwnR w B v m zs := e ▸ h
/-- a call of a Go function, as a step of a region that is walked by laws -/
theorem step_callG {w : World} {ops : Array Oper} {o : Oper} {a : Act} {K : Act → World → Prop} {Q : Exit → Act → World → Prop} {E : Prop} (hgd : o.guard = none) (f : FuncId) {fn : Func} (hf : Try.prog.funcs[f]? = some fn) (hn : (fn.name == "runtime.NumGoroutine") = false) (hb : fn.body.isNone = false) (args : Array Operand) (tys : Array TypeId)
    (ho : o.op = .call { callee := .value (.func f), args := args, argTypes := tys }) {vals : Array Value} (ha : args.toList.map a.eval = vals.toList) {R : Ending → World → Prop}
    (hc : Calls Try.prog f vals w R) (h : ∀ e w', R e w' → ∃ v, e = .returned v ∧ K (a.put o.dst v) w') : if Region.wanted o (yielded ops a.tmps) = true then Oper.wp Try.prog o a w K Q else E := by
  have hw : Region.wanted o (yielded ops a.tmps) = true := by simp [Region.wanted, hgd]
  rw [if_pos hw]
  obtain rfl : args.map a.eval = vals := by rw [← Array.toList_inj, Array.toList_map]; exact ha
  have e : (execOp a.eval o).run Try.prog w = .ok (.enter f (args.map a.eval)) w := by
    have hn' : ¬ fn.name = "runtime.NumGoroutine" := by simpa using hn
    have hb' : ¬ fn.body = none := by intro e; rw [e] at hb; cases hb
    simp [execOp, ho, resolve, invoke, Act.eval, go_sem, Deferred.ofValue, callFunc, hf, hn', hb']
  unfold Oper.wp
  rw [e, Oper.upon_enter]
  refine hc.mono ?_
  intro e w' hr
  obtain ⟨v, rfl, hk⟩ := h e w' hr
  exact hk
end Go.Proofs.Ytkhjmokjbiepgaa
