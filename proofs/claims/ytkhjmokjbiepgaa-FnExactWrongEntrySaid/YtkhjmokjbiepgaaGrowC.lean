/- Calls of Go functions, as steps of regions that are walked by laws: any contract, guarded or not. -/
import Derived.IntWalk
import Derived.Test.YtkhjmokjbiepgaaGrow
namespace Go.Proofs.Ytkhjmokjbiepgaa
open Go.ChangeShapes Go.WideShapes Go.ChangeAt Go.RowKit
/-- a call of a Go function, as a step of a region that is walked by laws -/
theorem step_callG {w : World} {ops : Array Oper} {o : Oper} {a : Act} {K : Act → World → Prop} {Q : Exit → Act → World → Prop} {E : Prop} (hgd : o.guard = none) (f : FuncId) {fn : Func} (hf : Try.prog.funcs[f]? = some fn) (hn : (fn.name == "runtime.NumGoroutine") = false) (hb : fn.body.isNone = false) (args : Array Operand) (tys : Array TypeId)
    (ho : o.op = .call { callee := .value (.func f), args := args, argTypes := tys }) {vals : Array Value} (ha : args.toList.map a.eval = vals.toList) {R : Ending → World → Prop}
    (hc : Calls Try.prog f vals w R) (h : ∀ e w', R e w' → ∃ v, e = .returned v ∧ K (a.put o.dst v) w') : if Region.wanted o (yielded ops a.tmps) = true then Oper.wp Try.prog o a w K Q else E := by
  have hw : Region.wanted o (yielded ops a.tmps) = true := by simp [Region.wanted, hgd]
  rw [if_pos hw]
  obtain rfl : args.map a.eval = vals := by rw [← Array.toList_inj, Array.toList_map]; exact ha
  have e : (execOp a.eval o).run Try.prog w = .ok (.enter f (args.map a.eval)) w := by
    have hn' : ¬ fn.name = "runtime.NumGoroutine" := by simpa using hn
    have hb' : ¬ fn.body = none := by intro e; rw [e] at hb; cases hb
    simp [execOp, ho, resolve, invoke, Act.eval, go_sem, Deferred.ofValue, callFunc, hf, hn', hb']
  unfold Oper.wp
  rw [e, Oper.upon_enter]
  refine hc.mono ?_
  intro e w' hr
  obtain ⟨v, rfl, hk⟩ := h e w' hr
  exact hk
end Go.Proofs.Ytkhjmokjbiepgaa
