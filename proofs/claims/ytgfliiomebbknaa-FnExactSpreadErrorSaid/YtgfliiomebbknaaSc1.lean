/- Contracts of small functions of numbers. -/
import Derived.IntWalk
import Derived.Test.YtgfliiomebbknaaBase
namespace Go.Proofs.Ytgfliiomebbknaa
open Go.ChangeShapes Go.WideShapes Go.ChangeAt Go.RowKit
def okc (b : Bool) : Int := if b then 0 else 2
theorem spec_l17Order (n s : Int) (w : World) :
    Calls Try.prog 52 #[.int .i64 n, .int .i64 s] w fun e w' => e = .returned (.int .i64 (okc (inB n 0 8 && inB s 0 1000000))) ∧ w = w' := by
  cases h1 : inB n 0 8 <;> cases h2 : inB s 0 1000000
  all_goals
    go_enter Try.func52, Try.ntmps52
    go_wp2_with (go_at_call 44; refine (spec_l00In _ _ _ _).mono ?_; rintro e w' ⟨rfl, rfl⟩)
    go_ret
    exact ⟨rfl, rfl⟩
end Go.Proofs.Ytgfliiomebbknaa
