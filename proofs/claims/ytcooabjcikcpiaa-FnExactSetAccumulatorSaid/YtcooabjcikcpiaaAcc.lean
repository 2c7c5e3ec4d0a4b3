/- The range of an accumulator, a signed result: both packages return the same plain functions. -/
import Derived.IntWalk
import Derived.Test.YtcooabjcikcpiaaPow
namespace Go.Proofs.Ytcooabjcikcpiaa
open Go.ChangeShapes Go.WideShapes Go.ChangeAt Go.RowKit
theorem ret_i3 {a b c d e f : Int} (h : a = b) (h2 : c = d) (h3 : e = f) : Ending.returned (.tuple #[.int .i64 a, .int .i64 c, .int .i64 e]) = .returned (.tuple #[.int .i64 b, .int .i64 d, .int .i64 f]) := by rw [h, h2, h3]
end Go.Proofs.Ytcooabjcikcpiaa
