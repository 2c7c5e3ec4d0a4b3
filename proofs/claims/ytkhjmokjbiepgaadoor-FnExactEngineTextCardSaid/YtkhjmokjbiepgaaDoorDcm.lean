/- The decimal numeral of the package: the library's contract. -/
import Derived.Test.YtkhjmokjbiepgaaDoorShelf
import Derived.Test.YtkhjmokjbiepgaaDoorByt
namespace Go.Proofs.YtkhjmokjbiepgaaDoor
open Go.ChangeShapes Go.WideShapes Go.ChangeAt Go.RowKit
theorem impl_Decimal (n : Int) (w : World) (h0 : -1000000000000000000 ≤ n) (h1 : n ≤ 1000000000000000000) (hT : TabW w) :
    Calls Tryd.prog 36 #[.int .i64 n] w (RetV w (.string ⟨(Lib.itoa n).toArray⟩)) := by
  have HF := Lib.hid (Tryd.strconv_FormatInt_10 n (by omega) (by omega) w hT)
  clear h0 h1 hT
  go_enter Tryd.func36, Tryd.ntmps36
  go_wp2_with fail
  refine HF.out.mono ?_; rintro e w1 ⟨rfl, k, os, hw⟩
  have HB := Lib.hid (show Below w.heap.size w w1 from by rw [hw]; exact Lib.below_grow _ _ (Nat.le_refl _) _ _)
  clear hw
  go_wp2_with fail
  go_ret
  exact ⟨rfl, HB.out⟩
end Go.Proofs.YtkhjmokjbiepgaaDoor
