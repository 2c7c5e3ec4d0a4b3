/- AddTurns of both packages: the sums of two rows of turns, without the zeros at their end. -/
import Derived.IntWalk
import Derived.WalkSmall
import Derived.Test.YtkhjmokjbiepgaaTns
import Derived.Test.YtkhjmokjbiepgaaGrow
namespace Go.Proofs.Ytkhjmokjbiepgaa
open Go.ChangeShapes Go.WideShapes Go.ChangeAt Go.RowKit
def sumL (xs ys : List Int) (n : Nat) : List Int := (List.range n).map fun i => nth xs i + nth ys i
def mixL (xs ys : List Int) (j : Nat) : List Int := (List.range (max xs.length j)).map fun i => nth xs i + (if i < j then nth ys i else 0)
def trimN (l : List Int) : Nat → Nat
  | 0 => 0
  | n + 1 => if nth l n = 0 then trimN l n else n + 1
def trimL (l : List Int) : List Int := l.take (trimN l l.length)
def addR (xs ys : List Int) : List Int := trimL (sumL xs ys (max xs.length ys.length))
def addC (a b : Int) (xs ys : List Int) : Int := if validT a xs && validT b ys then (if a = b then (if validT a (addR xs ys) then 0 else 5) else 6) else 1
def addB (a b : Int) (xs ys : List Int) : Int := if addC a b xs ys = 0 then a else 0
def addL (a b : Int) (xs ys : List Int) : List Int := if addC a b xs ys = 0 then addR xs ys else []
theorem nth_out {l : List Int} {j : Nat} (h : ¬ j < l.length) : nth l j = 0 := by simp [nth, List.getD, List.getElem?_eq_none (Nat.le_of_not_lt h)]
theorem sumL_len (xs ys : List Int) (n : Nat) : (sumL xs ys n).length = n := by simp [sumL]
theorem sumL_step (xs ys : List Int) (n : Nat) : sumL xs ys (n + 1) = sumL xs ys n ++ [nth xs n + nth ys n] := by simp [sumL, List.range_succ]
theorem nth_app_l {l m : List Int} {i : Nat} (h : i < l.length) : nth (l ++ m) i = nth l i := by simp [nth, List.getD, List.getElem?_append_left h]
theorem nth_take {l : List Int} {i n : Nat} (h : i < n) : nth (l.take n) i = nth l i := by simp [nth, List.getD, h]
theorem trimN_zero {l : List Int} {n : Nat} (h : nth l n = 0) : trimN l (n + 1) = trimN l n := by show (if nth l n = 0 then trimN l n else n + 1) = _; rw [if_pos h]
theorem trimN_stop {l : List Int} {n : Nat} (h : ¬ nth l n = 0) : trimN l (n + 1) = n + 1 := by show (if nth l n = 0 then trimN l n else n + 1) = _; rw [if_neg h]
theorem trimN_le (l : List Int) : ∀ n, trimN l n ≤ n
  | 0 => Nat.le_refl _
  | n + 1 => by show (if nth l n = 0 then trimN l n else n + 1) ≤ _; split; exact Nat.le_succ_of_le (trimN_le l n); exact Nat.le_refl _
theorem own_pop {w : World} {B g n cap : Nat} {l : List Int} (hn : n + 1 ≤ l.length) (h : Own w B (.slice (some ⟨g, 0, none⟩) (n + 1) cap) (l.take (n + 1))) : Own w B (.slice (some ⟨g, 0, none⟩) n cap) (l.take n) := by
  unfold Own at h ⊢
  rw [List.length_take, Nat.min_eq_left hn] at h
  rw [List.length_take, Nat.min_eq_left (by omega)]
  have e : (l.take (n + 1)).map (Value.int .i64) = (l.take n).map (Value.int .i64) ++ [Value.int .i64 (nth l n)] := by
    rw [List.take_succ_eq_append_getElem hn, List.map_append]
    simp [nth, List.getD, show n < l.length by omega]
  rw [e] at h
  exact ownsRow_pop (by simp; omega) h
def lenAt (w : World) (g : Nat) : Nat := match w.cell? ⟨g, 1, none⟩ with | some (.slice _ n _) => n | _ => 0
theorem lenAt_of {w : World} {g n c : Nat} {a : Option Addr} (h : w.cell? ⟨g, 1, none⟩ = some (.slice a n c)) : lenAt w g = n := by unfold lenAt; rw [h]
end Go.Proofs.Ytkhjmokjbiepgaa
