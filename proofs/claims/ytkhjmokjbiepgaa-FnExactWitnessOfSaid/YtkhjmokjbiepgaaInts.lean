/- Slices of int64 that the call itself owns: the words of the contracts, and the contracts of the laws' helpers (copy, compare, mark, look again). -/
import Derived.IntWalk
import Derived.Deep.QuietTactic
import Derived.BigQuiet
import Derived.OwnWalk
import Derived.OpenShut
import Derived.Test.YtkhjmokjbiepgaaBase
namespace Go.Proofs.Ytkhjmokjbiepgaa
open Go.ChangeShapes Go.WideShapes Go.ChangeAt Go.RowKit
/-- What the walk is told of a slice of integers that came in. -/
def IsRow (k : IntKind) (w : World) (a : Option Addr) (len cap : Nat) (zs : List Int) : Prop :=
  (a = none ∧ len = 0 ∧ cap = 0 ∧ zs = []) ∨
  ∃ x, a = some x ∧ len ≤ cap ∧ cap ≤ maxLen ∧ zs.length = cap ∧ (∀ i, i < zs.length → w.cell? (x.add i) = some (.int k (zs.getD i 0))) ∧ ∀ n ∈ zs, (Lit.int k n).wf = true
theorem IsRow.below {k : IntKind} {w w' : World} {a : Option Addr} {len cap : Nat} {zs : List Int} (h : IsRow k w a len cap zs) (hb : Below w.heap.size w w') : IsRow k w' a len cap zs := by
  rcases h with h | ⟨x, rfl, h1, h2, h3, h4, h5⟩
  · exact .inl h
  · exact .inr ⟨x, rfl, h1, h2, h3, fun i hi => by
      have hc := h4 i hi
      rw [hb.cell (World.block_lt_of_cell? w _ hc)]; exact hc, h5⟩

/-- the number at place j: a word that simp does not open -/
def nth (zs : List Int) (j : Nat) : Int := zs.getD j 0
/-- The slice value v owns a row of its own, which holds the numbers zs. -/
def Own (w : World) (B : Nat) (v : Value) (zs : List Int) : Prop := w.ownsRow B 2 1 v zs.length (zs.map (Value.int .i64))
theorem own_keep {w w' : World} {B : Nat} {v : Value} {zs : List Int} (hb : Below w.heap.size w w') (h : Own w B v zs) : Own w' B v zs := by
  refine ⟨h.1, ?_⟩
  rcases h.2 with hn | ⟨g, cap, cur, hv, hg, hh, r⟩
  · exact .inl hn
  · exact .inr ⟨g, cap, cur, hv, hg, by rw [hb.block g (Array.getElem?_eq_some_iff.1 hh).1]; exact hh, r⟩
theorem own_base {w : World} {B B' : Nat} {v : Value} {zs : List Int} (h : Own w B v zs) (hB : B' ≤ B) : Own w B' v zs := by
  refine ⟨h.1, ?_⟩
  rcases h.2 with hn | ⟨g, cap, cur, hv, hg, r⟩
  · exact .inl hn
  · exact .inr ⟨g, cap, cur, hv, Nat.le_trans hB hg, r⟩
theorem own_grown {w w' : World} {B : Nat} {v : Value} {zs : List Int} {row : Option Nat} (h : Own w B v zs) (hg : w.grownBy w' row) (hne : v.ownBlock = none ∨ v.ownBlock ≠ row) : Own w' B v zs := World.ownsRow.kept h hg hne
theorem own_cases {w : World} {B : Nat} {v : Value} {zs : List Int} (h : Own w B v zs) : (v = .slice none 0 0 ∧ zs = []) ∨
    ∃ g cap, v = .slice (some ⟨g, 0, none⟩) zs.length cap ∧ B ≤ g ∧ g < w.heap.size ∧ zs.length ≤ cap ∧ cap ≤ maxLen ∧
      (∀ i, i < zs.length → w.cell? ⟨g, i, none⟩ = some (.int .i64 (nth zs i))) ∧ (∀ i, w.frozen? ⟨g, i, none⟩ = false) := by
  rcases h.2 with ⟨hv, hn⟩ | ⟨g, cap, cur, hv, hg, hh, hnc, hcm, hcs, htake⟩
  · exact .inl ⟨hv, List.eq_nil_of_length_eq_zero hn⟩
  · refine .inr ⟨g, cap, hv, hg, (Array.getElem?_eq_some_iff.1 hh).1, hnc, hcm, fun i hi => ?_, fun i => frozen_of_row w g i cur _ hh⟩
    have hc := World.ownsRow.cellAt (hv ▸ h) i (by omega)
    rw [hc]
    simp [nth, List.getD, hi]
theorem own_nil {w : World} {B : Nat} : Own w B (.slice none 0 0) [] := World.ownsRow_nil _ _ _ _
theorem own_block_lt {w : World} {B : Nat} {v : Value} {zs : List Int} (h : Own w B v zs) : ∀ k, v.ownBlock = some k → B ≤ k ∧ k < w.heap.size := World.ownsRow.lt h
/-- Two owned rows, the second one in memory that is newer than the first one's world: different blocks. -/
theorem own_apart {w1 w2 : World} {B1 B2 : Nat} {v1 v2 : Value} {xs ys : List Int} (h1 : Own w1 B1 v1 xs) (h2 : Own w2 B2 v2 ys) (hB : w1.heap.size ≤ B2) : v1.ownBlock = none ∨ v1.ownBlock ≠ v2.ownBlock := by
  cases e : v1.ownBlock with
  | none => exact .inl rfl
  | some k =>
    refine .inr fun e2 => ?_
    have a := own_block_lt h1 k e
    have b := own_block_lt h2 k e2.symm
    omega
/-- the two slices lie in different blocks -/
def Apart (a b : Value) : Prop := ∀ k, a.ownBlock = some k → b.ownBlock ≠ some k
theorem apart_new {w1 w2 : World} {B1 B2 : Nat} {a b : Value} {xs ys : List Int} (h1 : Own w1 B1 a xs) (h2 : Own w2 B2 b ys) (hB : w1.heap.size ≤ B2) : Apart b a := fun k hk e => by
  have x := own_block_lt h1 k e
  have y := own_block_lt h2 k hk
  omega
theorem Apart.symm {a b : Value} (h : Apart a b) : Apart b a := fun k hk e => h k e hk
theorem apart_grown {w w' : World} {B : Nat} {x o : Value} {zs : List Int} (h : Own w B x zs) (hg : w.grownBy w' o.ownBlock) (ha : Apart x o) : Own w' B x zs := by
  refine own_grown h hg ?_
  cases e : x.ownBlock with
  | none => exact .inl rfl
  | some k => exact .inr (fun e2 => ha k e e2.symm)
theorem grown_below {a w w' : World} {B : Nat} {v : Value} {zs : List Int} {K : Nat} (h : Below K a w) (ho : Own w B v zs) (hg : w.grownBy w' v.ownBlock) (hK : K ≤ B) (hw : K ≤ w.heap.size) : Below K a w' :=
  h.grown hg hw (fun k hk => Nat.le_trans hK (own_block_lt ho k hk).1)

theorem tinfo : (Try.prog.info? 2).map (fun i => (i.zero, i.size, i.bytes)) = some (some (.int .i64 0), 1, 8) := by kernel_rfl

/-- The call returns a slice of its own that holds zs; nothing that was there has turned. -/
def RetOwn (w : World) (zs : List Int) (e : Ending) (w' : World) : Prop := ∃ v, e = .returned v ∧ Own w' w.heap.size v zs ∧ Below w.heap.size w w'
/-- The call returns a slice of its own that holds zs, and a number; nothing that was there has turned. -/
def RetOwnI (w : World) (zs : List Int) (c : Int) (e : Ending) (w' : World) : Prop := ∃ v, e = .returned (.tuple #[v, .int .i64 c]) ∧ Own w' w.heap.size v zs ∧ Below w.heap.size w w'
/-- The call returns a value; nothing that was there has turned. -/
def RetV (w : World) (v : Value) (e : Ending) (w' : World) : Prop := e = .returned v ∧ Below w.heap.size w w'
/-- The marks: the row holds k, k + 1, ..; nothing but the row's block has turned. -/
def marks (k : Int) (n : Nat) : List Int := (List.range n).map fun i : Nat => k + (i : Int)
def RetMark (w : World) (B : Nat) (v : Value) (zs : List Int) (k : Int) (e : Ending) (w' : World) : Prop :=
  e = .returned (.int .i64 (k + zs.length)) ∧ Own w' B v (marks k zs.length) ∧ w.grownBy w' v.ownBlock
/-- a callee that leaves the world as it is, inside a region that draws its order -/
theorem quiet_same {f : FuncId} {args : Array Value} {w : World} {n : Nat} {v : Value}
    (h : Calls Try.prog f args (w.drewN n) fun e w' => e = .returned v ∧ w.drewN n = w') : Calls Try.prog f args (w.drewN n) fun e w'' => e = .returned v ∧ ∃ m, w'' = w.drewN m :=
  Calls.quiet_of_same (h.mono fun _ _ ⟨a, b⟩ => ⟨a, b.symm⟩)
theorem quiet_same2 {f : FuncId} {args : Array Value} {w : World} {k n : Nat} {v : Value}
    (h : Calls Try.prog f args (w.drewN (k + n)) fun e w' => e = .returned v ∧ w.drewN (k + n) = w') : Calls Try.prog f args (w.drewN (k + n)) fun e w'' => e = .returned v ∧ ∃ m, w'' = w.drewN (k + m) :=
  h.mono fun _ _ ⟨a, b⟩ => ⟨a, n, b.symm⟩
theorem below_drewN (w : World) (n : Nat) : Below w.heap.size w (w.drewN n) := (Below.refl _ _).trans ⟨rfl, rfl, rfl, Nat.le_refl _, fun _ _ => rfl⟩
set_option maxHeartbeats 400000 in
theorem laws_eqInt64S {B1 B2 : Nat} {u v : Value} {zs : List Int} (w : World) (h1 : Own w B1 u zs) (h2 : Own w B2 v zs) :
    Calls Try.prog 17 #[u, v] w (RetV w (.bool true)) := by
  rcases own_cases h1 with ⟨rfl, rfl⟩ | ⟨g, cap, rfl, _, _, hc1, hc2, hcell, _⟩
  · rcases own_cases h2 with ⟨rfl, _⟩ | ⟨g', cap', rfl, _, _, _, _, _, _⟩
    all_goals
      go_enter Try.func17, Try.ntmps17
      go_wp2_with fail
      go_loopw [5] (fun i wr => i = .int .i64 0 ∧ wr = w) (fun i _ => (100 - intOf i).toNat)
      case atStart => exact ⟨rfl, rfl⟩
      case round =>
        obtain ⟨rfl, rfl⟩ := hrel
        go_wp2
        go_ret
        exact ⟨rfl, Below.refl _ _⟩
  · rcases own_cases h2 with ⟨rfl, rfl⟩ | ⟨g', cap', rfl, _, _, hc1', hc2', hcell', _⟩
    · go_enter Try.func17, Try.ntmps17
      go_wp2_with fail
      go_loopw [5] (fun i wr => i = .int .i64 0 ∧ wr = w) (fun i _ => (100 - intOf i).toNat)
      case atStart => exact ⟨rfl, rfl⟩
      case round =>
        obtain ⟨rfl, rfl⟩ := hrel
        go_wp2
        go_ret
        exact ⟨rfl, Below.refl _ _⟩
    · unfold maxLen at hc2 hc2'
      clear h1 h2
      go_enter Try.func17, Try.ntmps17
      go_wp2_with fail
      go_loopw [5] (fun i wr => ∃ k : Nat, k ≤ zs.length ∧ i = .int .i64 k ∧ ∃ n, wr = w.drewN n) (fun i _ => zs.length - (intOf i).toNat)
      case atStart => exact ⟨0, Nat.zero_le _, rfl, 0, rfl⟩
      case round =>
        obtain ⟨k, hk, rfl, n, rfl⟩ := hrel
        by_cases hlt : k < zs.length
        · have q1 := hcell k hlt
          have q2 := hcell' k hlt
          clear hcell hcell'
          go_wp2
          go_quiet (fail)
          go_wp2
          go_roundw
          case rel => exact ⟨k + 1, by omega, by go_num, by first | exact ⟨_, rfl⟩ | skip⟩
          case measure => simp [intOf]; omega
        · go_wp2
          go_ret
          exact ⟨rfl, below_drewN _ _⟩
theorem marks_len (k : Int) (n : Nat) : (marks k n).length = n := by simp [marks]
theorem marks_at (k : Int) (n i : Nat) (h : i < n) : nth (marks k n) i = k + i := by simp [nth, marks, List.getD, h]
theorem marks_step (k : Int) (zs : List Int) (j : Nat) (h : j < zs.length) :
    ((marks k j ++ zs.drop j).map (Value.int .i64)).set j (.int .i64 (k + j)) = (marks k (j + 1) ++ zs.drop (j + 1)).map (Value.int .i64) := by
  apply List.ext_getElem?
  intro i
  have hl : (marks k j).length = j := marks_len k j
  simp only [List.getElem?_set, List.getElem?_map, List.length_map, List.length_append, hl, List.length_drop]
  by_cases e : j = i
  · subst e
    rw [if_pos rfl, if_pos (by omega), List.getElem?_append_left (by rw [marks_len]; omega)]
    simp [marks]
  · rw [if_neg e]
    by_cases h2 : i < j
    · rw [List.getElem?_append_left (by omega), List.getElem?_append_left (by rw [marks_len]; omega)]
      simp [marks, h2, show i < j + 1 by omega]
    · rw [List.getElem?_append_right (by omega), List.getElem?_append_right (by rw [marks_len]; omega), marks_len, marks_len, List.getElem?_drop, List.getElem?_drop, show j + (i - j) = j + 1 + (i - (j + 1)) by omega]
theorem marks_mid_len (k : Int) (zs : List Int) (j : Nat) (h : j ≤ zs.length) : (marks k j ++ zs.drop j).length = zs.length := by simp [marks]; omega
theorem marks_store {w : World} {B g cap : Nat} {zs : List Int} {k : Int} {j : Nat} (h : j < zs.length) (ho : Own w B (.slice (some ⟨g, 0, none⟩) zs.length cap) (marks k j ++ zs.drop j)) :
    Own (w.setCell ⟨g, j, none⟩ (.int .i64 (k + j))) B (.slice (some ⟨g, 0, none⟩) zs.length cap) (marks k (j + 1) ++ zs.drop (j + 1)) ∧ w.grownBy (w.setCell ⟨g, j, none⟩ (.int .i64 (k + j))) (some g) := by
  unfold Own at ho ⊢
  rw [marks_mid_len k zs j (by omega)] at ho
  rw [marks_mid_len k zs (j + 1) (by omega)]
  have h2 := World.ownsRow.stored ho j (.int .i64 (k + j))
  rw [marks_step k zs j h] at h2
  exact h2
theorem grownBy_trans {a b c : World} {row : Option Nat} (h : a.grownBy b row) (k : b.grownBy c row) : a.grownBy c row :=
  ⟨k.os.trans h.os, k.tape.trans h.tape, k.output.trans h.output, Nat.le_trans h.size k.size, fun i hi hn => (k.block i (Nat.lt_of_lt_of_le hi h.size) hn).trans (h.block i hi hn)⟩
theorem own_at {w : World} {B g n cap : Nat} {xs : List Int} (h : Own w B (.slice (some ⟨g, 0, none⟩) n cap) xs) (hn : n = xs.length) {i : Nat} (hi : i < n) :
    w.cell? ⟨g, i, none⟩ = some (.int .i64 (nth xs i)) ∧ w.frozen? ⟨g, i, none⟩ = false := by
  subst hn
  rcases own_cases h with ⟨hv, _⟩ | ⟨g', cap', hv, _, _, _, _, hc, hf⟩
  · simp at hv
  · simp only [Value.slice.injEq, Option.some.injEq, Addr.mk.injEq, and_true, true_and] at hv
    obtain ⟨rfl, rfl⟩ := hv
    exact ⟨hc i hi, hf i⟩
set_option maxHeartbeats 400000 in
theorem laws_markInt64S {B : Nat} {v : Value} {zs : List Int} (w : World) (k : Int) (h1 : Own w B v zs) (h0 : 0 ≤ k) (hk : k ≤ 1000000000) (hl : zs.length ≤ 1000000000) :
    Calls Try.prog 34 #[v, .int .i64 k] w (RetMark w B v zs k) := by
  rcases own_cases h1 with ⟨rfl, rfl⟩ | ⟨g, cap, rfl, _, _, hc1, hc2, _, _⟩
  · go_enter Try.func34, Try.ntmps34
    go_wp2_with fail
    go_loopw [1, 5] (fun m i wr => i = .int .i64 0 ∧ m = .int .i64 k ∧ wr = w) (fun _ i _ => (100 - intOf i).toNat)
    case atStart => exact ⟨rfl, rfl, rfl⟩
    case round =>
      obtain ⟨rfl, rfl, rfl⟩ := hrel
      go_wp2
      go_ret
      exact ⟨ret_int (by simp), h1, World.grownBy.refl _ _⟩
  · clear hc1 hc2
    have H1 := Lib.hid h1; clear h1
    go_enter Try.func34, Try.ntmps34
    go_wp2_with fail
    go_loopw [1, 5] (fun m i wr => ∃ j : Nat, j ≤ zs.length ∧ i = .int .i64 j ∧ m = .int .i64 (k + j) ∧ Own wr B (.slice (some ⟨g, 0, none⟩) zs.length cap) (marks k j ++ zs.drop j) ∧ w.grownBy wr (some g)) (fun _ i _ => zs.length - (intOf i).toNat)
    case atStart => exact ⟨0, Nat.zero_le _, rfl, by simp, by simpa [marks] using H1.out, World.grownBy.refl _ _⟩
    case round =>
      obtain ⟨j, hj, rfl, rfl, ho, hg⟩ := hrel
      by_cases hlt : j < zs.length
      · obtain ⟨q1, q2⟩ := own_at ho (marks_mid_len k zs j hj).symm hlt
        have S := Lib.hid (marks_store hlt ho); have HG := Lib.hid hg; clear ho hg
        go_wp2
        go_roundw
        case rel => exact ⟨j + 1, by omega, by go_num, by go_num, S.out.1, grownBy_trans HG.out S.out.2⟩
        case measure => simp [intOf]; omega
      · obtain rfl : j = zs.length := by omega
        have HO := Lib.hid ho; have HG := Lib.hid hg; clear ho hg
        go_wp2
        go_ret
        exact ⟨ret_int (by simp), by simpa using HO.out, HG.out⟩
set_option maxHeartbeats 400000 in
theorem laws_heldInt64S {B : Nat} {v : Value} (w : World) (k : Int) (n : Nat) (h1 : Own w B v (marks k n)) (h0 : 0 ≤ k) (hk : k ≤ 1000000000) (hl : n ≤ 1000000000) :
    Calls Try.prog 35 #[v, .int .i64 k] w fun e w' => e = .returned (.int .i64 (k + n)) ∧ w = w' := by
  rcases own_cases h1 with ⟨rfl, hn⟩ | ⟨g, cap, rfl, _, _, hc1, hc2, hc, _⟩
  · obtain rfl : n = 0 := by have := congrArg List.length hn; simpa [marks_len] using this
    clear hn h1
    go_enter Try.func35, Try.ntmps35
    go_wp2_with fail
    go_loop [1, 5] (fun m i => i = .int .i64 0 ∧ m = .int .i64 k) (fun _ i => (100 - intOf i).toNat)
    case atStart => exact ⟨rfl, rfl⟩
    case round =>
      obtain ⟨rfl, rfl⟩ := hrel
      go_wp2
      go_ret
      exact ⟨ret_int (by simp), rfl⟩
  · clear hc1 hc2
    rw [marks_len] at *
    have hcc : ∀ i, i < n → w.cell? ⟨g, i, none⟩ = some (.int .i64 (k + i)) := fun i hi => by rw [hc i hi, marks_at _ _ _ hi]
    clear hc h1
    have HC := Lib.hid hcc; clear hcc
    go_enter Try.func35, Try.ntmps35
    go_wp2_with fail
    go_loop [1, 5] (fun m i => ∃ j : Nat, j ≤ n ∧ i = .int .i64 j ∧ m = .int .i64 (k + j)) (fun _ i => n - (intOf i).toNat)
    case atStart => exact ⟨0, Nat.zero_le _, rfl, by simp⟩
    case round =>
      obtain ⟨j, hj, rfl, rfl⟩ := hrel
      by_cases hlt : j < n
      · have q1 := HC.out j hlt
        go_wp2
        go_round
        case rel => exact ⟨j + 1, by omega, by go_num, by go_num⟩
        case measure => simp [intOf]; omega
      · obtain rfl : j = n := by omega
        go_wp2
        go_ret
        exact ⟨rfl, rfl⟩
theorem own_store {w : World} {B g n cap : Nat} {xs : List Int} (h : Own w B (.slice (some ⟨g, 0, none⟩) n cap) xs) (hn : n = xs.length) (j : Nat) (u : Int) :
    Own (w.setCell ⟨g, j, none⟩ (.int .i64 u)) B (.slice (some ⟨g, 0, none⟩) n cap) (xs.set j u) ∧ w.grownBy (w.setCell ⟨g, j, none⟩ (.int .i64 u)) (some g) := by
  subst hn
  unfold Own at h ⊢
  rw [List.length_set]
  have h2 := World.ownsRow.stored h j (.int .i64 u)
  rw [List.map_set]
  exact h2
/-- The first j numbers of zs, zeros behind them up to n. -/
def filled (zs : List Int) (n j : Nat) : List Int := zs.take j ++ List.replicate (n - j) 0
theorem filled_len {zs : List Int} {n j : Nat} (h : j ≤ n) (hz : n ≤ zs.length) : (filled zs n j).length = n := by simp [filled]; omega
theorem filled_set {zs : List Int} {n j : Nat} (h : j < n) (hz : n ≤ zs.length) : (filled zs n j).set j (nth zs j) = filled zs n (j + 1) := by
  have e1 : zs.take (j + 1) = zs.take j ++ [nth zs j] := by
    rw [List.take_succ_eq_append_getElem (by omega)]
    simp [nth, List.getD, show j < zs.length by omega]
  unfold filled
  rw [e1, List.set_append, if_neg (by rw [List.length_take]; omega), show n - j = (n - (j + 1)) + 1 by omega, List.replicate_succ]
  simp [show min j zs.length = j by omega]
theorem filled_all {zs : List Int} {n : Nat} : filled zs n n = zs.take n := by simp [filled]
theorem filled_made (zs : List Int) (n : Nat) : (madeCells (Value.int .i64 0).cells (n * 1)).toList = (filled zs n 0).map (Value.int .i64) := by
  simp [filled, Value.cells, toList_madeCells_one]
theorem own_alloc {w : World} {B : Nat} {v : Value} {zs : List Int} (h : Own w B v zs) (o : Obj) : Own (w.alloc o) B v zs := World.ownsRow.alloc h o
/-- 'append(out, x)', out owned: the walk goes on in one way. -/
theorem wp_app {w : World} {ops : Array Oper} {rest : List Oper} {o : Oper} {a : Act} {Q : Exit → Act → World → Prop} (hgd : o.guard = none) (s x : Operand)
    (ho : o.op = .call { callee := .builtin .append, args := #[s, x], argTypes := #[22, 22] })
    {B : Nat} {v : Value} {zs : List Int} (n : Int) (g : Nat) (hown : Own w B v zs) (hs : a.eval s = v) (hx : a.eval x = .slice (some ⟨g, 0, none⟩) 1 1)
    (hc : w.cell? ⟨g, 0, none⟩ = some (.int .i64 n)) (hl : zs.length ≤ 1000000000) (hB : B ≤ w.heap.size)
    (h : ∀ v' w', Own w' B v' (zs ++ [n]) → w.grownBy w' v.ownBlock → wpList Try.prog ops Q rest (a.put o.dst v') w') : wpList Try.prog ops Q (o :: rest) a w := by
  obtain ⟨i0, hi, hz0, hz1, hz2⟩ := info_parts tinfo
  refine wpList_append_own w hgd s x 22 ho B 2 i0 (.int .i64 0) 1 8 Try.underlying22 hi hz0 hz1 hz2 rfl (by decide) v zs.length _ hs hown ⟨g, 0, none⟩ 1 1 [.int .i64 n] hx rfl ?_ ?_ ?_ ?_ hB ?_
  · intro j u hu
    match j with
    | 0 => simp at hu; subst hu; rw [Addr.add]; exact hc
    | j + 1 => simp at hu
  · intro u hu; simp at hu; subst hu; rfl
  · unfold maxLen; omega
  · omega
  · intro v' w' h1 h2 _
    exact h v' w' (by unfold Own; rw [List.length_append, List.map_append]; exact h1) h2
/-- 'append(out, x)', out owned, inside a region that draws its order -/
theorem step_app {w : World} {ops : Array Oper} {o : Oper} {a : Act} {K : Act → World → Prop} {Q : Exit → Act → World → Prop} {E : Prop} (hgd : o.guard = none) (s x : Operand)
    (ho : o.op = .call { callee := .builtin .append, args := #[s, x], argTypes := #[22, 22] })
    {B : Nat} {v : Value} {zs : List Int} (n : Int) (g : Nat) (hown : Own w B v zs) (hs : a.eval s = v) (hx : a.eval x = .slice (some ⟨g, 0, none⟩) 1 1)
    (hc : w.cell? ⟨g, 0, none⟩ = some (.int .i64 n)) (hl : zs.length ≤ 1000000000) (hB : B ≤ w.heap.size)
    (h : ∀ v' w', Own w' B v' (zs ++ [n]) → w.grownBy w' v.ownBlock → K (a.put o.dst v') w') : if Region.wanted o (yielded ops a.tmps) = true then Oper.wp Try.prog o a w K Q else E := by
  have hw : Region.wanted o (yielded ops a.tmps) = true := by simp [Region.wanted, hgd]
  rw [if_pos hw]
  obtain ⟨i0, hi, hz0, hz1, hz2⟩ := info_parts tinfo
  refine wp_append_own w s x 22 ho B 2 i0 (.int .i64 0) 1 8 Try.underlying22 hi hz0 hz1 hz2 rfl (by decide) v zs.length _ hs hown ⟨g, 0, none⟩ 1 1 [.int .i64 n] hx rfl ?_ ?_ ?_ ?_ hB ?_
  · intro j u hu
    match j with
    | 0 => simp at hu; subst hu; rw [Addr.add]; exact hc
    | j + 1 => simp at hu
  · intro u hu; simp at hu; subst hu; rfl
  · unfold maxLen; omega
  · omega
  · intro v' w' h1 h2 _
    exact h v' w' (by unfold Own; rw [List.length_append, List.map_append]; exact h1) h2
theorem own_drew {w : World} {B : Nat} {v : Value} {zs : List Int} (h : Own w B v zs) : Own w.drew B v zs := h
/-- 'append(out, xs...)', both owned -/
theorem wp_apps {w : World} {ops : Array Oper} {rest : List Oper} {o : Oper} {a : Act} {Q : Exit → Act → World → Prop} (hgd : o.guard = none) (s x : Operand)
    (ho : o.op = .call { callee := .builtin .append, args := #[s, x], argTypes := #[22, 22] })
    {B B2 : Nat} {v u : Value} {zs xs : List Int} (hown : Own w B v zs) (hsrc : Own w B2 u xs) (hs : a.eval s = v) (hx : a.eval x = u)
    (hl : zs.length + xs.length ≤ 1000000000) (hB : B ≤ w.heap.size)
    (h : ∀ v' w', Own w' B v' (zs ++ xs) → w.grownBy w' v.ownBlock → wpList Try.prog ops Q rest (a.put o.dst v') w') : wpList Try.prog ops Q (o :: rest) a w := by
  obtain ⟨i0, hi, hz0, hz1, hz2⟩ := info_parts tinfo
  rcases own_cases hsrc with ⟨rfl, rfl⟩ | ⟨g, cap, rfl, _, _, hc1, hc2, hcell, _⟩
  · refine wpList_plain hgd fun K hK' => ?_
    have hrun := run_append_owned_none (P := Try.prog) w B 22 o.type 2 i0 1 Try.underlying22 hi v zs.length _ hown
    unfold Oper.wp
    simp [execOp, ho, resolve, invoke, builtin, hs, hx, hrun, Result.andThen]
    exact hK' _ _ (h v w (by rw [List.append_nil]; exact hown) (World.grownBy.refl _ _))
  · refine wpList_append_own w hgd s x 22 ho B 2 i0 (.int .i64 0) 1 8 Try.underlying22 hi hz0 hz1 hz2 rfl (by decide) v zs.length _ hs hown ⟨g, 0, none⟩ xs.length cap (xs.map (Value.int .i64)) hx (by simp) ?_ (ints_oneCell _ _) ?_ ?_ hB ?_
    · intro j u hu
      have hj : j < xs.length := by
        have := (List.getElem?_eq_some_iff.1 hu).1; simpa using this
      rw [Addr.add_lit, Nat.zero_add, hcell j hj]
      rw [← hu]; simp [nth, List.getD, hj]
    · unfold maxLen; omega
    · omega
    · intro v' w' h1 h2 _
      exact h v' w' (by unfold Own; rw [List.length_append, List.map_append]; exact h1) h2
/-- behind an append to an owned row: nothing below K has turned -/
theorem app_below {w wr w' : World} {o : Obj} {B K : Nat} {v : Value} {zs : List Int} (hb : Below K w wr) (ho : Own wr B v zs) (hg : (wr.alloc o).grownBy w' v.ownBlock) (hK : K ≤ B) (hs : K ≤ wr.heap.size) : Below K w w' ∧ K ≤ w'.heap.size :=
  ⟨grown_below (hb.alloc hs _) (own_alloc ho _) hg hK (by simp; omega), by have := hg.size; simp at this; omega⟩
theorem grownBy_drew {w w' : World} {row : Option Nat} (h : w.drew.grownBy w' row) : w.grownBy w' row := ⟨h.os, h.tape, h.output, h.size, h.block⟩
theorem app_below_d {w wr w' : World} {o : Obj} {B K : Nat} {v : Value} {zs : List Int} (hb : Below K w wr) (ho : Own wr B v zs) (hg : (wr.alloc o).drew.grownBy w' v.ownBlock) (hK : K ≤ B) (hs : K ≤ wr.heap.size) : Below K w w' ∧ K ≤ w'.heap.size :=
  app_below hb ho (grownBy_drew hg) hK hs
theorem wp_make {w : World} {ops : Array Oper} {rest : List Oper} {o : Oper} {a : Act} {Q : Exit → Act → World → Prop} (hgd : o.guard = none) (l c : Operand) (hop : o.op = Op.makeSlice 22 l c)
    {B : Nat} (n : Nat) (kl kc : IntKind) (L C : Int) (hl : a.eval l = .int kl L) (hc : a.eval c = .int kc C) (hL : L = (n : Int)) (hC : C = (n : Int)) (hn : n ≤ 1000000000) (hB : B ≤ w.heap.size)
    (h : ∀ w', Own w' B (.slice (some ⟨w.heap.size, 0, none⟩) n n) (List.replicate n 0) → Below w.heap.size w w' → wpList Try.prog ops Q rest (a.put o.dst (.slice (some ⟨w.heap.size, 0, none⟩) n n)) w') : wpList Try.prog ops Q (o :: rest) a w := by
  obtain ⟨i0, hi, hz0, hz1, hz2⟩ := info_parts tinfo
  refine wpList_make_full w hgd l c 22 hop B 2 i0 (.int .i64 0) 1 Try.underlying22 hi hz0 hz1 kl kc L C n hl hc hL hC (by rw [hz2]; omega) (by unfold maxLen; omega) hB ?_
  intro w' h1 h2
  refine h w' ?_ ((Below.refl _ _).grown h2 (Nat.le_refl _) (fun k hk => by cases hk))
  unfold Own
  rw [List.length_replicate, List.map_replicate]
  rw [Nat.mul_one] at h1
  simpa [Value.cells, toList_madeCells_one] using h1
theorem own_empty (w : World) (B : Nat) (hB : B ≤ w.heap.size) : Own (w.alloc (.cells #[] 2)) B (.slice (some ⟨w.heap.size, 0, none⟩) 0 0) [] := World.ownsRow_made w #[] 0 hB (Nat.zero_le _) rfl
theorem own_form {w : World} {B : Nat} {v : Value} {zs : List Int} (h : Own w B v zs) : ∃ a cap, v = .slice a zs.length cap ∧ zs.length ≤ 9223372036854775807 ∧
    ∀ j, j < zs.length → ∃ g, a = some ⟨g, 0, none⟩ ∧ w.cell? ⟨g, j, none⟩ = some (.int .i64 (nth zs j)) := by
  rcases own_cases h with ⟨rfl, rfl⟩ | ⟨g, cap, rfl, _, _, h1, h2, hc, _⟩
  · exact ⟨none, 0, rfl, by simp, fun j hj => by simp at hj⟩
  · exact ⟨some ⟨g, 0, none⟩, cap, rfl, by unfold maxLen at h2; omega, fun j hj => ⟨g, rfl, hc j hj⟩⟩
theorem all_step {p : Int → Bool} {zs : List Int} {j : Nat} (hj : j < zs.length) (h : (zs.take j).all p = true) (hp : p (nth zs j) = true) : (zs.take (j + 1)).all p = true := by
  rw [List.take_succ_eq_append_getElem hj, List.all_append, h]
  simpa [nth, List.getD, hj] using hp
theorem all_fail {p : Int → Bool} {zs : List Int} {j : Nat} (hj : j < zs.length) (hp : p (nth zs j) = false) : zs.all p = false := by
  rw [Bool.eq_false_iff]
  intro h
  rw [List.all_eq_true] at h
  have := h zs[j] (List.getElem_mem hj)
  simp [nth, List.getD, hj] at hp
  rw [hp] at this; cases this
theorem all_done {p : Int → Bool} {zs : List Int} {j : Nat} (hj : ¬ j < zs.length) (h : (zs.take j).all p = true) : zs.all p = true := by
  rwa [List.take_of_length_le (by omega)] at h
theorem all_get {p : Int → Bool} {zs : List Int} (h : zs.all p = true) {j : Nat} (hj : j < zs.length) : p (nth zs j) = true := by
  rw [List.all_eq_true] at h
  have := h zs[j] (List.getElem_mem hj)
  simpa [nth, List.getD, hj] using this
set_option maxHeartbeats 400000 in
theorem laws_toInt64S (a : Option Addr) (len cap : Nat) (zs : List Int) (w : World) (h : IsRow .i64 w a len cap zs) (hl : len ≤ 1048576) :
    Calls Try.prog 15 #[.slice a len cap] w (RetOwn w (zs.take len)) := by
  obtain ⟨i0, hi, hz0, hz1, hz2⟩ := info_parts tinfo
  have hz : len ≤ zs.length := by rcases h with ⟨_, rfl, _, _⟩ | ⟨x, _, h1, _, h3, _⟩ <;> omega
  have HZ := Lib.hid hz; have HI := Lib.hid h; clear h hz
  go_enter Try.func15, Try.ntmps15
  go_wp2_with (refine wpList_make_full w rfl _ _ 22 rfl w.heap.size 2 i0 (.int .i64 0) 1 Try.underlying22 hi hz0 hz1 .i64 .i64 _ _ len rfl rfl rfl rfl (by rw [hz2]; omega) (by unfold maxLen; omega) (Nat.le_refl _) ?_; intro w1 hown hgr)
  have hs : w.heap.size ≤ w1.heap.size := hgr.size
  have hb1 : Below w.heap.size w w1 := (Below.refl _ _).grown hgr (Nat.le_refl _) (fun k hk => by cases hk)
  have ho1 : Own w1 w.heap.size (.slice (some ⟨w.heap.size, 0, none⟩) len len) (filled zs len 0) := by
    unfold Own; rw [← filled_made, filled_len (Nat.zero_le _) HZ.out]; exact hown
  have HI1 := Lib.hid (HI.out.below hb1)
  have HO1 := Lib.hid ho1; have HB1 := Lib.hid hb1; clear ho1 hb1 hown hgr
  go_loopw [4] (fun i wr => ∃ j : Nat, j ≤ len ∧ i = .int .i64 j ∧ Own wr w.heap.size (.slice (some ⟨w.heap.size, 0, none⟩) len len) (filled zs len j) ∧ Below w.heap.size w wr ∧ w.heap.size ≤ wr.heap.size) (fun i _ => len - (intOf i).toNat)
  case atStart => exact ⟨0, Nat.zero_le _, rfl, HO1.out, HB1.out, hs⟩
  case round =>
    obtain ⟨j, hj, rfl, ho, hb, hsz⟩ := hrel
    clear HI1 HO1 HB1
    have HIr := HI.out.below hb
    by_cases hlt : j < len
    · have hzl := HZ.out
      rcases HIr with ⟨_, rfl, _, _⟩ | ⟨x, rfl, _, _, _, hx, _⟩
      · omega
      · obtain ⟨b, off, rfl, hc⟩ := ints_at hx (by omega)
        have q0 := hc j (by omega)
        obtain ⟨q1, q2⟩ := own_at ho (filled_len hj hzl).symm hlt
        have S := own_store ho (filled_len hj hzl).symm j (nth zs j)
        rw [filled_set hlt hzl] at S
        have HS := Lib.hid S; have HB := Lib.hid hb; clear S ho hb hx hc hzl
        go_wp2
        go_roundw
        case rel => exact ⟨j + 1, by omega, by go_num, HS.out.1, HB.out.setCell (Nat.le_refl _) _, by simpa using hsz⟩
        case measure => simp [intOf]; omega
    · obtain rfl : j = len := by omega
      clear HIr
      have HO := Lib.hid ho; have HB := Lib.hid hb; clear ho hb
      go_wp2
      go_ret
      exact ⟨_, rfl, filled_all ▸ HO.out, HB.out⟩
end Go.Proofs.Ytkhjmokjbiepgaa
