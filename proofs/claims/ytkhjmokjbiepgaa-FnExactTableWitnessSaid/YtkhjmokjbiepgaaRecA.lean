/- Slices of structs of whole numbers (AddRow): the words of the contracts, and the contracts of the laws' helpers. -/
import Derived.IntWalk
import Derived.Deep.Slices
import Derived.Deep.RegionHeld3
import Derived.Test.YtkhjmokjbiepgaaAgg
namespace Go.Proofs.Ytkhjmokjbiepgaa
open Go.ChangeShapes Go.WideShapes Go.ChangeAt Go.RowKit
/-- What the walk is told of a slice of such structs that came in: its numbers in a row. -/
def IsRec (w : World) (a : Option Addr) (len cap : Nat) (zs : List Int) : Prop :=
  (a = none ∧ len = 0 ∧ cap = 0 ∧ zs = []) ∨
  ∃ x, a = some x ∧ len ≤ cap ∧ cap ≤ maxLen ∧ zs.length = cap * 5 ∧ ∀ i, i < zs.length → w.cell? (x.add i) = some (.int .i64 (zs.getD i 0))
theorem IsRec.below {w w' : World} {a : Option Addr} {len cap : Nat} {zs : List Int} (h : IsRec w a len cap zs) (hb : Below w.heap.size w w') : IsRec w' a len cap zs := by
  rcases h with h | ⟨x, rfl, h1, h2, h3, h4⟩
  · exact .inl h
  · exact .inr ⟨x, rfl, h1, h2, h3, fun i hi => by
      have hc := h4 i hi
      rw [hb.cell (World.block_lt_of_cell? w _ hc)]; exact hc⟩
theorem IsRec.len_le {w : World} {a : Option Addr} {len cap : Nat} {zs : List Int} (h : IsRec w a len cap zs) : len ≤ 9223372036854775807 ∧ len * 5 ≤ zs.length := by
  rcases h with ⟨_, rfl, _, rfl⟩ | ⟨x, _, h1, h2, h3, _⟩
  · exact ⟨by omega, by simp⟩
  · unfold maxLen at h2; exact ⟨by omega, by omega⟩
theorem open_recs {H : Type} {enc : TypeId × Value → H} {P : Program} {w : World} {base : Nat} {t e : TypeId} {fs : Array Field} {fuel : Nat} {cs : List Value} {x : DataW H × List MemPlace} (ht : P.underlying t = some (.slice e)) (he : P.underlying e = some (.struct fs))
    (ce : P.cellsOf e = 5) (hf : ∀ i, i < 5 → ∃ f : Field, fs[i]? = some f ∧ f.offset = i ∧ P.underlying f.type = some (.int .i64) ∧ P.cellsOf f.type = 1)
    (h : DataW.trod enc P w base (fun _ => true) true fuel t cs = some x) :
    ∃ a len cap zs, cs = [.slice a len cap] ∧ IsRec w a len cap zs := by
  rcases Go.Deep.open_slice ht h with ⟨h0, _⟩ | ⟨a, len, cap, m, n, D, Pl, rfl, hb, hl, hm, hmm, rfl, hx⟩
  · exact ⟨none, 0, 0, [], h0, .inl ⟨rfl, rfl, rfl, rfl⟩⟩
  · simp at hmm; subst hmm
    have each : ∀ i, i < m * 5 → ∃ n : Int, w.cell? (a.add i) = some (.int .i64 n) := by
      intro i hi
      have i1 : i / 5 < m := by omega
      have i2 : i % 5 < 5 := by omega
      have i3 : i / 5 * 5 + i % 5 = i := by omega
      obtain ⟨cs', h1, h2⟩ := hx (i / 5) i1
      rw [ce] at h1
      obtain ⟨_, hlen, hcell⟩ := World.cells?_some h1
      obtain ⟨xs, n', _, _, _, hxl, hfd⟩ := DataW.trod_struct he h2
      obtain ⟨f, f1, f2, f3, f4⟩ := hf _ i2
      have g := hfd _ f f1
      have hlt : i % 5 < cs'.length := by omega
      rw [f2, f4, List.drop_eq_getElem_cons hlt, List.take_succ_cons, List.take_zero] at g
      have hfx : i % 5 < xs.length := by rw [hxl]; exact (Array.getElem?_eq_some_iff.1 f1).1
      rw [List.getElem?_eq_getElem hfx] at g
      obtain ⟨n, hn, _, _⟩ := DataW.trod_int f3 g
      replace hn := (List.cons.inj hn).1
      have c := hcell _ i2
      rw [Go.Deep.add_add, i3, List.getElem?_eq_getElem hlt, hn] at c
      exact ⟨n, c⟩
    obtain ⟨q, hq⟩ := Go.Deep.choose_lt each
    refine ⟨some a, len, m, (List.range (m * 5)).map q, rfl, .inr ⟨a, rfl, hl, hm, by simp, fun i hi => ?_⟩⟩
    rw [List.length_map, List.length_range] at hi
    rw [hq i hi]
    simp [List.getD, hi]
/-- The slice value v owns a row of n structs, whose numbers in a row are zs. -/
def OwnR (w : World) (B : Nat) (v : Value) (n : Nat) (zs : List Int) : Prop := w.ownsRow B 69 5 v n (zs.map (Value.int .i64))
theorem recr_len {w : World} {B : Nat} {v : Value} {n : Nat} {zs : List Int} (h : OwnR w B v n zs) : zs.length = n * 5 := by have := h.1; simpa using this
theorem recr_keep {w w' : World} {B : Nat} {v : Value} {n : Nat} {zs : List Int} (hb : Below w.heap.size w w') (h : OwnR w B v n zs) : OwnR w' B v n zs := by
  refine ⟨h.1, ?_⟩
  rcases h.2 with hn | ⟨g, cap, cur, hv, hg, hh, r⟩
  · exact .inl hn
  · exact .inr ⟨g, cap, cur, hv, hg, by rw [hb.block g (Array.getElem?_eq_some_iff.1 hh).1]; exact hh, r⟩
theorem recr_base {w : World} {B B' : Nat} {v : Value} {n : Nat} {zs : List Int} (h : OwnR w B v n zs) (hB : B' ≤ B) : OwnR w B' v n zs := by
  refine ⟨h.1, ?_⟩
  rcases h.2 with hn | ⟨g, cap, cur, hv, hg, r⟩
  · exact .inl hn
  · exact .inr ⟨g, cap, cur, hv, Nat.le_trans hB hg, r⟩
theorem recr_alloc {w : World} {B : Nat} {v : Value} {n : Nat} {zs : List Int} (h : OwnR w B v n zs) (o : Obj) : OwnR (w.alloc o) B v n zs := World.ownsRow.alloc h o
theorem recr_drew {w : World} {B : Nat} {v : Value} {n : Nat} {zs : List Int} (h : OwnR w B v n zs) : OwnR w.drew B v n zs := h
theorem recr_nil {w : World} {B : Nat} : OwnR w B (.slice none 0 0) 0 [] := World.ownsRow_nil _ _ _ _
theorem recr_empty (w : World) (B : Nat) (hB : B ≤ w.heap.size) : OwnR (w.alloc (.cells #[] 69)) B (.slice (some ⟨w.heap.size, 0, none⟩) 0 0) 0 [] := World.ownsRow_made w #[] 0 hB (Nat.zero_le _) rfl
theorem recr_block_lt {w : World} {B : Nat} {v : Value} {n : Nat} {zs : List Int} (h : OwnR w B v n zs) : ∀ k, v.ownBlock = some k → B ≤ k ∧ k < w.heap.size := World.ownsRow.lt h
theorem recr_setCell_ne {w : World} {B : Nat} {v : Value} {n : Nat} {zs : List Int} (h : OwnR w B v n zs) {g j : Nat} {u : Value} (hne : v.ownBlock ≠ some g) : OwnR (w.setCell ⟨g, j, none⟩ u) B v n zs := by
  refine ⟨h.1, ?_⟩
  rcases h.2 with hn | ⟨g', cap, cur, hv, hg, hh, r⟩
  · exact .inl hn
  · refine .inr ⟨g', cap, cur, hv, hg, ?_, r⟩
    rw [Below.heap_setCell _ _ _ _ ?_]
    · exact hh
    · intro e
      apply hne
      rw [hv]
      show some g' = some g
      rw [show g' = g from e]
theorem recr_cases {w : World} {B : Nat} {v : Value} {n : Nat} {zs : List Int} (h : OwnR w B v n zs) : (v = .slice none 0 0 ∧ n = 0 ∧ zs = []) ∨
    ∃ g cap, v = .slice (some ⟨g, 0, none⟩) n cap ∧ B ≤ g ∧ g < w.heap.size ∧ n ≤ cap ∧ cap ≤ maxLen ∧
      (∀ i, i < zs.length → w.cell? ⟨g, i, none⟩ = some (.int .i64 (nth zs i))) ∧ (∀ i, w.frozen? ⟨g, i, none⟩ = false) := by
  have hl := recr_len h
  rcases h.2 with ⟨hv, hn⟩ | ⟨g, cap, cur, hv, hg, hh, hnc, hcm, hcs, htake⟩
  · exact .inl ⟨hv, hn, List.eq_nil_of_length_eq_zero (by omega)⟩
  · refine .inr ⟨g, cap, hv, hg, (Array.getElem?_eq_some_iff.1 hh).1, hnc, hcm, fun i hi => ?_, fun i => frozen_of_row w g i cur _ hh⟩
    have hc := World.ownsRow.cellAt (hv ▸ h) i (by omega)
    rw [hc]
    simp [nth, List.getD, hi]
theorem recr_form {w : World} {B : Nat} {v : Value} {n : Nat} {zs : List Int} (h : OwnR w B v n zs) : ∃ a cap, v = .slice a n cap ∧ n ≤ 9223372036854775807 ∧
    ∀ j, j < n → ∃ g, a = some ⟨g, 0, none⟩ ∧ w.cell? ⟨g, j * 5, none⟩ = some (.int .i64 (nth zs (j * 5))) ∧ w.cell? ⟨g, j * 5 + 1, none⟩ = some (.int .i64 (nth zs (j * 5 + 1))) ∧ w.cell? ⟨g, j * 5 + 2, none⟩ = some (.int .i64 (nth zs (j * 5 + 2))) ∧ w.cell? ⟨g, j * 5 + 3, none⟩ = some (.int .i64 (nth zs (j * 5 + 3))) ∧ w.cell? ⟨g, j * 5 + 4, none⟩ = some (.int .i64 (nth zs (j * 5 + 4))) := by
  have hl := recr_len h
  rcases recr_cases h with ⟨rfl, rfl, rfl⟩ | ⟨g, cap, rfl, _, _, h1, h2, hc, _⟩
  · exact ⟨none, 0, rfl, by simp, fun j hj => by simp at hj⟩
  · exact ⟨some ⟨g, 0, none⟩, cap, rfl, by unfold maxLen at h2; omega, fun j hj => ⟨g, rfl, hc _ (by omega), hc _ (by omega), hc _ (by omega), hc _ (by omega), hc _ (by omega)⟩⟩
theorem recr_at {w : World} {B g n cap : Nat} {xs : List Int} (h : OwnR w B (.slice (some ⟨g, 0, none⟩) n cap) n xs) {i : Nat} (hi : i < n * 5) :
    w.cell? ⟨g, i, none⟩ = some (.int .i64 (nth xs i)) ∧ w.frozen? ⟨g, i, none⟩ = false := by
  have hl := recr_len h
  rcases recr_cases h with ⟨hv, _⟩ | ⟨g', cap', hv, _, _, _, _, hc, hf⟩
  · simp at hv
  · simp only [Value.slice.injEq, Option.some.injEq, Addr.mk.injEq, and_true, true_and] at hv
    obtain ⟨rfl, rfl⟩ := hv
    exact ⟨hc i (by omega), hf i⟩
theorem recr_store {w : World} {B g n cap : Nat} {xs : List Int} (h : OwnR w B (.slice (some ⟨g, 0, none⟩) n cap) n xs) (j : Nat) (u : Int) :
    OwnR (w.setCell ⟨g, j, none⟩ (.int .i64 u)) B (.slice (some ⟨g, 0, none⟩) n cap) n (xs.set j u) ∧ w.grownBy (w.setCell ⟨g, j, none⟩ (.int .i64 u)) (some g) := by
  have h2 := World.ownsRow.stored h j (.int .i64 u)
  unfold OwnR
  rw [List.map_set]
  exact h2
theorem recr_grown {w w' : World} {B : Nat} {v : Value} {n : Nat} {zs : List Int} {row : Option Nat} (h : OwnR w B v n zs) (hg : w.grownBy w' row) (hne : v.ownBlock = none ∨ v.ownBlock ≠ row) : OwnR w' B v n zs := World.ownsRow.kept h hg hne
theorem apart_lt {a b : Value} {B N : Nat} (ha : ∀ k, a.ownBlock = some k → k < N) (hb : ∀ k, b.ownBlock = some k → B ≤ k) (hB : N ≤ B) : Apart b a := fun k hk e => by
  have x := ha k e
  have y := hb k hk
  omega
theorem recr_apart_grown {w w' : World} {B : Nat} {x o : Value} {n : Nat} {zs : List Int} (h : OwnR w B x n zs) (hg : w.grownBy w' o.ownBlock) (ha : Apart x o) : OwnR w' B x n zs := by
  refine recr_grown h hg ?_
  cases e : x.ownBlock with
  | none => exact .inl rfl
  | some k => exact .inr (fun e2 => ha k e e2.symm)
theorem recr_grown_below {a w w' : World} {B : Nat} {v : Value} {n : Nat} {zs : List Int} {M : Nat} (h : Below M a w) (ho : OwnR w B v n zs) (hg : w.grownBy w' v.ownBlock) (hK : M ≤ B) (hw : M ≤ w.heap.size) : Below M a w' :=
  h.grown hg hw (fun k hk => Nat.le_trans hK (recr_block_lt ho k hk).1)
theorem tinfoR : (Try.prog.info? 69).map (fun i => (i.zero, i.size, i.bytes)) = some (some (.agg #[.int .i64 0, .int .i64 0, .int .i64 0, .int .i64 0, .int .i64 0]), 5, 40) := by kernel_rfl
/-- The call returns a slice of structs of its own, and a number; nothing that was there has turned. -/
def RetRec (w : World) (n : Nat) (zs : List Int) (e : Ending) (w' : World) : Prop := ∃ v, e = .returned v ∧ OwnR w' w.heap.size v n zs ∧ Below w.heap.size w w'
def RetRecI (w : World) (n : Nat) (zs : List Int) (c : Int) (e : Ending) (w' : World) : Prop := ∃ v, e = .returned (.tuple #[v, .int .i64 c]) ∧ OwnR w' w.heap.size v n zs ∧ Below w.heap.size w w'
def RetMarkR (w : World) (B : Nat) (v : Value) (n : Nat) (k : Int) (e : Ending) (w' : World) : Prop :=
  e = .returned (.int .i64 (k + (n * 5 : Nat))) ∧ OwnR w' B v n (marks k (n * 5)) ∧ w.grownBy w' v.ownBlock
theorem filled_made_r (zs : List Int) (n : Nat) : (madeCells (.agg #[.int .i64 0, .int .i64 0, .int .i64 0, .int .i64 0, .int .i64 0] : Value).cells (n * 5)).toList = (filled zs (n * 5) 0).map (Value.int .i64) := by
  apply List.ext_getElem?
  intro j
  by_cases hj : j < n * 5
  · have e : ∀ m, m < 5 → (#[.int .i64 0, .int .i64 0, .int .i64 0, .int .i64 0, .int .i64 0] : Array Value)[m]! = .int .i64 0 := by
      intro m hm
      match m, hm with
      | 0, _ => rfl
      | 1, _ => rfl
      | 2, _ => rfl
      | 3, _ => rfl
      | 4, _ => rfl
    simp [filled, madeCells, Value.cells, hj]
    have := e (j % 5) (Nat.mod_lt _ (by omega))
    simpa using this
  · simp [filled, madeCells, Value.cells, hj]
set_option maxHeartbeats 1000000 in
theorem laws_toR (p0 p1 p2 p3 p4 : Int) (w : World) : Calls Try.prog 46 #[.agg #[.int .i64 p0, .int .i64 p1, .int .i64 p2, .int .i64 p3, .int .i64 p4]] w (RetV w (.agg #[.int .i64 p0, .int .i64 p1, .int .i64 p2, .int .i64 p3, .int .i64 p4])) := by
  go_enter Try.func46, Try.ntmps46
  go_wp2
  refine bodyPost_ret (v := .agg #[.int .i64 p0, .int .i64 p1, .int .i64 p2, .int .i64 p3, .int .i64 p4]) (by simp [results, Try.results46, go_sem, *]) rfl ?_
  exact ⟨rfl, (((Below.refl _ _).alloc (Nat.le_refl _) _).alloc (by simp) _).alloc (by simp; omega) _⟩
theorem laws_szRS (a : Option Addr) (len cap : Nat) (n : Int) (w : World) (h : len ≤ 9223372036854775807) (h0 : 0 ≤ n) (h1 : n ≤ 2000000) :
    Calls Try.prog 18 #[.slice a len cap, .int .i64 n] w fun e w' => e = .returned (.int .i64 (if (len : Int) ≤ n then n - len else -1)) ∧ w = w' := by
  by_cases hc : (len : Int) ≤ n
  · rw [if_pos hc]
    go_enter Try.func18, Try.ntmps18
    go_wp2
    go_ret
    exact ⟨rfl, rfl⟩
  · rw [if_neg hc]
    go_enter Try.func18, Try.ntmps18
    go_wp2
    go_ret
    exact ⟨rfl, rfl⟩
set_option maxHeartbeats 1000000 in
theorem laws_eqR (p0 p1 p2 p3 p4 : Int) (w : World) : Calls Try.prog 49 #[.agg #[.int .i64 p0, .int .i64 p1, .int .i64 p2, .int .i64 p3, .int .i64 p4], .agg #[.int .i64 p0, .int .i64 p1, .int .i64 p2, .int .i64 p3, .int .i64 p4]] w (RetV w (.bool true)) := by
  go_enter Try.func49, Try.ntmps49
  go_wp2
  go_ret
  exact ⟨rfl, ((Below.refl _ _).alloc (Nat.le_refl _) _).alloc (by simp) _⟩
set_option maxHeartbeats 1000000 in
theorem laws_toRS (a : Option Addr) (len cap : Nat) (zs : List Int) (w : World) (h : IsRec w a len cap zs) (hl : len ≤ 1048576) :
    Calls Try.prog 20 #[.slice a len cap] w (RetRec w len (zs.take (len * 5))) := by
  have hz : len * 5 ≤ zs.length := h.len_le.2
  have HZ := Lib.hid hz; have HI := Lib.hid h; clear h hz
  obtain ⟨i0, hi, hz0, hz1, hz2⟩ := info_parts tinfoR
  go_enter Try.func20, Try.ntmps20
  go_wp2_with (refine wpList_make_full w rfl _ _ 44 rfl w.heap.size 69 i0 (.agg #[.int .i64 0, .int .i64 0, .int .i64 0, .int .i64 0, .int .i64 0]) 5 Try.underlying44 hi hz0 hz1 .i64 .i64 _ _ len rfl rfl rfl rfl (by rw [hz2]; omega) (by unfold maxLen; omega) (Nat.le_refl _) ?_; intro w1 hown hgr)
  have hs : w.heap.size ≤ w1.heap.size := hgr.size
  have hb1 : Below w.heap.size w w1 := (Below.refl _ _).grown hgr (Nat.le_refl _) (fun k hk => by cases hk)
  have ho1 : OwnR w1 w.heap.size (.slice (some ⟨w.heap.size, 0, none⟩) len len) len (filled zs (len * 5) 0) := by
    unfold OwnR; rw [← filled_made_r]; exact hown
  have HO1 := Lib.hid ho1; have HB1 := Lib.hid hb1; clear ho1 hb1 hown hgr
  go_loopw [4] (fun i wr => ∃ j : Nat, j ≤ len ∧ i = .int .i64 j ∧ OwnR wr w.heap.size (.slice (some ⟨w.heap.size, 0, none⟩) len len) len (filled zs (len * 5) (j * 5)) ∧ Below w.heap.size w wr ∧ w.heap.size + 1 ≤ wr.heap.size) (fun i _ => len - (intOf i).toNat)
  case atStart => exact ⟨0, Nat.zero_le _, rfl, by simpa using HO1.out, HB1.out, by have := (recr_block_lt HO1.out w.heap.size rfl).2; omega⟩
  case round =>
    obtain ⟨j, hj, rfl, ho, hb, hsz⟩ := hrel
    clear HO1 HB1
    have HIr := HI.out.below hb
    by_cases hlt : j < len
    · have hzl := HZ.out
      rcases HIr with ⟨_, rfl, _, _⟩ | ⟨x, rfl, _, _, _, hx⟩
      · omega
      · obtain ⟨b, off, rfl, hc⟩ := ints_at hx (show 0 < zs.length by omega)
        have q0 : wr.cell? ⟨b, off + j * 5, none⟩ = some (.int .i64 (zs.getD (j * 5) 0)) := hc (j * 5) (by omega)
        have q1 : wr.cell? ⟨b, off + j * 5 + 1, none⟩ = some (.int .i64 (zs.getD (j * 5 + 1) 0)) := by rw [Nat.add_assoc]; exact hc (j * 5 + 1) (by omega)
        have q2 : wr.cell? ⟨b, off + j * 5 + 2, none⟩ = some (.int .i64 (zs.getD (j * 5 + 2) 0)) := by rw [Nat.add_assoc]; exact hc (j * 5 + 2) (by omega)
        have q3 : wr.cell? ⟨b, off + j * 5 + 3, none⟩ = some (.int .i64 (zs.getD (j * 5 + 3) 0)) := by rw [Nat.add_assoc]; exact hc (j * 5 + 3) (by omega)
        have q4 : wr.cell? ⟨b, off + j * 5 + 4, none⟩ = some (.int .i64 (zs.getD (j * 5 + 4) 0)) := by rw [Nat.add_assoc]; exact hc (j * 5 + 4) (by omega)
        have HO := Lib.hid ho; have HB := Lib.hid hb; clear ho hb hx hc
        go_wp2_with fail
        refine (laws_toR _ _ _ _ _ _).mono ?_; rintro e w2 ⟨rfl, b2⟩
        have O2 := Lib.hid (recr_keep b2 HO.out); have B2 := Lib.hid (Below.trans_size HB.out b2); have s2 := b2.size
        clear b2
        have lt2 : w.heap.size < w2.heap.size := (by omega)
        obtain ⟨g0, f0⟩ := recr_at O2.out (show j * 5 < len * 5 by omega)
        obtain ⟨g1, f1⟩ := recr_at O2.out (show j * 5 + 1 < len * 5 by omega)
        obtain ⟨g2, f2⟩ := recr_at O2.out (show j * 5 + 2 < len * 5 by omega)
        obtain ⟨g3, f3⟩ := recr_at O2.out (show j * 5 + 3 < len * 5 by omega)
        obtain ⟨g4, f4⟩ := recr_at O2.out (show j * 5 + 4 < len * 5 by omega)
        have S0 := O2.out
        have S1 := (recr_store S0 (j * 5) (nth zs (j * 5))).1; rw [filled_set (show j * 5 < len * 5 by omega) hzl] at S1
        have S2 := (recr_store S1 (j * 5 + 1) (nth zs (j * 5 + 1))).1; rw [filled_set (show j * 5 + 1 < len * 5 by omega) hzl] at S2
        have S3 := (recr_store S2 (j * 5 + 2) (nth zs (j * 5 + 2))).1; rw [filled_set (show j * 5 + 2 < len * 5 by omega) hzl] at S3
        have S4 := (recr_store S3 (j * 5 + 3) (nth zs (j * 5 + 3))).1; rw [filled_set (show j * 5 + 3 < len * 5 by omega) hzl] at S4
        have S5 := (recr_store S4 (j * 5 + 4) (nth zs (j * 5 + 4))).1; rw [filled_set (show j * 5 + 4 < len * 5 by omega) hzl] at S5
        have S := Lib.hid S5; clear S0 S1 S2 S3 S4 S5
        go_wp2_with fail
        go_roundw
        case rel => exact ⟨j + 1, by omega, by go_num, by rw [Nat.add_mul, Nat.one_mul]; exact S.out, (((((B2.out).setCell (Nat.le_refl _) _).setCell (Nat.le_refl _) _).setCell (Nat.le_refl _) _).setCell (Nat.le_refl _) _).setCell (Nat.le_refl _) _, by simp; omega⟩
        case measure => simp [intOf]; omega
    · obtain rfl : j = len := by omega
      clear HIr
      have HO := Lib.hid ho; have HB := Lib.hid hb; clear ho hb
      go_wp2
      go_ret
      exact ⟨_, rfl, filled_all ▸ HO.out, HB.out⟩
set_option maxHeartbeats 1000000 in
theorem laws_eqRS {B1 B2 : Nat} {u v : Value} {n : Nat} {zs : List Int} (w : World) (h1 : OwnR w B1 u n zs) (h2 : OwnR w B2 v n zs) :
    Calls Try.prog 23 #[u, v] w (RetV w (.bool true)) := by
  obtain ⟨a1, c1, rfl, m1, q1⟩ := recr_form h1
  obtain ⟨a2, c2, rfl, m2, q2⟩ := recr_form h2
  clear h1 h2
  have Q1 := Lib.hid q1; have Q2 := Lib.hid q2; clear q1 q2
  go_enter Try.func23, Try.ntmps23
  go_wp2_with fail
  go_loopw [5] (fun i wr => ∃ j : Nat, j ≤ n ∧ i = .int .i64 j ∧ Below w.heap.size w wr) (fun i _ => n - (intOf i).toNat)
  case atStart => exact ⟨0, Nat.zero_le _, rfl, Below.refl _ _⟩
  case round =>
    obtain ⟨j, hj, rfl, hb⟩ := hrel
    by_cases hlt : j < n
    · obtain ⟨g, rfl, x0, x1, x2, x3, x4⟩ := Q1.out j hlt
      obtain ⟨g2, e2, y0, y1, y2, y3, y4⟩ := Q2.out j hlt
      obtain rfl := e2
      have r0 := (hb.cell (World.block_lt_of_cell? w _ x0)).trans x0; have t0 := (hb.cell (World.block_lt_of_cell? w _ y0)).trans y0; clear x0 y0
      have r1 := (hb.cell (World.block_lt_of_cell? w _ x1)).trans x1; have t1 := (hb.cell (World.block_lt_of_cell? w _ y1)).trans y1; clear x1 y1
      have r2 := (hb.cell (World.block_lt_of_cell? w _ x2)).trans x2; have t2 := (hb.cell (World.block_lt_of_cell? w _ y2)).trans y2; clear x2 y2
      have r3 := (hb.cell (World.block_lt_of_cell? w _ x3)).trans x3; have t3 := (hb.cell (World.block_lt_of_cell? w _ y3)).trans y3; clear x3 y3
      have r4 := (hb.cell (World.block_lt_of_cell? w _ x4)).trans x4; have t4 := (hb.cell (World.block_lt_of_cell? w _ y4)).trans y4; clear x4 y4
      have HB := Lib.hid hb; clear hb
      go_wp2_with fail
      go_region_held3 (fun w' => w'.cell? ⟨g, j * 5, none⟩ = some (.int .i64 (nth zs (j * 5))) ∧ w'.cell? ⟨g, j * 5 + 1, none⟩ = some (.int .i64 (nth zs (j * 5 + 1))) ∧ w'.cell? ⟨g, j * 5 + 2, none⟩ = some (.int .i64 (nth zs (j * 5 + 2))) ∧ w'.cell? ⟨g, j * 5 + 3, none⟩ = some (.int .i64 (nth zs (j * 5 + 3))) ∧ w'.cell? ⟨g, j * 5 + 4, none⟩ = some (.int .i64 (nth zs (j * 5 + 4))) ∧ w'.cell? ⟨g2, j * 5, none⟩ = some (.int .i64 (nth zs (j * 5))) ∧ w'.cell? ⟨g2, j * 5 + 1, none⟩ = some (.int .i64 (nth zs (j * 5 + 1))) ∧ w'.cell? ⟨g2, j * 5 + 2, none⟩ = some (.int .i64 (nth zs (j * 5 + 2))) ∧ w'.cell? ⟨g2, j * 5 + 3, none⟩ = some (.int .i64 (nth zs (j * 5 + 3))) ∧ w'.cell? ⟨g2, j * 5 + 4, none⟩ = some (.int .i64 (nth zs (j * 5 + 4)))) (first | go_keep | (refine ⟨?_, ?_, ?_, ?_, ?_, ?_, ?_, ?_, ?_, ?_⟩ <;> assumption)) (first | (go_at_call 49; refine (laws_eqR _ _ _ _ _ _).mono ?_; rintro e w2 ⟨rfl, b2⟩; have B2 := Lib.hid (Below.trans_size HB.out.drew b2); have r02 := (b2.cell (World.block_lt_of_cell? wr _ r0)).trans r0; have r12 := (b2.cell (World.block_lt_of_cell? wr _ r1)).trans r1; have r22 := (b2.cell (World.block_lt_of_cell? wr _ r2)).trans r2; have r32 := (b2.cell (World.block_lt_of_cell? wr _ r3)).trans r3; have r42 := (b2.cell (World.block_lt_of_cell? wr _ r4)).trans r4; have t02 := (b2.cell (World.block_lt_of_cell? wr _ t0)).trans t0; have t12 := (b2.cell (World.block_lt_of_cell? wr _ t1)).trans t1; have t22 := (b2.cell (World.block_lt_of_cell? wr _ t2)).trans t2; have t32 := (b2.cell (World.block_lt_of_cell? wr _ t3)).trans t3; have t42 := (b2.cell (World.block_lt_of_cell? wr _ t4)).trans t4; clear b2))
      all_goals (
      go_wp2_with fail
      go_roundw
      case rel => exact ⟨j + 1, by omega, by go_num, by first | exact B2.out | exact B2.out.drew⟩
      case measure => simp [intOf]; omega)
    · have HB := Lib.hid hb; clear hb
      go_wp2_with fail
      go_ret
      exact ⟨rfl, HB.out⟩
theorem recr_mark_store {w : World} {B g n cap : Nat} {zs : List Int} {k u : Int} {i : Nat} (h : i < zs.length) (hu : u = k + (i : Int)) (ho : OwnR w B (.slice (some ⟨g, 0, none⟩) n cap) n (marks k i ++ zs.drop i)) :
    OwnR (w.setCell ⟨g, i, none⟩ (.int .i64 u)) B (.slice (some ⟨g, 0, none⟩) n cap) n (marks k (i + 1) ++ zs.drop (i + 1)) ∧ w.grownBy (w.setCell ⟨g, i, none⟩ (.int .i64 u)) (some g) := by
  subst hu
  unfold OwnR at ho ⊢
  have h2 := World.ownsRow.stored ho i (.int .i64 (k + i))
  rw [marks_step k zs i h] at h2
  exact h2
set_option maxHeartbeats 1000000 in
theorem laws_markRS {B : Nat} {v : Value} {n : Nat} {zs : List Int} (w : World) (k : Int) (h1 : OwnR w B v n zs) (h0 : 0 ≤ k) (hk : k ≤ 1000000000) (hl : n ≤ 1000000000) :
    Calls Try.prog 24 #[v, .int .i64 k] w (RetMarkR w B v n k) := by
  have hz := recr_len h1
  rcases recr_cases h1 with ⟨rfl, rfl, rfl⟩ | ⟨g, cap, rfl, _, _, hc1, hc2, _, _⟩
  · go_enter Try.func24, Try.ntmps24
    go_wp2_with fail
    go_loopw [1, 5] (fun m i wr => i = .int .i64 0 ∧ m = .int .i64 k ∧ wr = w) (fun _ i _ => (100 - intOf i).toNat)
    case atStart => exact ⟨rfl, rfl, rfl⟩
    case round =>
      obtain ⟨rfl, rfl, rfl⟩ := hrel
      go_wp2
      go_ret
      exact ⟨ret_int (by simp), h1, World.grownBy.refl _ _⟩
  · clear hc1 hc2
    have H1 := Lib.hid h1; clear h1
    go_enter Try.func24, Try.ntmps24
    go_wp2_with fail
    go_loopw [1, 5] (fun m i wr => ∃ j : Nat, j ≤ n ∧ i = .int .i64 j ∧ m = .int .i64 (k + (j * 5 : Nat)) ∧ OwnR wr B (.slice (some ⟨g, 0, none⟩) n cap) n (marks k (j * 5) ++ zs.drop (j * 5)) ∧ w.grownBy wr (some g)) (fun _ i _ => n - (intOf i).toNat)
    case atStart => exact ⟨0, Nat.zero_le _, rfl, by simp, by simpa [marks] using H1.out, World.grownBy.refl _ _⟩
    case round =>
      obtain ⟨j, hj, rfl, rfl, ho, hg⟩ := hrel
      by_cases hlt : j < n
      · have S0 := ho; have G0 : w.grownBy w (some g) := World.grownBy.refl _ _
        have ⟨q0, f0⟩ := recr_at ho (show j * 5 < n * 5 by omega)
        have ⟨q1, f1⟩ := recr_at ho (show j * 5 + 1 < n * 5 by omega)
        have ⟨q2, f2⟩ := recr_at ho (show j * 5 + 2 < n * 5 by omega)
        have ⟨q3, f3⟩ := recr_at ho (show j * 5 + 3 < n * 5 by omega)
        have ⟨q4, f4⟩ := recr_at ho (show j * 5 + 4 < n * 5 by omega)
        have ⟨S1, G1⟩ := recr_mark_store (u := k + (j : Int) * 5) (show j * 5 < zs.length by omega) (by omega) S0
        have ⟨S2, G2⟩ := recr_mark_store (u := k + (j : Int) * 5 + 1) (show j * 5 + 1 < zs.length by omega) (by omega) S1
        have ⟨S3, G3⟩ := recr_mark_store (u := k + (j : Int) * 5 + 1 + 1) (show j * 5 + 2 < zs.length by omega) (by omega) S2
        have ⟨S4, G4⟩ := recr_mark_store (u := k + (j : Int) * 5 + 1 + 1 + 1) (show j * 5 + 3 < zs.length by omega) (by omega) S3
        have ⟨S5, G5⟩ := recr_mark_store (u := k + (j : Int) * 5 + 1 + 1 + 1 + 1) (show j * 5 + 4 < zs.length by omega) (by omega) S4
        have SK := Lib.hid S5; have GK := Lib.hid (grownBy_trans (grownBy_trans (grownBy_trans (grownBy_trans G1 G2) G3) G4) G5); clear S1 G1 S2 G2 S3 G3 S4 G4 S5 G5
        have HG := Lib.hid hg; clear ho hg S0 G0
        go_wp2
        go_roundw
        case rel => exact ⟨j + 1, by omega, by go_num, by first | go_num | (congr 1; omega) | (congr 1; push_cast; omega), by rw [Nat.add_mul, Nat.one_mul]; first | exact SK.out | simpa [Int.add_assoc] using SK.out, grownBy_trans HG.out (by first | exact GK.out | simpa [Int.add_assoc] using GK.out)⟩
        case measure => simp [intOf]; omega
      · obtain rfl : j = n := by omega
        have HO := Lib.hid ho; have HG := Lib.hid hg; clear ho hg
        go_wp2
        go_ret
        exact ⟨ret_int (by simp), by simpa [← hz] using HO.out, HG.out⟩
end Go.Proofs.Ytkhjmokjbiepgaa
