/- The first blank of a text: what stands before and behind it; the words of a text. -/
import Derived.IntWalk
import Derived.Deep.QuietTactic
import Derived.BigQuiet
import Derived.Test.YtkhjmokjbiepgaaDoorRdd
namespace Go.Proofs.YtkhjmokjbiepgaaDoor
open Go.ChangeShapes Go.WideShapes Go.ChangeAt Go.RowKit
def bt (s : ByteArray) (k : Nat) : UInt8 := s.data.toList.getD k 0
theorem bt_get {s : ByteArray} {k : Nat} (h : k < s.size) : s[k] = bt s k := by
  have h2 : k < s.data.toList.length := by rw [Array.length_toList]; exact h
  show s.data[k] = _
  unfold bt
  rw [List.getD, List.getElem?_eq_getElem h2]; rfl
theorem ext1 {s : ByteArray} {k : Nat} (h : k < s.size) : (s.extract k (k + 1)).toList = [bt s k] := by
  have h2 : k < s.data.toList.length := by rw [Array.length_toList]; exact h
  rw [ByteArray.toList_eq, ByteArray.data_extract, Array.toList_extract, List.extract_eq_take_drop, show k + 1 - k = 1 by omega, List.drop_eq_getElem_cons h2, List.take_succ_cons, List.take_zero]
  unfold bt
  rw [List.getD, List.getElem?_eq_getElem h2]; rfl
theorem ext_t {s : ByteArray} {k : Nat} (h : k < s.size) (e : bt s k = 32) : ((s.extract k (k + 1)).toList == [32]) = true := by rw [ext1 h, e]; rfl
theorem ext_f {s : ByteArray} {k : Nat} (h : k < s.size) (e : ¬ bt s k = 32) : ((s.extract k (k + 1)).toList == [32]) = false := by rw [ext1 h]; simp [e]
set_option maxHeartbeats 1000000 in
set_option maxRecDepth 100000 in
theorem impl_cut_at (s : ByteArray) (p : Nat) (w : World) (hs : s.size ≤ 1048576) (hp : p < s.size) (h1 : bt s p = 32) (h2 : ∀ j, j < p → ¬ bt s j = 32) :
    Calls Tryd.prog 27 #[.string s, .string ⟨#[32]⟩] w (RetV w (.tuple #[.string (s.extract 0 p), .string (s.extract (p + 1) s.size), .bool true])) := by
  have H2 := Lib.hid h2; have H1 := Lib.hid h1; clear h1 h2
  go_enter Tryd.func27, Tryd.ntmps27
  go_wp2_with fail
  go_loop [7] (fun ii => ∃ k : Nat, k ≤ p ∧ ii = .int .i64 k) (fun ii => s.size - (intOf ii).toNat)
  case atStart => exact ⟨0, by omega, rfl⟩
  case round =>
    obtain ⟨k, hk, rfl⟩ := hrel
    have e1 : (k : Int) + 1 ≤ (s.size : Int) := by omega
    have e2 : (0 : Int) ≤ (k : Int) := by omega
    have e3 : (k : Int) ≤ (k : Int) + 1 := by omega
    have e4 : ((k : Int) + 1).toNat = k + 1 := by omega
    by_cases hlt : k < p
    · have e5 := ext_f (show k < s.size by omega) (H2.out k hlt)
      go_wp2_with fail
      go_round
      case rel => exact ⟨k + 1, by omega, by go_num⟩
      case measure => simp [intOf]; omega
    · obtain rfl : k = p := by omega
      have e5 := ext_t hp H1.out
      have e6 : (k : Int) ≤ (s.size : Int) := by omega
      have e7 : (0 : Int) ≤ (k : Int) + 1 := by omega
      go_wp2_with fail
      go_quiet (fail)
      go_wp2_with fail
      go_ret3
      exact ⟨rfl, below_drewN _ _⟩
set_option maxHeartbeats 1000000 in
set_option maxRecDepth 100000 in
theorem impl_cut_no (s : ByteArray) (w : World) (hs : s.size ≤ 1048576) (h2 : ∀ j, j < s.size → ¬ bt s j = 32) :
    Calls Tryd.prog 27 #[.string s, .string ⟨#[32]⟩] w (RetV w (.tuple #[.string s, .string ⟨#[]⟩, .bool false])) := by
  have H2 := Lib.hid h2; clear h2
  go_enter Tryd.func27, Tryd.ntmps27
  go_wp2_with fail
  go_loop [7] (fun ii => ∃ k : Nat, k ≤ s.size ∧ ii = .int .i64 k) (fun ii => s.size - (intOf ii).toNat)
  case atStart => exact ⟨0, by omega, rfl⟩
  case round =>
    obtain ⟨k, hk, rfl⟩ := hrel
    by_cases hlt : k < s.size
    · have e1 : (k : Int) + 1 ≤ (s.size : Int) := by omega
      have e2 : (0 : Int) ≤ (k : Int) := by omega
      have e3 : (k : Int) ≤ (k : Int) + 1 := by omega
      have e4 : ((k : Int) + 1).toNat = k + 1 := by omega
      have e5 := ext_f hlt (H2.out k hlt)
      go_wp2_with fail
      go_round
      case rel => exact ⟨k + 1, by omega, by go_num⟩
      case measure => simp [intOf]; omega
    · have e1 : ¬ (k : Int) + 1 ≤ (s.size : Int) := by omega
      go_wp2_with fail
      go_ret3
      exact ⟨rfl, Below.refl _ _⟩
/-- The slice value v owns a row of its own, which holds the texts ws. -/
def OwnS (w : World) (B : Nat) (v : Value) (ws : List ByteArray) : Prop := w.ownsRow B 9 1 v ws.length (ws.map Value.string)
theorem tinfoS : (Tryd.prog.info? 9).map (fun i => (i.zero, i.size, i.bytes)) = some (some (.string ⟨#[]⟩), 1, 16) := by kernel_rfl
theorem owns_alloc {w : World} {B : Nat} {v : Value} {ws : List ByteArray} (h : OwnS w B v ws) (o : Obj) : OwnS (w.alloc o) B v ws := World.ownsRow.alloc h o
theorem owns_empty (w : World) (B : Nat) (hB : B ≤ w.heap.size) : OwnS (w.alloc (.cells #[] 9)) B (.slice (some ⟨w.heap.size, 0, none⟩) 0 0) [] := World.ownsRow_made w #[] 0 hB (Nat.zero_le _) rfl
theorem owns_keep {w w' : World} {B : Nat} {v : Value} {ws : List ByteArray} (hb : Below w.heap.size w w') (h : OwnS w B v ws) : OwnS w' B v ws := by
  refine ⟨h.1, ?_⟩
  rcases h.2 with hn | ⟨g, cap, cur, hv, hg, hh, r⟩
  · exact .inl hn
  · exact .inr ⟨g, cap, cur, hv, hg, by rw [hb.block g (Array.getElem?_eq_some_iff.1 hh).1]; exact hh, r⟩
theorem owns_at {w : World} {B : Nat} {v : Value} {ws : List ByteArray} (h : OwnS w B v ws) (hl : 0 < ws.length) : ∃ g cap, v = .slice (some ⟨g, 0, none⟩) ws.length cap ∧ g < w.heap.size ∧ ws.length ≤ cap ∧ cap ≤ maxLen ∧
    ∀ i, i < ws.length → w.cell? ⟨g, i, none⟩ = some (.string (ws.getD i ⟨#[]⟩)) := by
  rcases h.2 with ⟨hv, hn⟩ | ⟨g, cap, cur, hv, hg, hh, hnc, hcm, hcs, htake⟩
  · omega
  · refine ⟨g, cap, hv, (Array.getElem?_eq_some_iff.1 hh).1, hnc, hcm, fun i hi => ?_⟩
    have hc := World.ownsRow.cellAt (hv ▸ h) i (by omega)
    rw [hc]
    simp [List.getD, hi]
theorem owns_block_lt {w : World} {B : Nat} {v : Value} {ws : List ByteArray} (h : OwnS w B v ws) : ∀ k, v.ownBlock = some k → B ≤ k ∧ k < w.heap.size := World.ownsRow.lt h
/-- 'append(out, x)', out a row of texts of the call's own -/
theorem wp_appS {w : World} {ops : Array Oper} {rest : List Oper} {o : Oper} {a : Act} {Q : Exit → Act → World → Prop} (hgd : o.guard = none) (s x : Operand)
    (ho : o.op = .call { callee := .builtin .append, args := #[s, x], argTypes := #[49, 49] })
    {B : Nat} {v : Value} {ws : List ByteArray} (n : ByteArray) (g : Nat) (hown : OwnS w B v ws) (hs : a.eval s = v) (hx : a.eval x = .slice (some ⟨g, 0, none⟩) 1 1)
    (hc : w.cell? ⟨g, 0, none⟩ = some (.string n)) (hl : ws.length ≤ 1000000000) (hB : B ≤ w.heap.size)
    (h : ∀ v' w', OwnS w' B v' (ws ++ [n]) → w.grownBy w' v.ownBlock → wpList Tryd.prog ops Q rest (a.put o.dst v') w') : wpList Tryd.prog ops Q (o :: rest) a w := by
  obtain ⟨i0, hi, hz0, hz1, hz2⟩ := info_parts tinfoS
  refine wpList_append_own w hgd s x 49 ho B 9 i0 (.string ⟨#[]⟩) 1 16 Tryd.underlying49 hi hz0 hz1 hz2 rfl (by decide) v ws.length _ hs hown ⟨g, 0, none⟩ 1 1 [.string n] hx rfl ?_ ?_ ?_ ?_ hB ?_
  · intro j u hu
    match j with
    | 0 => simp at hu; subst hu; rw [Addr.add]; exact hc
    | j + 1 => simp at hu
  · intro u hu; simp at hu; subst hu; rfl
  · unfold maxLen; omega
  · omega
  · intro v' w' h1 h2 _
    exact h v' w' (by unfold OwnS; rw [List.length_append, List.map_append]; exact h1) h2
def stS (s : ByteArray) : Nat → List ByteArray × Nat
  | 0 => ([], 0)
  | k + 1 => if bt s k = 32 then ((stS s k).1 ++ [s.extract (stS s k).2 k], k + 1) else stS s k
def splitL (s : ByteArray) : List ByteArray := (stS s s.size).1 ++ [s.extract (stS s s.size).2 s.size]
theorem stS_le (s : ByteArray) : ∀ k, (stS s k).2 ≤ k ∧ (stS s k).1.length ≤ k
  | 0 => ⟨Nat.le_refl _, Nat.le_refl _⟩
  | k + 1 => by
    have := stS_le s k
    unfold stS
    split
    · simp; omega
    · omega
set_option maxHeartbeats 1000000 in
set_option maxRecDepth 100000 in
theorem spec_l01Split (s : ByteArray) (w : World) (hs : s.size ≤ 1048576) :
    Calls Tryd.prog 23 #[.string s, .int .u8 32] w fun e w' => ∃ v, e = .returned v ∧ OwnS w' w.heap.size v (splitL s) ∧ Below w.heap.size w w' := by
  go_enter Tryd.func23, Tryd.ntmps23
  go_wp2_with fail
  go_loopw [5, 6, 7] (fun o ff ii wr => ∃ k f : Nat, ∃ ws : List ByteArray, k ≤ s.size ∧ f ≤ k ∧ ws.length ≤ k ∧ ii = .int .i64 k ∧ ff = .int .i64 f ∧ OwnS wr w.heap.size o ws ∧ Hid ((ws, f) = stS s k) ∧ Below w.heap.size w wr ∧ w.heap.size ≤ wr.heap.size) (fun _ _ ii _ => s.size - (intOf ii).toNat)
  case atStart => exact ⟨0, 0, [], by omega, by omega, by simp, rfl, rfl, owns_empty _ _ (Nat.le_refl _), rfl, (Below.refl _ _).alloc (Nat.le_refl _) _, by simp⟩
  case round =>
    obtain ⟨k, f, ws, hk, hf, hw, rfl, rfl, ho, hst, hbw, hsz⟩ := hrel
    have HO := Lib.hid ho; have HB := Lib.hid hbw; have HLT := Lib.hid (owns_block_lt ho); clear ho hbw
    have e0 : (0 : Int) ≤ (f : Int) := by omega
    have e1 : (f : Int) ≤ (k : Int) := by omega
    have e2 : (k : Int) ≤ (s.size : Int) := by omega
    by_cases hlt : k < s.size
    · have hb := bt_get hlt
      by_cases h32 : bt s k = 32
      · have HN := Lib.hid (show (ws ++ [s.extract f k], k + 1) = stS s (k + 1) from by
          have h := hst.out
          show _ = (if bt s k = 32 then ((stS s k).1 ++ [s.extract (stS s k).2 k], k + 1) else stS s k)
          rw [if_pos h32, ← h])
        have t1 : (((s[k]'hlt).toNat : Int) == 32) = true := by rw [hb, h32]; rfl
        clear hb h32 hst
        go_wp2_with (at_builtin; refine wp_appS rfl _ _ rfl _ _ (owns_alloc HO.out _) rfl rfl (by simp; rfl) (by omega) (by simp; omega) ?_; intro v' w9 ho' hg'; have hb9 := (HB.out.alloc hsz _).grown hg' (by simp; omega) (fun k hk => (HLT.out k hk).1); have hs9 := hg'.size; have O9 := Lib.hid ho'; have B9 := Lib.hid hb9; clear ho' hb9 hg')
        go_wp2_with fail
        go_roundw
        case rel => exact ⟨k + 1, k + 1, _, by omega, by omega, by simp; omega, by go_num, by go_num, O9.out, HN.out, B9.out, by simp at hs9; omega⟩
        case measure => first | (simp [intOf]; done) | (simp [intOf]; omega)
      · have HN := Lib.hid (show (ws, f) = stS s (k + 1) from by
          have h := hst.out
          show _ = (if bt s k = 32 then ((stS s k).1 ++ [s.extract (stS s k).2 k], k + 1) else stS s k)
          rw [if_neg h32, ← h])
        have t1 : (((s[k]'hlt).toNat : Int) == 32) = false := by
          rw [hb, beq_eq_false_iff_ne]
          intro h
          exact h32 (UInt8.toNat_inj.1 (by have : (32 : UInt8).toNat = 32 := rfl; omega))
        clear hb h32 hst
        go_wp2_with fail
        go_roundw
        case rel => exact ⟨k + 1, f, ws, by omega, by omega, by omega, by go_num, rfl, HO.out, HN.out, HB.out, hsz⟩
        case measure => first | (simp [intOf]; done) | (simp [intOf]; omega)
    · obtain rfl : k = s.size := by omega
      have HN := Lib.hid (show splitL s = ws ++ [s.extract f s.size] from by unfold splitL; rw [← hst.out])
      have e3 : (f : Int) ≤ (s.size : Int) := e1
      clear hst
      go_wp2_with (at_builtin; refine wp_appS rfl _ _ rfl _ _ (owns_alloc HO.out _) rfl rfl (by simp; rfl) (by omega) (by simp; omega) ?_; intro v' w9 ho' hg'; have hb9 := (HB.out.alloc hsz _).grown hg' (by simp; omega) (fun k hk => (HLT.out k hk).1); have O9 := Lib.hid ho'; have B9 := Lib.hid hb9; clear ho' hb9 hg')
      go_wp2_with fail
      go_ret
      exact ⟨_, rfl, by rw [HN.out]; exact O9.out, B9.out⟩
end Go.Proofs.YtkhjmokjbiepgaaDoor
