/- Rows of bytes that the call owns; the decimal numeral of a number: both packages return the same text. -/
import Derived.IntWalk
import Derived.Lib.ItoaNum
import Derived.Lib.ItoaLen
import Derived.Lib.AppendIntMem
import Derived.Lib.UnsafeStr
import Derived.Lib.LaidTab
import Derived.Laws.IdiomStrings
import Derived.Test.YtkhjmokjbiepgaaDoorAgg
namespace Go.Proofs.YtkhjmokjbiepgaaDoor
open Go.ChangeShapes Go.WideShapes Go.ChangeAt Go.RowKit
/-- The slice value v owns a row of its own, which holds the bytes l. -/
def OwnB (w : World) (B : Nat) (v : Value) (l : List UInt8) : Prop := w.ownsRow B 5 1 v l.length (Lib.byteCells l)
theorem tinfoB : (Tryd.prog.info? 5).map (fun i => (i.zero, i.size, i.bytes)) = some (some (.int .u8 0), 1, 1) := by kernel_rfl
theorem ownb_keep {w w' : World} {B : Nat} {v : Value} {l : List UInt8} (hb : Below w.heap.size w w') (h : OwnB w B v l) : OwnB w' B v l := by
  refine ⟨h.1, ?_⟩
  rcases h.2 with hn | ⟨g, cap, cur, hv, hg, hh, r⟩
  · exact .inl hn
  · exact .inr ⟨g, cap, cur, hv, hg, by rw [hb.block g (Array.getElem?_eq_some_iff.1 hh).1]; exact hh, r⟩
theorem ownb_cases {w : World} {B : Nat} {v : Value} {l : List UInt8} (h : OwnB w B v l) : (v = .slice none 0 0 ∧ l = []) ∨
    ∃ g cap, v = .slice (some ⟨g, 0, none⟩) l.length cap ∧ B ≤ g ∧ g < w.heap.size ∧ l.length ≤ cap ∧ cap ≤ maxLen ∧
      (∀ i, i < l.length → w.cell? ⟨g, i, none⟩ = some (.int .u8 ((l.getD i 0).toNat : Int))) := by
  rcases h.2 with ⟨hv, hn⟩ | ⟨g, cap, cur, hv, hg, hh, hnc, hcm, hcs, htake⟩
  · exact .inl ⟨hv, List.eq_nil_of_length_eq_zero hn⟩
  · refine .inr ⟨g, cap, hv, hg, (Array.getElem?_eq_some_iff.1 hh).1, hnc, hcm, fun i hi => ?_⟩
    have hc := World.ownsRow.cellAt (hv ▸ h) i (by omega)
    rw [hc]
    simp [Lib.byteCells, List.getD, hi]
theorem ownb_alloc {w : World} {B : Nat} {v : Value} {l : List UInt8} (h : OwnB w B v l) (o : Obj) : OwnB (w.alloc o) B v l := World.ownsRow.alloc h o
theorem ownb_empty (w : World) (B : Nat) (hB : B ≤ w.heap.size) : OwnB (w.alloc (.cells #[] 5)) B (.slice (some ⟨w.heap.size, 0, none⟩) 0 0) [] := World.ownsRow_made w #[] 0 hB (Nat.zero_le _) rfl
theorem ownb_one (w : World) (B : Nat) (hB : B ≤ w.heap.size) (c : UInt8) (x : Int) (hx : x = (c.toNat : Int)) : OwnB (w.alloc (.cells #[.int .u8 x] 5)) B (.slice (some ⟨w.heap.size, 0, none⟩) 1 1) [c] := by
  subst hx
  exact ⟨rfl, .inr ⟨w.heap.size, 1, _, rfl, hB, heap_last _ _, Nat.le_refl _, by unfold maxLen; omega, rfl, rfl⟩⟩
theorem ownb_block_lt {w : World} {B : Nat} {v : Value} {l : List UInt8} (h : OwnB w B v l) : ∀ k, v.ownBlock = some k → B ≤ k ∧ k < w.heap.size := World.ownsRow.lt h
/-- 'append(s, x...)', both rows of bytes of the call's own -/
theorem wp_appsB {w : World} {ops : Array Oper} {rest : List Oper} {o : Oper} {a : Act} {Q : Exit → Act → World → Prop} (hgd : o.guard = none) (s x : Operand)
    (ho : o.op = .call { callee := .builtin .append, args := #[s, x], argTypes := #[73, 73] })
    {B B2 : Nat} {v u : Value} {zs xs : List UInt8} (hown : OwnB w B v zs) (hsrc : OwnB w B2 u xs) (hs : a.eval s = v) (hx : a.eval x = u)
    (hl : zs.length + xs.length ≤ 1000000000) (hB : B ≤ w.heap.size)
    (h : ∀ v' w', OwnB w' B v' (zs ++ xs) → w.grownBy w' v.ownBlock → wpList Tryd.prog ops Q rest (a.put o.dst v') w') : wpList Tryd.prog ops Q (o :: rest) a w := by
  obtain ⟨i0, hi, hz0, hz1, hz2⟩ := info_parts tinfoB
  have hcells : ∀ {l m : List UInt8}, Lib.byteCells (l ++ m) = Lib.byteCells l ++ Lib.byteCells m := by intro l m; simp [Lib.byteCells]
  rcases ownb_cases hsrc with ⟨rfl, rfl⟩ | ⟨g, cap, rfl, _, _, hc1, hc2, hcell⟩
  · refine wpList_plain hgd fun K hK' => ?_
    have hrun := run_append_owned_none (P := Tryd.prog) w B 73 o.type 5 i0 1 Tryd.underlying73 hi v zs.length _ hown
    unfold Oper.wp
    simp [execOp, ho, resolve, invoke, builtin, hs, hx, hrun, Result.andThen]
    exact hK' _ _ (h v w (by rw [List.append_nil]; exact hown) (World.grownBy.refl _ _))
  · refine wpList_append_own w hgd s x 73 ho B 5 i0 (.int .u8 0) 1 1 Tryd.underlying73 hi hz0 hz1 hz2 rfl (by decide) v zs.length _ hs hown ⟨g, 0, none⟩ xs.length cap (Lib.byteCells xs) hx (by simp [Lib.byteCells]) ?_ (fun u hu => by simp [Lib.byteCells] at hu; obtain ⟨b, -, rfl⟩ := hu; rfl) ?_ ?_ hB ?_
    · intro j u hu
      have hj : j < xs.length := by
        have := (List.getElem?_eq_some_iff.1 hu).1; simpa [Lib.byteCells] using this
      rw [Addr.add_lit, Nat.zero_add, hcell j hj]
      rw [← hu]; simp [Lib.byteCells, List.getD, hj]
    · unfold maxLen; omega
    · omega
    · intro v' w' h1 h2 _
      exact h v' w' (by unfold OwnB; rw [List.length_append, hcells]; exact h1) h2
/-- the decimal digits of a number, none for 0 -/
def digF (u : Nat) : List UInt8 := if _h : u = 0 then [] else digF (u / 10) ++ [UInt8.ofNat (48 + u % 10)]
termination_by u
decreasing_by omega
theorem digF_zero : digF 0 = [] := by rw [digF]; simp
theorem digF_rec {u : Nat} (h : ¬ u = 0) : digF u = digF (u / 10) ++ [UInt8.ofNat (48 + u % 10)] := by rw [digF, dif_neg h]
theorem digF_dec {u : Nat} (h : ¬ u = 0) : Lib.decDigits u = digF u := by
  induction u using Nat.strongRecOn with
  | _ u ih =>
    rw [Lib.decDigits, digF_rec h]
    by_cases h10 : u < 10
    · rw [dif_pos h10, show u / 10 = 0 by omega, digF_zero, Nat.mod_eq_of_lt h10]; rfl
    · rw [dif_neg h10, ih (u / 10) (by omega) (by omega)]
theorem digF_len {u : Nat} (hu : u ≤ 9223372036854775808) : (digF u).length ≤ 30 := by
  by_cases h : u = 0
  · subst h; rw [digF_zero]; simp
  · have a := Lib.itoa_length_le (-(u : Int)) (by omega) (by omega)
    rw [Lib.itoa, if_pos (by omega), List.length_cons] at a
    rw [← digF_dec h]
    rw [show (-(u : Int)).natAbs = u by omega] at a
    omega
theorem digF_pos {u : Nat} (h : ¬ u = 0) : 0 < (digF u).length := by rw [digF_rec h]; simp
/-- The table of powers of ten reads as it is laid. -/
def TabW (w : World) : Prop := Lib.TabIs Tryd.prog w "internal/strconv.uint64pow10" .u64 Lib.pow10Tab
theorem tab_keep {w w' : World} (h : TabW w) (hb : Below w.heap.size w w') : TabW w' := Lib.tabBelow_of_tabIs h w' hb
def decT (n : Int) : ByteArray := ⟨(Lib.itoa n).toArray⟩
theorem dec_zero : Lib.itoa 0 = [48] := by unfold Lib.itoa; rw [if_neg (by omega)]; show Lib.decDigits 0 = _; rw [Lib.decDigits]; rfl
theorem dec_pos {N : Nat} (h : ¬ N = 0) : Lib.itoa (N : Int) = digF N := by unfold Lib.itoa; rw [if_neg (by omega), Int.toNat_natCast, digF_dec h]
theorem dec_neg {N : Nat} (h : ¬ N = 0) : Lib.itoa (-(N : Int)) = 45 :: digF N := by unfold Lib.itoa; rw [if_pos (by omega), show (-(N : Int)).natAbs = N by omega, digF_dec h]
theorem dig_u8 (D : Nat) (h : D < 10) : ((UInt8.ofNat (48 + D)).toNat : Int) = 48 + (D : Int) := by
  have : (UInt8.ofNat (48 + D)).toNat = 48 + D := by simp; omega
  rw [this]; omega
theorem str_eq {a b : List UInt8} (h : a = b) : Ending.returned (.string ⟨a.toArray⟩) = .returned (.string ⟨b.toArray⟩) := by rw [h]
set_option maxHeartbeats 4000000 in
set_option maxRecDepth 100000 in
theorem spec_l01Dec_pos (N : Nat) (w : World) (hN : N ≤ 9223372036854775807) :
    Calls Tryd.prog 33 #[.int .i64 N] w (RetV w (.string ⟨(Lib.itoa (N : Int)).toArray⟩)) := by
  by_cases h0 : N = 0
  · subst h0
    go_enter Tryd.func33, Tryd.ntmps33
    go_wp2_with fail
    go_loopw [3, 4, 5] (fun o k _ wr => k = .int .i64 0 ∧ o = .slice (some ⟨w.heap.size, 0, none⟩) 0 0 ∧ wr = w.alloc (.cells #[] 5)) (fun _ k _ _ => (100 - intOf k).toNat)
    case atStart => exact ⟨rfl, rfl, rfl⟩
    case round =>
      obtain ⟨rfl, rfl, rfl⟩ := hrel
      go_wp2
      go_ret
      exact ⟨str_eq dec_zero.symm, (Below.refl _ _).alloc (Nat.le_refl _) _⟩
  have hdl := digF_len (u := N) (by omega)
  have hdp := digF_pos h0
  have HNN := Lib.hid hN; clear hN
  go_enter Tryd.func33, Tryd.ntmps33
  go_wp2_with fail
  go_loopw [3, 4, 5] (fun o k _ wr => ∃ (M : Nat) (l : List UInt8), k = .int .i64 ((M : Int)) ∧ M ≤ N ∧ OwnB wr w.heap.size o l ∧ Hid (digF M ++ l = digF N) ∧ Below w.heap.size w wr ∧ w.heap.size ≤ wr.heap.size) (fun _ k _ _ => (intOf k).natAbs)
  case atStart => exact ⟨N, [], rfl, Nat.le_refl _, ownb_empty _ _ (Nat.le_refl _), List.append_nil _, (Below.refl _ _).alloc (Nat.le_refl _) _, by simp⟩
  case round =>
    obtain ⟨M, l, rfl, hM, ho, hl, hbw, hs⟩ := hrel
    have HO := Lib.hid ho; have HB := Lib.hid hbw
    have hll : l.length ≤ 30 := by have := congrArg List.length hl.out; rw [List.length_append] at this; omega
    by_cases hm0 : M = 0
    · subst hm0
      have HL := Lib.hid (show l = digF N from by have := hl.out; rwa [digF_zero, List.nil_append] at this)
      have lp : 0 < l.length := by rw [HL.out]; exact hdp
      rcases ownb_cases ho with ⟨-, e⟩ | ⟨g, cap, rfl, -, -, -, -, hc⟩
      · rw [e] at lp; simp at lp
      have hcv := run_convert_bytes_back (P := Tryd.prog) wr 73 9 5 ⟨g, 0, none⟩ cap l Tryd.underlying73 Tryd.underlying5 Tryd.underlying9 (fun j hj => by rw [Addr.add_lit, Nat.zero_add, hc j hj]; simp [List.getD, hj])
      have ln : ((l.length : Int) == 0) = false := by rw [beq_eq_false_iff_ne]; omega
      clear ho hbw hc hl
      go_wp2_with fail
      go_ret
      exact ⟨str_eq (by rw [HL.out, dec_pos h0]), HB.out⟩
    · obtain ⟨D, hD⟩ : ∃ D, D = M % 10 := ⟨_, rfl⟩
      obtain ⟨Q, hQ⟩ : ∃ Q, Q = M / 10 := ⟨_, rfl⟩
      have hD10 : D < 10 := by omega
      have hQM : Q < M := by omega
      have HN := Lib.hid (show digF Q ++ ([UInt8.ofNat (48 + D)] ++ l) = digF N from by rw [← hl.out, digF_rec hm0, hD, hQ, List.append_assoc])
      have eD : (M : Int) % 10 = (D : Int) := by omega
      have eQ : (M : Int) / 10 = (Q : Int) := by omega
      have eDt : (M : Int).tmod 10 = (D : Int) := by rw [Int.tmod_eq_emod_of_nonneg (by omega)]; exact eD
      have eQt : (M : Int).tdiv 10 = (Q : Int) := by rw [Int.tdiv_eq_ediv_of_nonneg (by omega)]; exact eQ
      have wQ : IntKind.i64.wrap (Q : Int) = (Q : Int) := IntWalk.i64_in _ (by have := HNN.out; omega)
      clear hD hQ ho hl hbw
      have z1 : (((M : Int) : Int) != 0) = true := by simp; omega
      go_wp2_with (at_builtin; refine wp_appsB rfl _ _ rfl (ownb_one wr w.heap.size hs (UInt8.ofNat (48 + D)) _ (dig_u8 D hD10).symm) (ownb_alloc HO.out _) rfl rfl (by simp; omega) (by simp; omega) ?_; intro v' w9 ho' hg'; have hb9 := (HB.out.alloc hs _).grown hg' (by simp; omega) (fun k hk => by simp [Value.ownBlock] at hk; omega); have hs9 := hg'.size; have O9 := Lib.hid ho'; have B9 := Lib.hid hb9; clear ho' hb9 hg')
      go_wp2_with fail
      go_roundw
      case rel => exact ⟨Q, _, by first | rfl | go_num, by omega, O9.out, HN.out, B9.out, by simp at hs9; omega⟩
      case measure => first | (simp [intOf]; done) | (simp [intOf]; omega)
set_option maxHeartbeats 4000000 in
set_option maxRecDepth 100000 in
theorem spec_l01Dec_neg (N : Nat) (w : World) (h0 : ¬ N = 0) (hN : N ≤ 9223372036854775807) :
    Calls Tryd.prog 33 #[.int .i64 (-(N : Int))] w (RetV w (.string ⟨(Lib.itoa (-(N : Int))).toArray⟩)) := by
  have hdl := digF_len (u := N) (by omega)
  have hdp := digF_pos h0
  have HNN := Lib.hid hN; clear hN
  go_enter Tryd.func33, Tryd.ntmps33
  go_wp2_with fail
  go_loopw [3, 4, 5] (fun o k _ wr => ∃ (K : Int) (M : Nat) (l : List UInt8), k = .int .i64 K ∧ Hid (K = -(M : Int)) ∧ M ≤ N ∧ OwnB wr w.heap.size o l ∧ Hid (digF M ++ l = digF N) ∧ Below w.heap.size w wr ∧ w.heap.size ≤ wr.heap.size) (fun _ k _ _ => (intOf k).natAbs)
  case atStart => exact ⟨_, N, [], rfl, rfl, Nat.le_refl _, ownb_empty _ _ (Nat.le_refl _), List.append_nil _, (Below.refl _ _).alloc (Nat.le_refl _) _, by simp⟩
  case round =>
    obtain ⟨K, M, l, rfl, hK, hM, ho, hl, hbw, hs⟩ := hrel
    have HO := Lib.hid ho; have HB := Lib.hid hbw
    have hll : l.length ≤ 30 := by have := congrArg List.length hl.out; rw [List.length_append] at this; omega
    by_cases hm0 : M = 0
    · subst hm0
      obtain rfl : K = 0 := by have := hK.out; omega
      have HL := Lib.hid (show l = digF N from by have := hl.out; rwa [digF_zero, List.nil_append] at this)
      have lp : 0 < l.length := by rw [HL.out]; exact hdp
      rcases ownb_cases ho with ⟨-, e⟩ | ⟨g, cap, rfl, -, -, -, -, hc⟩
      · rw [e] at lp; simp at lp
      have hcv := run_convert_bytes_back (P := Tryd.prog) wr 73 9 5 ⟨g, 0, none⟩ cap l Tryd.underlying73 Tryd.underlying5 Tryd.underlying9 (fun j hj => by rw [Addr.add_lit, Nat.zero_add, hc j hj]; simp [List.getD, hj])
      have ln : ((l.length : Int) == 0) = false := by rw [beq_eq_false_iff_ne]; omega
      clear ho hbw hc hl
      go_wp2_with fail
      go_ret
      exact ⟨str_eq (by rw [HL.out, dec_neg h0]; rfl), HB.out⟩
    · obtain ⟨D, hD⟩ : ∃ D, D = M % 10 := ⟨_, rfl⟩
      obtain ⟨Q, hQ⟩ : ∃ Q, Q = M / 10 := ⟨_, rfl⟩
      have hD10 : D < 10 := by omega
      have hQM : Q < M := by omega
      have HN := Lib.hid (show digF Q ++ ([UInt8.ofNat (48 + D)] ++ l) = digF N from by rw [← hl.out, digF_rec hm0, hD, hQ, List.append_assoc])
      have eD : K.tmod 10 = -(D : Int) := by rw [hK.out, Int.neg_tmod, Int.tmod_eq_emod_of_nonneg (by omega)]; omega
      have eQ : K.tdiv 10 = -(Q : Int) := by rw [hK.out, Int.neg_tdiv, Int.tdiv_eq_ediv_of_nonneg (by omega)]; omega
      have eDD : - -(D : Int) = (D : Int) := by omega
      have wQ : IntKind.i64.wrap (-(Q : Int)) = -(Q : Int) := IntWalk.i64_in _ (by have := HNN.out; omega)
      clear hD hQ ho hl hbw
      have hK0 : K < 0 := by have := hK.out; omega
      have z1 : (K != 0) = true := by simp; omega
      have HK := hK; clear hK
      by_cases hD0 : D = 0
      all_goals (
      go_wp2_with (at_builtin; refine wp_appsB rfl _ _ rfl (ownb_one wr w.heap.size hs (UInt8.ofNat (48 + D)) _ (by have := dig_u8 D hD10; omega)) (ownb_alloc HO.out _) rfl rfl (by simp; omega) (by simp; omega) ?_; intro v' w9 ho' hg'; have hb9 := (HB.out.alloc hs _).grown hg' (by simp; omega) (fun k hk => by simp [Value.ownBlock] at hk; omega); have hs9 := hg'.size; have O9 := Lib.hid ho'; have B9 := Lib.hid hb9; clear ho' hb9 hg')
      go_wp2_with fail
      go_roundw
      case rel => exact ⟨_, Q, _, by first | rfl | go_num, rfl, by omega, O9.out, HN.out, B9.out, by simp at hs9; omega⟩
      case measure => have hk := HK.out; subst hk; first | (simp [intOf]; done) | (simp [intOf]; omega))
theorem spec_l01Dec (n : Int) (w : World) (h0 : -9223372036854775807 ≤ n) (h1 : n ≤ 9223372036854775807) :
    Calls Tryd.prog 33 #[.int .i64 n] w (RetV w (.string ⟨(Lib.itoa n).toArray⟩)) := by
  rcases Int.lt_or_le n 0 with h | h
  · obtain ⟨N, rfl⟩ : ∃ N : Nat, n = -(N : Int) := ⟨n.natAbs, by omega⟩
    exact spec_l01Dec_neg N w (by omega) (by omega)
  · obtain ⟨N, rfl⟩ := Int.eq_ofNat_of_zero_le h
    exact spec_l01Dec_pos N w (by omega)
end Go.Proofs.YtkhjmokjbiepgaaDoor
