/- EngineText of the package: columns in digits, with zeros ahead. -/
import Derived.IntWalk
import Derived.Lib.AppendStr
import Derived.Lib.Join
import Derived.Test.YtkhjmokjbiepgaaDoorEc
import Derived.Test.YtkhjmokjbiepgaaDoorDcm
namespace Go.Proofs.YtkhjmokjbiepgaaDoor
open Go.ChangeShapes Go.WideShapes Go.ChangeAt Go.RowKit
/-- the last W digits of a number -/
def padD : Nat → Nat → List UInt8
  | 0, _ => []
  | W + 1, c => padD W (c / 10) ++ [UInt8.ofNat (48 + c % 10)]
theorem pad_len : ∀ W c : Nat, (padD W c).length = W := by
  intro W
  induction W with
  | zero => intro c; rfl
  | succ W ih => intro c; show (padD W (c / 10) ++ [_]).length = _; rw [List.length_append, ih]; rfl
theorem pad_zero : ∀ W : Nat, padD W 0 = List.replicate W 48 := by
  intro W
  induction W with
  | zero => rfl
  | succ W ih => show padD W (0 / 10) ++ [UInt8.ofNat (48 + 0 % 10)] = _; rw [List.replicate_succ', Nat.zero_div, ih]; rfl
theorem pad_dig : ∀ W c : Nat, c < 10 ^ W → (digF c).length ≤ W ∧ padD W c = List.replicate (W - (digF c).length) 48 ++ digF c := by
  intro W
  induction W with
  | zero => intro c hc; obtain rfl : c = 0 := by simpa using hc
            rw [digF_zero]; exact ⟨Nat.le_refl _, rfl⟩
  | succ W ih =>
    intro c hc
    by_cases h0 : c = 0
    · subst h0; rw [digF_zero, pad_zero]; exact ⟨by simp, by simp⟩
    · have hq : c / 10 < 10 ^ W := by rw [Nat.div_lt_iff_lt_mul (by omega)]; rwa [Nat.pow_succ] at hc
      obtain ⟨i1, i2⟩ := ih _ hq
      rw [digF_rec h0]
      show _ ∧ padD W (c / 10) ++ [UInt8.ofNat (48 + c % 10)] = _
      refine ⟨by simp; omega, ?_⟩
      rw [i2, List.length_append, List.length_singleton, show W + 1 - ((digF (c / 10)).length + 1) = W - (digF (c / 10)).length by omega, List.append_assoc]
theorem pad_itoa {W c : Nat} (hW : 1 ≤ W) (hc : c < 10 ^ W) : (Lib.itoa (c : Int)).length ≤ W ∧ padD W c = List.replicate (W - (Lib.itoa (c : Int)).length) 48 ++ Lib.itoa (c : Int) := by
  by_cases h0 : c = 0
  · subst h0
    rw [show ((0 : Nat) : Int) = 0 from rfl, dec_zero, pad_zero]
    refine ⟨by simpa using hW, ?_⟩
    obtain ⟨V, rfl⟩ : ∃ V, W = V + 1 := ⟨W - 1, by omega⟩
    rw [List.replicate_succ']; rfl
  · rw [dec_pos h0]; exact pad_dig W c hc
theorem ipow_nat : ∀ n : Nat, ipow 10 n = ((10 ^ n : Nat) : Int) := by
  intro n
  induction n with
  | zero => rfl
  | succ n ih => show ipow 10 n * 10 = _; rw [ih, Nat.pow_succ]; simp
def wdE (W : Nat) (c : Int) : List UInt8 := padD W c.toNat
def etF (W : Nat) (xs : List Int) : Nat → List UInt8
  | 0 => []
  | k + 1 => etF W xs k ++ (if k = 0 then [] else [32]) ++ wdE W (nth xs k)
def etR (wd : Int) (xs : List Int) : List UInt8 := if validE wd xs then etF wd.toNat xs xs.length else []
def etW (W : Nat) (xs : List Int) (n : Nat) : List ByteArray := (List.range n).map fun k => ⟨(wdE W (nth xs k)).toArray⟩
theorem etW_len (W : Nat) (xs : List Int) (n : Nat) : (etW W xs n).length = n := by simp [etW]
theorem etW_snoc (W : Nat) (xs : List Int) (n : Nat) : etW W xs (n + 1) = etW W xs n ++ [⟨(wdE W (nth xs n)).toArray⟩] := by unfold etW; rw [List.range_succ, List.map_append]; rfl
theorem join_snoc (ws : List (List UInt8)) (y sep : List UInt8) : Lib.join (ws ++ [y]) sep = Lib.join ws sep ++ (if ws.length = 0 then [] else sep) ++ y := by
  cases ws with
  | nil => simp [Lib.join_one, Lib.join_nil]
  | cons x r =>
    rw [List.cons_append, Lib.join_cons, Lib.join_cons]
    simp [Lib.joinTail, List.append_assoc]
theorem et_join (W : Nat) (xs : List Int) : ∀ n : Nat, Lib.join ((etW W xs n).map (·.data.toList)) [32] = etF W xs n := by
  intro n
  induction n with
  | zero => rfl
  | succ n ih =>
    rw [etW_snoc, List.map_append, List.map_cons, List.map_nil, join_snoc, ih, List.length_map, etW_len]
    rfl
theorem etF_len (W : Nat) (xs : List Int) : ∀ n : Nat, (etF W xs n).length ≤ (W + 1) * n := by
  intro n
  induction n with
  | zero => exact Nat.le_refl _
  | succ n ih =>
    show (etF W xs n ++ _ ++ padD W _).length ≤ _
    rw [List.length_append, List.length_append, pad_len, Nat.mul_succ]
    split <;> simp <;> omega
theorem validE_col {W : Nat} {xs : List Int} (h : validE W xs = true) {k : Nat} (hk : k < xs.length) : 0 ≤ nth xs k ∧ (nth xs k).toNat < 10 ^ W := by
  unfold validE at h
  simp only [Bool.and_eq_true] at h
  have c := inB_iff.1 (all_get h.2.2 hk)
  rw [Int.toNat_natCast, ipow_nat] at c
  omega
theorem str_appE (a b : List UInt8) : (⟨a.toArray⟩ : ByteArray) ++ ⟨b.toArray⟩ = ⟨(a ++ b).toArray⟩ := by rw [ByteArray.mk_append_mk]
def OwnS (w : World) (B : Nat) (v : Value) (ws : List ByteArray) : Prop := w.ownsRow B 9 1 v ws.length (ws.map Value.string)
theorem tinfoS : (Tryd.prog.info? 9).map (fun i => (i.zero, i.size, i.bytes)) = some (some (.string ⟨#[]⟩), 1, 16) := by kernel_rfl
theorem owns_alloc {w : World} {B : Nat} {v : Value} {ws : List ByteArray} (h : OwnS w B v ws) (o : Obj) : OwnS (w.alloc o) B v ws := World.ownsRow.alloc h o
theorem owns_empty (w : World) (B : Nat) (hB : B ≤ w.heap.size) : OwnS (w.alloc (.cells #[] 9)) B (.slice (some ⟨w.heap.size, 0, none⟩) 0 0) [] := World.ownsRow_made w #[] 0 hB (Nat.zero_le _) rfl
theorem owns_keep {w w' : World} {B : Nat} {v : Value} {ws : List ByteArray} (hb : Below w.heap.size w w') (h : OwnS w B v ws) : OwnS w' B v ws := by
  refine ⟨h.1, ?_⟩
  rcases h.2 with hn | ⟨g, cap, cur, hv, hg, hh, r⟩
  · exact .inl hn
  · exact .inr ⟨g, cap, cur, hv, hg, by rw [hb.block g (Array.getElem?_eq_some_iff.1 hh).1]; exact hh, r⟩
theorem owns_at {w : World} {B : Nat} {v : Value} {ws : List ByteArray} (h : OwnS w B v ws) (hl : 0 < ws.length) : ∃ g cap, v = .slice (some ⟨g, 0, none⟩) ws.length cap ∧ g < w.heap.size ∧ ws.length ≤ cap ∧ cap ≤ maxLen ∧
    ∀ i, i < ws.length → w.cell? ⟨g, i, none⟩ = some (.string (ws.getD i ⟨#[]⟩)) := by
  rcases h.2 with ⟨hv, hn⟩ | ⟨g, cap, cur, hv, hg, hh, hnc, hcm, hcs, htake⟩
  · omega
  · refine ⟨g, cap, hv, (Array.getElem?_eq_some_iff.1 hh).1, hnc, hcm, fun i hi => ?_⟩
    have hc := World.ownsRow.cellAt (hv ▸ h) i (by omega)
    rw [hc]
    simp [List.getD, hi]
theorem owns_block_lt {w : World} {B : Nat} {v : Value} {ws : List ByteArray} (h : OwnS w B v ws) : ∀ k, v.ownBlock = some k → B ≤ k ∧ k < w.heap.size := World.ownsRow.lt h
/-- 'append(out, x)', out a row of texts of the call's own -/
theorem wp_appS {w : World} {ops : Array Oper} {rest : List Oper} {o : Oper} {a : Act} {Q : Exit → Act → World → Prop} (hgd : o.guard = none) (s x : Operand)
    (ho : o.op = .call { callee := .builtin .append, args := #[s, x], argTypes := #[49, 49] })
    {B : Nat} {v : Value} {ws : List ByteArray} (n : ByteArray) (g : Nat) (hown : OwnS w B v ws) (hs : a.eval s = v) (hx : a.eval x = .slice (some ⟨g, 0, none⟩) 1 1)
    (hc : w.cell? ⟨g, 0, none⟩ = some (.string n)) (hl : ws.length ≤ 1000000000) (hB : B ≤ w.heap.size)
    (h : ∀ v' w', OwnS w' B v' (ws ++ [n]) → w.grownBy w' v.ownBlock → wpList Tryd.prog ops Q rest (a.put o.dst v') w') : wpList Tryd.prog ops Q (o :: rest) a w := by
  obtain ⟨i0, hi, hz0, hz1, hz2⟩ := info_parts tinfoS
  refine wpList_append_own w hgd s x 49 ho B 9 i0 (.string ⟨#[]⟩) 1 16 Tryd.underlying49 hi hz0 hz1 hz2 rfl (by decide) v ws.length _ hs hown ⟨g, 0, none⟩ 1 1 [.string n] hx rfl ?_ ?_ ?_ ?_ hB ?_
  · intro j u hu
    match j with
    | 0 => simp at hu; subst hu; rw [Addr.add]; exact hc
    | j + 1 => simp at hu
  · intro u hu; simp at hu; subst hu; rfl
  · unfold maxLen; omega
  · omega
  · intro v' w' h1 h2 _
    exact h v' w' (by unfold OwnS; rw [List.length_append, List.map_append]; exact h1) h2
theorem byte_app {w' : World} {B : Nat} {v' : Value} {l : List UInt8} {s : ByteArray} (h : w'.ownsRow B 5 1 v' (l.length + s.size) (Lib.byteCells l ++ Lib.strCells s)) : OwnB w' B v' (l ++ s.data.toList) := by
  unfold OwnB
  rw [List.length_append, show Lib.byteCells (l ++ s.data.toList) = Lib.byteCells l ++ Lib.strCells s from by simp [Lib.byteCells, Lib.strCells], Array.length_toList]
  exact h
set_option maxHeartbeats 1000000 in
set_option maxRecDepth 100000 in
theorem impl_repeat (n : Nat) (w : World) (hn : n ≤ 100) :
    Calls Tryd.prog 41 #[.string ⟨#[48]⟩, .int .i64 n] w (RetV w (.string ⟨(List.replicate n 48).toArray⟩)) := by
  obtain ⟨i0, hi, hz0, hz1, hz2⟩ := info_parts tinfoB
  have mx : max (n : Int) 0 = (n : Int) := by omega
  go_enter Tryd.func41, Tryd.ntmps41
  go_wp2_with fail
  go_loopw [5, 9] (fun o k wr => ∃ j : Nat, k = .int .i64 j ∧ j ≤ n ∧ OwnB wr w.heap.size o (List.replicate j 48) ∧ Hid (o ≠ .slice none 0 0) ∧ Below w.heap.size w wr ∧ w.heap.size ≤ wr.heap.size) (fun _ k _ => n - (intOf k).toNat)
  case atStart => exact ⟨0, rfl, Nat.zero_le _, ownb_empty _ _ (Nat.le_refl _), (fun e => by cases e), (Below.refl _ _).alloc (Nat.le_refl _) _, by simp⟩
  case round =>
    obtain ⟨j, rfl, hj, ho, hnn, hbw, hs⟩ := hrel
    have HO := Lib.hid ho; have HB := Lib.hid hbw; have HLT := Lib.hid (ownb_block_lt ho); clear hbw
    by_cases hlt : j < n
    · clear ho
      have ll : (List.replicate j (48 : UInt8)).length ≤ 100 := by simp; omega
      have HR := Lib.hid (show List.replicate (j + 1) (48 : UInt8) = List.replicate j 48 ++ [48] from List.replicate_succ')
      generalize List.replicate j (48 : UInt8) = l at *
      go_wp2_with (at_builtin; refine Lib.wpList_append_own_string _ rfl _ _ 73 9 rfl w.heap.size 5 i0 Tryd.underlying73 Tryd.underlying9 hi hz0 hz1 hz2 _ l.length (Lib.byteCells l) rfl HO.out ⟨#[48]⟩ rfl (by simp [maxLen, ByteArray.size]; omega) (by simp [ByteArray.size]; omega) hs ?_; intro v' w9 ho' hg' hx; have NN := Lib.hid (show v' ≠ .slice none 0 0 from fun e => absurd (hx.1 e).2 (by decide)); clear hx; have hb9 := HB.out.grown hg' hs (fun k hk => (HLT.out k hk).1); have hs9 := hg'.size; have O9 := Lib.hid (byte_app ho'); have B9 := Lib.hid hb9; clear ho' hb9 hg')
      go_wp2_with fail
      go_roundw
      case rel => exact ⟨j + 1, by first | rfl | go_num, by omega, by rw [HR.out]; exact O9.out, NN.out, B9.out, by omega⟩
      case measure => first | (simp [intOf]; done) | (simp [intOf]; omega)
    · obtain rfl : j = n := by omega
      have HL := Lib.hid (show (List.replicate j (48 : UInt8)).length = j from by simp)
      generalize List.replicate j (48 : UInt8) = l at *
      rcases ownb_cases ho with ⟨rfl, -⟩ | ⟨g, cap, rfl, -, -, -, -, hc⟩
      · exact absurd rfl hnn.out
      · have hcv := run_convert_bytes_back (P := Tryd.prog) wr 73 9 5 ⟨g, 0, none⟩ cap l Tryd.underlying73 Tryd.underlying5 Tryd.underlying9 (fun j hj => by rw [Addr.add_lit, Nat.zero_add, hc j hj]; simp [List.getD, hj])
        clear ho hc
        go_wp2_with fail
        go_ret
        exact ⟨rfl, HB.out⟩
set_option maxHeartbeats 2000000 in
theorem impl_EngineText {B : Nat} {v : Value} {xs : List Int} (wd : Int) (w : World) (h : Own w B v xs) (hlen : xs.length ≤ 1048576) (hT : TabW w) :
    Calls Tryd.prog 21 #[.agg #[.int .i64 wd, v]] w (RetV w (.string ⟨(etR wd xs).toArray⟩)) := by
  have HO := Lib.hid h
  obtain ⟨a1, cp1, rfl, m1, q1⟩ := own_form h
  have QQ := Lib.hid q1; clear q1 h
  have HT := Lib.hid hT; clear hT
  cases hv : validE wd xs
  · have HR := Lib.hid (show etR wd xs = [] from by simp [etR, hv])
    have HV := Lib.hid hv; clear hv
    go_enter Tryd.func21, Tryd.ntmps21
    go_wp2_with fail
    refine (impl_ValidEngine wd _ (own_alloc HO.out _) hlen).mono ?_; rintro e w1 ⟨rfl, b1⟩; rw [HV.out]
    have BW := Lib.hid (blk1 b1).2.1; clear b1
    go_wp2_with fail
    go_ret
    exact ⟨str_eq HR.out.symm, BW.out⟩
  obtain ⟨d1, d2, d3, d4, -⟩ := validE_parts hv
  obtain ⟨W, rfl⟩ := Int.eq_ofNat_of_zero_le (show 0 ≤ wd by omega)
  have HR := Lib.hid (show etR (W : Int) xs = etF W xs xs.length from by simp [etR, hv])
  have HC := Lib.hid (fun k (hk : k < xs.length) => validE_col hv hk)
  have HV := Lib.hid hv; clear hv
  have hN : xs.length ≤ 9 := by omega
  have hW1 : 1 ≤ W := by omega
  have hW2 : W ≤ 12 := by omega
  go_enter Tryd.func21, Tryd.ntmps21
  go_wp2_with fail
  refine (impl_ValidEngine (W : Int) _ (own_alloc HO.out _) hlen).mono ?_; rintro e w1 ⟨rfl, b1⟩; rw [HV.out]
  obtain ⟨y1, bw, s1, -⟩ := blk1 b1
  have Z0 := Lib.hid (cell_blk y1 0); have Z1 := Lib.hid (cell_blk y1 1)
  have z0 := Z0.out; have z1 := Z1.out
  have lt0 : w.heap.size < w1.heap.size := by omega
  have BW := Lib.hid bw
  have HT1 := Lib.hid (tab_keep HT.out bw)
  clear b1 bw y1
  go_wp2_with fail
  clear z0 z1
  go_loopw [3, 5, 6, 14] (fun o _ _ k wr => ∃ j : Nat, j ≤ xs.length ∧ k = .int .i64 j ∧ OwnS wr w1.heap.size o (etW W xs j) ∧ Below w1.heap.size w1 wr ∧ w1.heap.size ≤ wr.heap.size) (fun _ _ _ k _ => xs.length - (intOf k).toNat)
  case atStart => exact ⟨0, by omega, rfl, owns_empty _ _ (Nat.le_refl _), (Below.refl _ _).alloc (Nat.le_refl _) _, by simp⟩
  case round =>
    obtain ⟨j, hj, rfl, ho, hbw, hs⟩ := hrel
    have HB := Lib.hid hbw; have HOS := Lib.hid ho
    by_cases hlt : j < xs.length
    · have z0 := (hbw.cell lt0).trans Z0.out
      have ltr : w.heap.size < wr.heap.size := Nat.lt_of_lt_of_le lt0 hbw.size
      obtain ⟨g, rfl, qc⟩ := QQ.out j hlt
      have gl0 : g < w.heap.size := World.block_lt_of_cell? w _ qc
      have gl1 : g < w1.heap.size := by omega
      have q2 := (HB.out.cell (p := ⟨g, j, none⟩) gl1).trans ((BW.out.cell (p := ⟨g, j, none⟩) gl0).trans qc)
      obtain ⟨c0, c1⟩ := HC.out j hlt
      obtain ⟨C, hC⟩ := Int.eq_ofNat_of_zero_le c0
      rw [hC, Int.toNat_natCast] at c1
      have c2 : C < 10 ^ 12 := Nat.lt_of_lt_of_le c1 (Nat.pow_le_pow_right (by omega) hW2)
      have c3 : C < 1000000000000 := by simpa using c2
      obtain ⟨p1, p2⟩ := pad_itoa hW1 c1
      have HN := Lib.hid (show etW W xs j ++ [⟨(List.replicate (W - (Lib.itoa (C : Int)).length) 48 ++ Lib.itoa (C : Int)).toArray⟩] = etW W xs (j + 1) from by rw [etW_snoc, ← p2]; unfold wdE; rw [hC, Int.toNat_natCast])
      have hll := etW_len W xs j
      have i0 : (0 : Int) ≤ (j : Int) := by omega
      have i1 : (j : Int) < (xs.length : Int) := by omega
      rw [hC] at q2
      have lw : (etW W xs j).length ≤ 9 := by omega
      generalize etW W xs j = ws at *
      clear hC c0 c1 c2 p2 qc hbw ho hll
      go_wp2_with fail
      refine (impl_Decimal (C : Int) _ (by omega) (by omega) (tab_keep HT1.out HB.out)).mono ?_; rintro e w2 ⟨rfl, b2⟩
      have z0' := (b2.cell ltr).trans z0
      have B2 := Lib.hid (Below.trans_size HB.out b2); have O2 := Lib.hid (owns_keep b2 HOS.out); have s2 := b2.size
      clear b2 z0 q2
      have z0 := z0'; clear z0'
      generalize Lib.itoa (C : Int) = D at *
      obtain ⟨K, hK⟩ : ∃ K, W = D.length + K := ⟨W - D.length, by omega⟩
      have eK : (W : Int) - (D.length : Int) = (K : Int) := by omega
      have wK : IntKind.i64.wrap ((W : Int) - (D.length : Int)) = (K : Int) := by rw [eK]; exact IntWalk.i64_in _ (by omega)
      rw [show W - D.length = K by omega] at HN
      have hK9 : K ≤ 100 := by omega
      have IR := Lib.hid (fun wx => impl_repeat K wx hK9)
      clear hK
      go_wp2_with fail
      refine (IR.out _).mono ?_; rintro e w3 ⟨rfl, b3⟩
      have B3 := Lib.hid (Below.trans_size B2.out b3); have O3 := Lib.hid (owns_keep b3 O2.out); have s3 := b3.size
      have lk : (List.replicate K (48 : UInt8)).length = K := by simp
      have lR : ¬ (9223372036854775807 < (List.replicate K (48 : UInt8)).length + D.length) := by omega
      have HLT := Lib.hid (owns_block_lt O3.out)
      have hs3 : w1.heap.size ≤ w3.heap.size := by omega
      clear b3 z0
      generalize List.replicate K (48 : UInt8) = R at *
      go_wp2_with (at_builtin; refine wp_appS rfl _ _ rfl _ _ (owns_alloc O3.out _) rfl rfl (by simp; rfl) (by omega) (by simp; omega) ?_; intro v' w9 ho' hg'; have hb9 := (B3.out.alloc hs3 _).grown hg' (by simp; omega) (fun k hk => (HLT.out k hk).1); have hs9 := hg'.size; have O9 := Lib.hid ho'; have B9 := Lib.hid hb9; clear ho' hb9 hg')
      go_wp2_with fail
      go_roundw
      case rel => exact ⟨j + 1, by omega, by go_num, by rw [← HN.out, ← str_appE]; exact O9.out, B9.out, by simp at hs9; omega⟩
      case measure => simp [intOf]; omega
    · obtain rfl : j = xs.length := by omega
      obtain ⟨g, cap, rfl, gl, hcap, -, hcell⟩ := owns_at ho (by rw [etW_len]; omega)
      have hj2 := et_join W xs xs.length
      have hl2 := etF_len W xs xs.length
      have hl3 : (W + 1) * xs.length ≤ 13 * 9 := Nat.mul_le_mul (by omega) hN
      rw [etW_len] at hcap
      have J := Lib.hid (Tryd.strings_Join g 0 cap (etW W xs xs.length) ⟨#[32]⟩ wr (fun j x hx => by have hj := (List.getElem?_eq_some_iff.1 hx).1; rw [Nat.zero_add, hcell j hj]; simp [List.getD, hx]) gl (by rw [etW_len]; omega) (by rw [etW_len]; exact hcap) (by show (Lib.join _ [32]).length ≤ _; rw [hj2]; omega))
      rw [show (⟨#[32]⟩ : ByteArray).data.toList = [32] from rfl, hj2, etW_len] at J
      rw [etW_len]
      clear ho hbw hcell hj2
      go_wp2_with fail
      refine J.out.mono ?_; rintro e w2 ⟨rfl, b2⟩
      have B2 := Lib.hid (Below.trans_size BW.out (Below.trans_size HB.out b2)); clear b2
      go_wp2_with fail
      go_ret
      exact ⟨str_eq HR.out.symm, B2.out⟩
end Go.Proofs.YtkhjmokjbiepgaaDoor
