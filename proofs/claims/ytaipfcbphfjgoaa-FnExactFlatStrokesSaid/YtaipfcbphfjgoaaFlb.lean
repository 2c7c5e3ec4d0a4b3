/- flat of the program: the strokes of a balanced range, as a slice of the call's own. -/
import Derived.IntWalk
import Derived.Deep.RegionHeld3
import Derived.Maps.AppendAt
import Derived.Test.YtaipfcbphfjgoaaFlc
import Derived.Test.YtaipfcbphfjgoaaInts
namespace Go.Proofs.Ytaipfcbphfjgoaa
open Go.ChangeShapes Go.WideShapes Go.ChangeAt Go.RowKit
/-- behind an append: the new slice lies where the old one lay, or in a new block -/
def Loc (v v' : Value) (n : Nat) : Prop := v'.ownBlock = v.ownBlock ∨ v'.ownBlock = some n
theorem loc_apart {x v v' : Value} {n : Nat} (h : Loc v v' n) (ha : Apart x v) (hx : ∀ k, x.ownBlock = some k → k < n) : Apart x v' := by
  intro k hk e
  rcases h with h | h
  · exact ha k hk (by rw [← h]; exact e)
  · rw [h] at e
    have := hx k hk
    injection e with e
    omega
theorem loc_some {v v' : Value} {n g : Nat} (hloc : Loc v v' n) (h : v.ownBlock ≠ some g) (hg : g < n) : v'.ownBlock ≠ some g := by
  intro h5
  rcases hloc with e | e
  · exact h (by rw [← e, h5])
  · rw [e] at h5; injection h5 with h5; omega
/-- 'append(out, xs...)', both owned; where the new slice lies -/
theorem wp_apps_at {w : World} {ops : Array Oper} {rest : List Oper} {o : Oper} {a : Act} {Q : Exit → Act → World → Prop} (hgd : o.guard = none) (s x : Operand)
    (ho : o.op = .call { callee := .builtin .append, args := #[s, x], argTypes := #[32, 32] })
    {B B2 : Nat} {v u : Value} {zs xs : List Int} (hown : Own w B v zs) (hsrc : Own w B2 u xs) (hs : a.eval s = v) (hx : a.eval x = u)
    (hl : zs.length + xs.length ≤ 1000000000) (hB : B ≤ w.heap.size)
    (h : ∀ v' w', Own w' B v' (zs ++ xs) → w.grownBy w' v.ownBlock → Loc v v' w.heap.size → wpList Try.prog ops Q rest (a.put o.dst v') w') : wpList Try.prog ops Q (o :: rest) a w := by
  obtain ⟨i0, hi, hz0, hz1, hz2⟩ := info_parts tinfo
  rcases own_cases hsrc with ⟨rfl, rfl⟩ | ⟨g, cap, rfl, _, _, hc1, hc2, hcell, _⟩
  · refine wpList_plain hgd fun K hK' => ?_
    have hrun := run_append_owned_none (P := Try.prog) w B 32 o.type 2 i0 1 Try.underlying32 hi v zs.length _ hown
    unfold Oper.wp
    simp [execOp, ho, resolve, invoke, builtin, hs, hx, hrun, Result.andThen]
    exact hK' _ _ (h v w (by rw [List.append_nil]; exact hown) (World.grownBy.refl _ _) (.inl rfl))
  · refine wpList_append_own_at w hgd s x 32 ho B 2 i0 (.int .i64 0) 1 8 Try.underlying32 hi hz0 hz1 hz2 rfl (by decide) v zs.length _ hs hown ⟨g, 0, none⟩ xs.length cap (xs.map (Value.int .i64)) hx (by simp) ?_ (ints_oneCell _ _) ?_ ?_ hB ?_
    · intro j u hu
      have hj : j < xs.length := by
        have := (List.getElem?_eq_some_iff.1 hu).1; simpa using this
      rw [Addr.add_lit, Nat.zero_add, hcell j hj]
      rw [← hu]; simp [nth, List.getD, hj]
    · unfold maxLen; omega
    · omega
    · intro v' w' h1 h2 _ h4
      exact h v' w' (by unfold Own; rw [List.length_append, List.map_append]; exact h1) h2 h4
theorem step_app_loc {w : World} {ops : Array Oper} {o : Oper} {a : Act} {K : Act → World → Prop} {Q : Exit → Act → World → Prop} {E : Prop} (hgd : o.guard = none) (s x : Operand)
    (ho : o.op = .call { callee := .builtin .append, args := #[s, x], argTypes := #[32, 32] })
    {B : Nat} {v : Value} {zs : List Int} (n : Int) (g : Nat) (hown : Own w B v zs) (hs : a.eval s = v) (hx : a.eval x = .slice (some ⟨g, 0, none⟩) 1 1)
    (hc : w.cell? ⟨g, 0, none⟩ = some (.int .i64 n)) (hl : zs.length ≤ 1000000000) (hB : B ≤ w.heap.size)
    (h : ∀ v' w', Own w' B v' (zs ++ [n]) → w.grownBy w' v.ownBlock → Loc v v' w.heap.size → K (a.put o.dst v') w') : if Region.wanted o (yielded ops a.tmps) = true then Oper.wp Try.prog o a w K Q else E := by
  have hw : Region.wanted o (yielded ops a.tmps) = true := by simp [Region.wanted, hgd]
  rw [if_pos hw]
  obtain ⟨i0, hi, hz0, hz1, hz2⟩ := info_parts tinfo
  obtain ⟨v', w', hr, h2, h3, h4, h5⟩ := run_append_own_at (P := Try.prog) w B 32 o.type 2 i0 (.int .i64 0) 1 8 Try.underlying32 hi hz0 hz1 hz2 rfl (by decide) v zs.length _ hown ⟨g, 0, none⟩ 1 1 [.int .i64 n] rfl
    (fun j u hu => by
      match j with
      | 0 => simp at hu; subst hu; rw [Addr.add]; exact hc
      | j + 1 => simp at hu)
    (fun u hu => by simp at hu; subst hu; rfl) (by unfold maxLen; omega) (by omega) hB
  unfold Oper.wp execOp
  simp only [ho, resolve, invoke, builtin, Sem.run_bind, Sem.run_pure, Result.andThen_ok, List.map_toArray, List.map_cons, List.map_nil, hs, hx, hr]
  exact h _ _ (by unfold Own; rw [List.length_append, List.map_append]; exact h2) h3 h5
theorem wp_app_loc {w : World} {ops : Array Oper} {rest : List Oper} {o : Oper} {a : Act} {Q : Exit → Act → World → Prop} (hgd : o.guard = none) (s x : Operand)
    (ho : o.op = .call { callee := .builtin .append, args := #[s, x], argTypes := #[32, 32] })
    {B : Nat} {v : Value} {zs : List Int} (n : Int) (g : Nat) (hown : Own w B v zs) (hs : a.eval s = v) (hx : a.eval x = .slice (some ⟨g, 0, none⟩) 1 1)
    (hc : w.cell? ⟨g, 0, none⟩ = some (.int .i64 n)) (hl : zs.length ≤ 1000000000) (hB : B ≤ w.heap.size)
    (h : ∀ v' w', Own w' B v' (zs ++ [n]) → w.grownBy w' v.ownBlock → Loc v v' w.heap.size → wpList Try.prog ops Q rest (a.put o.dst v') w') : wpList Try.prog ops Q (o :: rest) a w := by
  obtain ⟨i0, hi, hz0, hz1, hz2⟩ := info_parts tinfo
  refine wpList_append_own_at w hgd s x 32 ho B 2 i0 (.int .i64 0) 1 8 Try.underlying32 hi hz0 hz1 hz2 rfl (by decide) v zs.length _ hs hown ⟨g, 0, none⟩ 1 1 [.int .i64 n] hx rfl ?_ ?_ ?_ ?_ hB ?_
  · intro j u hu
    match j with
    | 0 => simp at hu; subst hu; rw [Addr.add]; exact hc
    | j + 1 => simp at hu
  · intro u hu; simp at hu; subst hu; rfl
  · unfold maxLen; omega
  · omega
  · intro v' w' h1 h2 _ h4
    exact h v' w' (by unfold Own; rw [List.length_append, List.map_append]; exact h1) h2 h4
theorem heap_keep_grown {w w' : World} {o O : Obj} {n : Nat} {row : Option Nat} (hg : (w.alloc o).grownBy w' row) (h : w.heap[n]? = some O) (hne : row ≠ some n) : w'.heap[n]? = some O := by
  have hn : n < w.heap.size := (Array.getElem?_eq_some_iff.1 h).1
  rw [hg.block n (by simp; omega) (Ne.symm hne), Below.heap_alloc _ _ _ hn]; exact h
theorem rep_zero (l : List Int) : rep 0 l = [] := by simp [rep]
theorem rep_succ (k : Nat) (l : List Int) : rep ((k : Int) + 1) l = rep k l ++ l := by
  unfold rep
  rw [show ((k : Int) + 1).toNat = k + 1 by omega, show ((k : Int)).toNat = k by omega, List.replicate_succ', List.flatten_append]
  simp
theorem rep_le {k n : Nat} {l : List Int} (h : k ≤ n) : (rep k l).length ≤ (rep n l).length := by
  rw [rep_len, rep_len]
  exact Nat.mul_le_mul_right _ (by omega)
theorem recr_below_keep {w wr : World} {B K n : Nat} {v : Value} {zs : List Int} (hb : Below K w wr) (hK : w.heap.size = K) (h : OwnR w B v n zs) : OwnR wr B v n zs := by subst hK; exact recr_keep hb h
set_option maxHeartbeats 8000000 in
theorem impl_flat {n : Nat} {zs : List Int} (hv : validP zs = true) (hsb : noSB zs n) : ∀ (s a e : Nat) (d : Int) {B : Nat} {u : Value} (w : World), e - a ≤ s → OwnR w B u n zs → Bal zs n a e d → 0 ≤ d → d ≤ 4 → (flatR zs a e).length ≤ 3000 →
    Calls Try.prog 51 #[u, .int .i64 a, .int .i64 e] w (RetOwn w (flatR zs a e)) := by
  intro s
  induction s with
  | zero =>
    intro a e d B u w h0 ho hb hd0 hd4 hlen
    have hz := recr_len ho
    obtain rfl : a = e := by have := hb.1; omega
    rw [flatR_end]
    have hen := hb.2.1
    have h120 := (valid_parts hz hv).2.2.1
    obtain ⟨a1, c1, rfl, m1, q1⟩ := recr_form ho
    clear q1 ho hb hlen
    go_enter Try.func51, Try.ntmps51
    go_wp2_with fail
    go_loop [7, 8] (fun nn ii => nn = .slice (some ⟨w.heap.size, 0, none⟩) 0 0 ∧ ii = .int .i64 a) (fun _ ii => 1)
    case atStart => exact ⟨rfl, rfl⟩
    case round =>
      obtain ⟨rfl, rfl⟩ := hrel
      go_wp2_with fail
      go_ret
      exact ⟨_, rfl, own_empty _ _ (Nat.le_refl _), (Below.refl _ _).alloc (Nat.le_refl _) _⟩
  | succ s ih =>
    intro a e d B u w h0 ho hb hd0 hd4 hlen
    have hz := recr_len ho
    have IH := Lib.hid @ih
    have HV := Lib.hid hv; have HSB := Lib.hid hsb
    have hen := hb.2.1
    have hae := hb.1
    obtain ⟨v1, v2, v3, v4⟩ := valid_parts hz hv
    have V1 := Lib.hid v1
    have HB0 := Lib.hid hb
    have HO := Lib.hid ho
    obtain ⟨a1, c1, rfl, m1, q1⟩ := recr_form ho
    have Q1 := Lib.hid q1
    clear q1 ho ih v1 v2 v4 hv hsb hb
    generalize hT : flatR zs a e = T at *
    have HT := Lib.hid hT; clear hT
    go_enter Try.func51, Try.ntmps51
    go_wp2_with fail
    go_loopw [7, 8, 9, 10, 11] (fun vv ii _ _ _ wr => ∃ (j : Nat) (l : List Int) (v : Value), vv = v ∧ a ≤ j ∧ j ≤ e ∧ ii = .int .i64 j ∧ Own wr w.heap.size v l ∧ Hid (l ++ flatR zs j e = T) ∧ Hid (Bal zs n j e d) ∧ Below w.heap.size w wr ∧ w.heap.size ≤ wr.heap.size) (fun _ ii _ _ _ _ => e - (intOf ii).toNat)
    case atStart => exact ⟨a, [], _, rfl, Nat.le_refl _, hae, rfl, own_empty _ _ (Nat.le_refl _), Lib.hid (by rw [List.nil_append]; exact HT.out), HB0, (Below.refl _ _).alloc (Nat.le_refl _) _, by simp⟩
    case round =>
      obtain ⟨j, l, v, rfl, haj, hje, rfl, ho, hX, hbal, hbw, hs⟩ := hrel
      have HBW := Lib.hid hbw
      have HOL := Lib.hid ho
      obtain ⟨ao, capo, rfl, -, -⟩ := own_form ho
      clear ho
      generalize hL : l.length = L at *
      by_cases hlt : j < e
      · obtain ⟨g, rfl, x0, x1⟩ := Q1.out j (by omega)
        have gl : g < w.heap.size := World.block_lt_of_cell? w _ x0
        have r0 := (hbw.cell gl).trans x0
        have r1 := (hbw.cell (World.block_lt_of_cell? w _ x1)).trans x1
        have gl2 : g < wr.heap.size := by omega
        have OW := Lib.hid (recr_keep hbw HO.out)
        clear x0 x1 hbw
        by_cases h8 : opA zs j = 8
        · have fl := flatR_loop hz HV.out HSB.out hbal.out hlt h8
          obtain ⟨bm1, bm2, bm3, bm4⟩ := bal_loop hz HV.out hbal.out hlt h8
          have okp := ok_parts hz HV.out HSB.out (show j < n by omega) (by rw [h8]; decide)
          have hd5 : d + 1 ≤ 4 := by
            have := (V1.out (j + 1) (by omega)).2.2
            have := bm3.2.2.1
            omega
          have HOPN := Lib.hid (show opensB (nth zs (j * 2)) = true from by show (opA zs j == 8 || opA zs j == 9) = true; rw [h8]; rfl)
          have hX' := hX.out
          rw [fl] at hX'
          have hr : 1 ≤ argA zs j ∧ argA zs j ≤ 100 := by rcases okp with h | h | h <;> omega
          obtain ⟨A, hA⟩ := Int.eq_ofNat_of_zero_le (show 0 ≤ argA zs j by omega)
          have r1' : wr.cell? ⟨g, j * 2 + 1, none⟩ = some (.int .i64 (A : Int)) := by rw [← hA]; exact r1
          have r0' : wr.cell? ⟨g, j * 2, none⟩ = some (.int .i64 8) := by rw [← h8]; exact r0
          rw [hA] at hX'
          have hlX := congrArg List.length hX'
          rw [List.length_append, List.length_append, rep_len, Int.toNat_natCast, hL] at hlX
          have hin : (flatR zs (j + 1) (mtch zs j)).length ≤ 3000 := by
            have := Nat.mul_le_mul_right (flatR zs (j + 1) (mtch zs j)).length (show 1 ≤ A by omega)
            omega
          have MM := Lib.hid (fun wx (h : OwnR wx B (.slice (some ⟨g, 0, none⟩) n c1) n zs) => impl_matchOf j wx h HV.out (show j < n by omega) HOPN.out)
          have FF := Lib.hid (fun wx (h : OwnR wx B (.slice (some ⟨g, 0, none⟩) n c1) n zs) => IH.out (j + 1) (mtch zs j) (d + 1) wx (by omega) h bm3 (by omega) hd5 hin)
          have HBM := Lib.hid bm4
          generalize flatR zs (j + 1) (mtch zs j) = xs at *
          generalize hY : flatR zs (mtch zs j + 1) e = Y at *
          have HY := Lib.hid hY; clear hY
          generalize mtch zs j = m at *
          have hA100 : A ≤ 100 := by omega
          have HX2 := Lib.hid hX'
          have wj : IntKind.i64.wrap ((j : Int) + 1) = (j : Int) + 1 := IntWalk.i64_in _ (by omega)
          have bdk : ∀ k, k ≤ A → L + (rep k xs).length ≤ 3000 := by
            intro k hk
            have h1 := rep_le (l := xs) hk
            rw [rep_len A, Int.toNat_natCast] at h1
            omega
          have BDK := Lib.hid bdk
          clear r0 r1 hX hbal fl bm3 bm4 okp h8 hA hX' hr hlX bdk
          go_wp2_with fail
          refine (MM.out _ (recr_alloc OW.out _)).mono ?_; rintro e9 w1 ⟨rfl, b1⟩
          obtain ⟨y0, bw1, s1, -⟩ := blk1 b1
          have c0 := cell_blk y0 0; have c1' := cell_blk y0 1
          have lt1 : wr.heap.size < w1.heap.size := by omega
          have BX := Lib.hid (Below.trans_size HBW.out bw1)
          have O1 := Lib.hid (recr_keep b1 (recr_alloc OW.out _))
          have L1 := Lib.hid (own_keep b1 (own_alloc HOL.out _))
          clear b1 bw1 y0
          go_wp2_with fail
          refine (FF.out _ O1.out).mono ?_; rintro e9 w2 ⟨u2, rfl, ho2, b2⟩
          have z1 := (b2.cell (World.block_lt_of_cell? w1 _ c1')).trans c1'
          have B2 := Lib.hid (Below.trans_size BX.out b2)
          have s2 := B2.out.size
          have L2 := Lib.hid (own_keep b2 L1.out)
          have AP := Lib.hid (apart_new L1.out ho2 (Nat.le_refl _))
          have O2 := Lib.hid ho2
          obtain ⟨a2, cap2, rfl, -, -⟩ := own_form ho2
          have hgx : wr.heap.size < w2.heap.size := by have := b2.size; omega
          have XB := Lib.hid (own_block_lt L2.out)
          clear b2 ho2
          generalize hxl : xs.length = XL at *
          go_wp2_with fail
          go_loopw [7, 36] (fun vv kk wi => ∃ (k : Nat) (l' : List Int) (v' : Value), vv = v' ∧ k ≤ A ∧ kk = .int .i64 k ∧ Hid (Own wi w.heap.size v' l') ∧ Hid (l' = l ++ rep k xs) ∧ Hid (Own wi w1.heap.size (.slice a2 XL cap2) xs) ∧ Hid (Apart (.slice a2 XL cap2) v') ∧ Hid (Below w.heap.size w wi) ∧ w.heap.size ≤ wi.heap.size) (fun _ kk _ => A - (intOf kk).toNat)
          case atStart => exact ⟨0, l, _, rfl, Nat.zero_le _, rfl, L2, Lib.hid (by rw [show ((0 : Nat) : Int) = 0 from rfl, rep_zero, List.append_nil]), O2, AP, B2, s2⟩
          case round =>
            obtain ⟨k, l', v', rfl, hk, rfl, HI1, HI2, HI3, HI4, HI5, hsi⟩ := hrel
            by_cases hkA : k < A
            · have hb1 := BDK.out k hk
              have hl' : l'.length = L + (rep k xs).length := by rw [HI2.out, List.length_append, hL]
              have hb2 := BDK.out (k + 1) hkA
              rw [rep_len, hxl, show ((k + 1 : Nat) : Int).toNat = k + 1 by omega, Nat.add_mul, Nat.one_mul] at hb2
              rw [rep_len, hxl, Int.toNat_natCast] at hl'
              have hsum : l'.length + xs.length ≤ 1000000000 := by rw [hl', hxl]; omega
              have HS := Lib.hid hsum
              have HNX := Lib.hid (show l' ++ xs = l ++ rep ((k + 1 : Nat) : Int) xs from by rw [HI2.out, show ((k + 1 : Nat) : Int) = (k : Int) + 1 by omega, rep_succ, List.append_assoc])
              clear hb1 hb2 hl' hsum
              obtain ⟨a3, cap3, rfl, -, -⟩ := own_form HI1.out
              generalize hL3 : l'.length = L3 at *
              go_wp2_with (at_builtin; refine wp_apps_at rfl _ _ rfl HI1.out HI3.out rfl rfl (by rw [hL3]; exact HS.out) (by omega) ?_; intro v5 w5 ho5 hg5 hloc5)
              have O5 := Lib.hid ho5
              have B5 := Lib.hid (grown_below HI5.out HI1.out hg5 (Nat.le_refl _) hsi)
              have X5 := Lib.hid (apart_grown HI3.out hg5 HI4.out)
              have A5 := Lib.hid (loc_apart hloc5 HI4.out (fun k hk => (own_block_lt HI3.out k hk).2))
              have s5 := hg5.size
              clear ho5 hg5 hloc5
              go_wp2_with fail
              go_roundw
              case rel => exact ⟨k + 1, _, _, rfl, by omega, by go_num, O5, HNX, X5, A5, B5, by omega⟩
              case measure => first | (simp [intOf]; done) | (simp [intOf]; omega)
            · obtain rfl : k = A := by omega
              obtain ⟨a3, cap3, rfl, -, -⟩ := own_form HI1.out
              generalize hL3 : l'.length = L3 at *
              go_wp2_with fail
              go_roundw
              case rel => exact ⟨m + 1, l', _, rfl, by omega, by omega, by go_num, HI1.out, Lib.hid (by rw [HI2.out, HY.out, List.append_assoc]; exact HX2.out), HBM, HI5.out, hsi⟩
              case measure => first | (simp [intOf]; done) | (simp [intOf]; omega)
        · obtain ⟨h10, pb⟩ := bal_plain hz HV.out HSB.out hbal.out hlt h8
          have fl := flatR_plain hz HV.out HSB.out hbal.out hlt h8
          have okp := ok_parts hz HV.out HSB.out (show j < n by omega) h10
          have hX' := hX.out
          rw [fl] at hX'
          have PB := Lib.hid pb
          obtain ⟨A, hA⟩ := Int.eq_ofNat_of_zero_le (show 0 ≤ argA zs j by rcases okp with h | h | h <;> omega)
          have hA100 : A ≤ 100 := by rcases okp with h | h | h <;> omega
          have hop : 2 ≤ opA zs j ∧ opA zs j ≤ 8 := by rcases okp with h | h | h <;> omega
          rw [hA] at hX'
          obtain ⟨M, hM, hM1, hM2⟩ : ∃ M : Nat, imax 1 (A : Int) = (M : Int) ∧ 1 ≤ M ∧ M ≤ 100 := by
            have h1 := imax_ge 1 (A : Int)
            obtain ⟨M, hM⟩ := Int.eq_ofNat_of_zero_le (show 0 ≤ imax 1 (A : Int) by omega)
            exact ⟨M, hM, by omega, by rcases h1.2.2 with h | h <;> omega⟩
          have hmx : imax 1 (A : Int) = (M : Int) := hM
          rw [hM] at hX'
          have r1' : wr.cell? ⟨g, j * 2 + 1, none⟩ = some (.int .i64 (A : Int)) := by rw [← hA]; exact r1
          obtain ⟨op, hopE⟩ : ∃ op, op = opA zs j := ⟨_, rfl⟩
          have r0' : wr.cell? ⟨g, j * 2, none⟩ = some (.int .i64 op) := by rw [hopE]; exact r0
          rw [← hopE] at hop h8 hX'
          have HX2 := Lib.hid hX'
          have hlX := congrArg List.length hX'
          rw [List.length_append, List.length_append, rep_one, hL, Int.toNat_natCast] at hlX
          have hLM : L + M ≤ 3000 := by omega
          have HMX := Lib.hid hmx
          clear r0 r1 hX hbal fl pb hX' h10 okp hA hopE hlX hM hmx
          have hMA : (A = 0 ∧ M = 1) ∨ (1 ≤ A ∧ M = A) := by
            have h1 := imax_ge 1 (A : Int)
            have h2 := HMX.out
            rcases h1.2.2 with h | h <;> omega
          clear HMX
          have n8 : (op == 8) = false := by simpa using h8
          rcases hMA with ⟨rfl, rfl⟩ | ⟨hA1, rfl⟩
          · have hA0 : ¬ (1 : Int) ≤ 0 := by omega
            go_wp2_with fail
            have hgx : w.heap.size ≤ wr.heap.size := hs
            go_loopw [7, 46] (fun vv kk wi => ∃ (k : Nat) (l' : List Int) (v' : Value), vv = v' ∧ k ≤ 1 ∧ kk = .int .i64 k ∧ Hid (Own wi w.heap.size v' l') ∧ Hid (l' = l ++ rep k [op - 1]) ∧ Hid (v'.ownBlock ≠ some wr.heap.size) ∧ Hid (wi.heap[wr.heap.size]? = some (.cells #[.int .i64 op, .int .i64 (0 : Int)] 47)) ∧ Hid (Below w.heap.size w wi) ∧ wr.heap.size < wi.heap.size) (fun _ kk _ => 1 - (intOf kk).toNat)
            case atStart => exact ⟨0, l, _, rfl, Nat.zero_le _, rfl, Lib.hid (own_alloc HOL.out _), Lib.hid (by rw [show ((0 : Nat) : Int) = 0 from rfl, rep_zero, List.append_nil]), Lib.hid (fun h => by have := (own_block_lt HOL.out _ h).2; omega), Lib.hid (heap_last _ _), Lib.hid (HBW.out.alloc hs _), by simp⟩
            case round =>
              obtain ⟨k, l', v', rfl, hk, rfl, HI1, HI2, HI3, HI4, HI5, hsi⟩ := hrel
              by_cases hkA : k < 1
              · have hl' : l'.length = L + k := by rw [HI2.out, List.length_append, rep_one, hL]; omega
                have hkI : (k : Int) < 1 := by omega
                have HNX := Lib.hid (show l' ++ [op - 1] = l ++ rep ((k + 1 : Nat) : Int) [op - 1] from by rw [HI2.out, show ((k + 1 : Nat) : Int) = (k : Int) + 1 by omega, rep_succ, List.append_assoc])
                have hlb : l'.length ≤ 1000000000 := by omega
                clear hl'
                obtain ⟨a3, cap3, rfl, -, -⟩ := own_form HI1.out
                generalize hL3 : l'.length = L3 at *
                have z0 := cell_blk HI4.out 0
                have e1 : IntKind.i64.wrap (op - 2) = op - 2 := IntWalk.i64_in _ (by omega)
                have e2 : IntKind.i64.wrap (op - 2 + 1) = op - 1 := by rw [show op - 2 + 1 = op - 1 by omega]; exact IntWalk.i64_in _ (by omega)
                go_wp2_with (at_builtin; refine wp_app_loc rfl _ _ rfl (op - 1) _ (own_alloc HI1.out _) rfl rfl (by first | (simp; done) | (simp; rfl)) (by omega) (by first | (simp; done) | (simp; omega)) ?_; intro v5 w5 ho5 hg5 hloc5)
                have O5 := Lib.hid ho5
                have B5 := Lib.hid (app_below HI5.out HI1.out hg5 (Nat.le_refl _) (by omega))
                have N5 := Lib.hid (loc_some hloc5 HI3.out (by simp; omega))
                have X5 := Lib.hid (heap_keep_grown hg5 HI4.out HI3.out)
                have s5 := hg5.size
                simp only [World.size_alloc] at s5
                clear ho5 hg5 hloc5 z0 e1 e2
                go_wp2_with fail
                go_roundw
                case rel => exact ⟨k + 1, _, _, rfl, by omega, by go_num, O5, HNX, N5, X5, Lib.hid B5.out.1, by omega⟩
                case measure => first | (simp [intOf]; done) | (simp [intOf]; omega)
              · obtain rfl : k = 1 := by omega
                obtain ⟨a3, cap3, rfl, -, -⟩ := own_form HI1.out
                generalize hL3 : l'.length = L3 at *
                go_wp2_with fail
                go_roundw
                case rel => exact ⟨j + 1, l', _, rfl, by omega, by omega, by go_num, (hL3 ▸ HI1.out), Lib.hid (by rw [HI2.out, List.append_assoc]; exact HX2.out), PB, HI5.out, by omega⟩
                case measure => first | (simp [intOf]; done) | (simp [intOf]; omega)
          · have hA0 : (1 : Int) ≤ (M : Int) := by omega
            go_wp2_with fail
            have hgx : w.heap.size ≤ wr.heap.size := hs
            go_loopw [7, 46] (fun vv kk wi => ∃ (k : Nat) (l' : List Int) (v' : Value), vv = v' ∧ k ≤ M ∧ kk = .int .i64 k ∧ Hid (Own wi w.heap.size v' l') ∧ Hid (l' = l ++ rep k [op - 1]) ∧ Hid (v'.ownBlock ≠ some wr.heap.size) ∧ Hid (wi.heap[wr.heap.size]? = some (.cells #[.int .i64 op, .int .i64 (M : Int)] 47)) ∧ Hid (Below w.heap.size w wi) ∧ wr.heap.size < wi.heap.size) (fun _ kk _ => M - (intOf kk).toNat)
            case atStart => exact ⟨0, l, _, rfl, Nat.zero_le _, rfl, Lib.hid (own_alloc HOL.out _), Lib.hid (by rw [show ((0 : Nat) : Int) = 0 from rfl, rep_zero, List.append_nil]), Lib.hid (fun h => by have := (own_block_lt HOL.out _ h).2; omega), Lib.hid (heap_last _ _), Lib.hid (HBW.out.alloc hs _), by simp⟩
            case round =>
              obtain ⟨k, l', v', rfl, hk, rfl, HI1, HI2, HI3, HI4, HI5, hsi⟩ := hrel
              by_cases hkA : k < M
              · have hl' : l'.length = L + k := by rw [HI2.out, List.length_append, rep_one, hL]; omega
                have hkI : (k : Int) < (M : Int) := by omega
                have HNX := Lib.hid (show l' ++ [op - 1] = l ++ rep ((k + 1 : Nat) : Int) [op - 1] from by rw [HI2.out, show ((k + 1 : Nat) : Int) = (k : Int) + 1 by omega, rep_succ, List.append_assoc])
                have hlb : l'.length ≤ 1000000000 := by omega
                clear hl'
                obtain ⟨a3, cap3, rfl, -, -⟩ := own_form HI1.out
                generalize hL3 : l'.length = L3 at *
                have z0 := cell_blk HI4.out 0
                have e1 : IntKind.i64.wrap (op - 2) = op - 2 := IntWalk.i64_in _ (by omega)
                have e2 : IntKind.i64.wrap (op - 2 + 1) = op - 1 := by rw [show op - 2 + 1 = op - 1 by omega]; exact IntWalk.i64_in _ (by omega)
                go_wp2_with (at_builtin; refine wp_app_loc rfl _ _ rfl (op - 1) _ (own_alloc HI1.out _) rfl rfl (by first | (simp; done) | (simp; rfl)) (by omega) (by first | (simp; done) | (simp; omega)) ?_; intro v5 w5 ho5 hg5 hloc5)
                have O5 := Lib.hid ho5
                have B5 := Lib.hid (app_below HI5.out HI1.out hg5 (Nat.le_refl _) (by omega))
                have N5 := Lib.hid (loc_some hloc5 HI3.out (by simp; omega))
                have X5 := Lib.hid (heap_keep_grown hg5 HI4.out HI3.out)
                have s5 := hg5.size
                simp only [World.size_alloc] at s5
                clear ho5 hg5 hloc5 z0 e1 e2
                go_wp2_with fail
                go_roundw
                case rel => exact ⟨k + 1, _, _, rfl, by omega, by go_num, O5, HNX, N5, X5, Lib.hid B5.out.1, by omega⟩
                case measure => first | (simp [intOf]; done) | (simp [intOf]; omega)
              · obtain rfl : k = M := by omega
                have hkI : ¬ (k : Int) < (k : Int) := by omega
                obtain ⟨a3, cap3, rfl, -, -⟩ := own_form HI1.out
                generalize hL3 : l'.length = L3 at *
                go_wp2_with fail
                go_roundw
                case rel => exact ⟨j + 1, l', _, rfl, by omega, by omega, by go_num, (hL3 ▸ HI1.out), Lib.hid (by rw [HI2.out, List.append_assoc]; exact HX2.out), PB, HI5.out, by omega⟩
                case measure => first | (simp [intOf]; done) | (simp [intOf]; omega)
      · obtain rfl : j = e := by omega
        have HR := Lib.hid (show l = T from by have := hX.out; rw [flatR_end] at this; simpa using this)
        clear hbw hX hbal
        go_wp2_with fail
        go_ret
        exact ⟨_, rfl, by rw [← HR.out]; exact (hL ▸ HOL.out), HBW.out⟩
end Go.Proofs.Ytaipfcbphfjgoaa
