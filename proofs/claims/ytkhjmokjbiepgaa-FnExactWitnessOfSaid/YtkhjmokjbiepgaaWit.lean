/- Sums of digits with a fault of a lever: plain; addedWith of the package. -/
import Derived.IntWalk
import Derived.Maps.OwnOps
import Derived.Maps.Views
import Derived.Maps.AppendAt
import Derived.Deep.RegionLaw
import Derived.Test.YtkhjmokjbiepgaaReg2
namespace Go.Proofs.Ytkhjmokjbiepgaa
open Go.ChangeShapes Go.WideShapes Go.ChangeAt Go.RowKit Go.Maps
def outF (b s c kd : Int) : Int := if kd = 1 then 0 else if kd = 2 then 1 else if kd = 3 then s / b else (s + c) / b
def kdA (kd : Int) (lv k : Nat) : Int := if k = lv then kd else 0
def cf (b : Int) (xs ys : List Int) (kd : Int) (lv : Nat) : Nat → Int
  | 0 => 0
  | k + 1 => outF b (nth xs k + nth ys k) (cf b xs ys kd lv k) (kdA kd lv k)
def fd (b : Int) (xs ys : List Int) (kd : Int) (lv k : Nat) : Int := (nth xs k + nth ys k + cf b xs ys kd lv k) % b
def faL (b : Int) (xs ys : List Int) (kd : Int) (lv n : Nat) : List Int := (List.range n).map (fd b xs ys kd lv)
theorem outF_bd {b x y c kd : Int} (hb : 2 ≤ b) (hx : 0 ≤ x) (hx2 : x < b) (hy : 0 ≤ y) (hy2 : y < b) (hc : 0 ≤ c) (hc2 : c ≤ 1) : 0 ≤ outF b (x + y) c kd ∧ outF b (x + y) c kd ≤ 1 := by
  have h : ∀ z : Int, 0 ≤ z → z < 2 * b → 0 ≤ z / b ∧ z / b ≤ 1 := fun z h0 h1 => by
    refine ⟨Int.ediv_nonneg h0 (by omega), ?_⟩
    have : z / b < 2 := Int.ediv_lt_of_lt_mul (by omega) h1
    omega
  have h1 := h (x + y) (by omega) (by omega); have h2 := h (x + y + c) (by omega) (by omega)
  unfold outF
  split
  · omega
  · split
    · omega
    · split <;> assumption
theorem cf_bd {b kd : Int} {xs ys : List Int} {lv n : Nat} (hb : 2 ≤ b) (hx : ∀ k, k < n → 0 ≤ nth xs k ∧ nth xs k < b) (hy : ∀ k, k < n → 0 ≤ nth ys k ∧ nth ys k < b) : ∀ k, k ≤ n → 0 ≤ cf b xs ys kd lv k ∧ cf b xs ys kd lv k ≤ 1 := by
  intro k
  induction k with
  | zero => intro _; exact ⟨by show (0 : Int) ≤ 0; omega, by show (0 : Int) ≤ 1; omega⟩
  | succ k ih =>
    intro h
    have a := hx k (by omega); have c := hy k (by omega); have i := ih (by omega)
    exact outF_bd hb a.1 a.2 c.1 c.2 i.1 i.2
theorem wk_carryG {w w' : World} {O o : Obj} {n : Nat} {row : Option Nat} (hg : (w.alloc o).grownBy w' row) (h : w.heap[n]? = some O) (hne : some n ≠ row) : w'.heap[n]? = some O := by
  have hn : n < w.heap.size := (Array.getElem?_eq_some_iff.1 h).1
  rw [hg.block n (by simp; omega) hne, Below.heap_alloc _ _ _ hn]; exact h
theorem wk_keep {w : World} {g i n : Nat} {u : Value} {O : Obj} (h : w.heap[n]? = some O) (hne : ¬ n = g) : (w.setCell ⟨g, i, none⟩ u).heap[n]? = some O := (Below.heap_setCell w ⟨g, i, none⟩ u n hne).trans h
theorem wk_al {w : World} {A O : Obj} {k : Nat} (h : w.heap[k]? = some O) : (w.alloc A).heap[k]? = some O := (Below.heap_alloc w A k (Array.getElem?_eq_some_iff.1 h).1).trans h
/-- what the map of one fault reads as, behind j rounds -/
def mapF (kd : Int) (lv j : Nat) : DataW Unit := if j = 0 then .map [] else (DataW.map []).put (.int .i64 (lv : Int)) (.lit (.int .i64 kd))
theorem mapF_at {kd c : Int} {lv k : Nat} (h : (mapF kd lv 1).atKey (.int .i64 (k : Int)) (.lit (.int .i64 0)) = .lit (.int .i64 c)) : c = kdA kd lv k := by
  unfold mapF at h
  rw [if_neg (by omega)] at h
  unfold kdA
  by_cases e : k = lv
  · subst e
    rw [if_pos rfl]
    have h := (atKey_put_same (H := Unit) (k := .int .i64 (k : Int)) isMap_empty True.intro (.lit (.int .i64 kd)) (.lit (.int .i64 0))).symm.trans h
    injection h with h; injection h with _ h; exact h.symm
  · rw [if_neg e]
    rw [atKey_put_other (by intro e2; injection e2 with _ e2; omega)] at h
    have h' : (DataW.lit (.int .i64 0) : DataW Unit) = .lit (.int .i64 c) := h
    injection h' with h'; injection h' with _ h'; exact h'.symm
theorem map_set {P : Program} {k : TypeId} {R : Value → Option (DataW Unit × List MemPlace)} {w : World} {b n : Nat} {D : DataW Unit} {g i : Nat} {u : Value} (h : w.ownsMap P k R b n D) (hne : ¬ b = g) : (w.setCell ⟨g, i, none⟩ u).ownsMap P k R b n D := by
  obtain ⟨es, clock, hb, r⟩ := h
  exact ⟨es, clock, wk_keep hb hne, r⟩
theorem wf_small {x : Int} (h0 : -1000 ≤ x) (h1 : x ≤ 1000) : (Lit.int .i64 x).wf = true := by
  have a : IntKind.min .i64 = -9223372036854775808 := by decide
  have c : IntKind.max .i64 = 9223372036854775807 := by decide
  simp only [Lit.wf, a, c, Bool.and_eq_true, decide_eq_true_eq]
  omega
theorem law64 : Keyed Try.prog 2 := int_keyed Try.underlying2
theorem zero64 (w : World) : (zeroValue 2).run Try.prog w = .ok (.int .i64 0) w := by kernel_rfl
set_option maxHeartbeats 8000000 in
set_option maxRecDepth 100000 in
theorem impl_addedWith {B1 B2 gl : Nat} {u v : Value} {xs ys : List Int} (b b2 kd : Int) (lv n : Nat) (w : World) (h1 : Own w B1 u xs) (h2 : Own w B2 v ys) (l1 : xs.length = n) (l2 : ys.length = n) (hn : n ≤ 16) (hb : 2 ≤ b) (hb2 : b ≤ 16)
    (hx : ∀ k, k < n → 0 ≤ nth xs k ∧ nth xs k < b) (hy : ∀ k, k < n → 0 ≤ nth ys k ∧ nth ys k < b) (hk1 : 1 ≤ kd) (hk2 : kd ≤ 3) (hl : lv < n)
    (c0 : w.cell? ⟨gl, 0, none⟩ = some (.int .i64 kd)) (c1 : w.cell? ⟨gl, 1, none⟩ = some (.int .i64 (lv : Int))) :
    Calls Try.prog 59 #[.agg #[.int .i64 b, u], .agg #[.int .i64 b2, v], .slice (some ⟨gl, 0, none⟩) 1 1] w (RetAggI w b (faL b xs ys kd lv n) (cf b xs ys kd lv n)) := by
  have hmm := @run_makeMap Try.prog
  have HCF := Lib.hid (cf_bd (kd := kd) (lv := lv) hb hx hy)
  have HX := Lib.hid hx; have HY := Lib.hid hy; clear hx hy
  obtain ⟨a1, p1, rfl, m1, q1⟩ := own_form h1
  obtain ⟨a2, p2, rfl, m2, q2⟩ := own_form h2
  rw [l1] at *; rw [l2] at *
  have Q1 := Lib.hid q1; have Q2 := Lib.hid q2; clear q1 q2 h1 h2 l1 l2
  have C0 := Lib.hid c0; have C1 := Lib.hid c1
  have gll : gl < w.heap.size := World.block_lt_of_cell? w _ c0
  have hkey : keyOf Try.prog 2 (.int .i64 (lv : Int)) = some (.int .i64 (lv : Int)) := keyOf_int_mk Try.underlying2 (wf_small (by omega) (by omega))
  have KE := Lib.hid hkey; have MM := Lib.hid hmm; clear c0 c1 hkey
  go_enter Try.func59, Try.ntmps59
  go_wp2_with fail
  clear hmm
  go_loopw [10, 20] (fun _ k wr => ∃ j : Nat, ((k = .int .i64 0 ∧ j = 0) ∨ (k = .int .i64 1 ∧ j = 1)) ∧ wr.ownsMap Try.prog 2 (plainElem Try.prog 2) (w.heap.size + 1 + 1 + 1) j (mapF kd lv j) ∧ wr.heap[w.heap.size]? = some (.cells #[.int .i64 b, .slice a1 n p1] 41) ∧ wr.heap[w.heap.size + 1]? = some (.cells #[.int .i64 b2, .slice a2 n p2] 41) ∧ wr.heap[w.heap.size + 1 + 1]? = some (.cells #[.int .i64 0, .slice none 0 0] 41) ∧ Below w.heap.size w wr ∧ w.heap.size + 1 + 1 + 1 + 1 ≤ wr.heap.size) (fun _ k _ => 1 - (intOf k).toNat)
  case atStart =>
    obtain ⟨x0, x1, x2, bw, hs, he⟩ := blk3 (Below.refl _ _)
    refine ⟨0, .inl ⟨rfl, rfl⟩, ?_, wk_al x0, wk_al x1, wk_al x2, bw.alloc (by rw [he]; omega) _, by simp⟩
    have h := World.ownsMap_made (H := Unit) (((w.alloc (.cells #[.int .i64 b, .slice a1 n p1] 41)).alloc (.cells #[.int .i64 b2, .slice a2 n p2] 41)).alloc (.cells #[.int .i64 0, .slice none 0 0] 41)) Try.prog 2 (plainElem Try.prog 2)
    rw [he] at h
    exact h
  case round =>
    obtain ⟨j, hj, hown, hA, hB, hR, hbw, hs⟩ := hrel
    have HB := Lib.hid hbw; have MAP := Lib.hid hown; have YA := Lib.hid hA; have YB := Lib.hid hB; have YR := Lib.hid hR
    rcases hj with ⟨rfl, rfl⟩ | ⟨rfl, rfl⟩
    · skip
      have k0 := (hbw.cell (p := ⟨gl, 0, none⟩) gll).trans C0.out
      have k1 := (hbw.cell (p := ⟨gl, 1, none⟩) gll).trans C1.out
      have gl2 : gl < wr.heap.size := by omega
      clear hown hA hB hR hbw
      go_wp2_with (at_mapUpdate; refine wpList_mapUpdate_own _ rfl _ _ _ 99 rfl 2 2 law64 Try.underlying99 _ (w.heap.size + 1 + 1 + 1) 0 _ rfl (MAP.out.alloc _) (by unfold maxLen; omega) _ _ _ rfl rfl KE.out _ [] (plainElem_int Try.underlying2 (wf_small (by omega) (by omega))) ?_; intro w9 hown9 hg9; have M9 := Lib.hid hown9; have A9 := Lib.hid (wk_carryG hg9 YA.out (by simp <;> omega)); have B9 := Lib.hid (wk_carryG hg9 YB.out (by simp <;> omega)); have R9 := Lib.hid (wk_carryG hg9 YR.out (by simp <;> omega)); have hs9 := hg9.size; have HB9 := Lib.hid ((HB.out.alloc HB.out.size _).grown hg9 (by simp; omega) (fun k hk => by injection hk with hk; omega)); clear hown9 hg9)
      go_wp2_with fail
      go_roundw
      case rel => exact ⟨1, .inr ⟨rfl, rfl⟩, M9.out, A9.out, B9.out, R9.out, HB9.out, by simp at hs9; omega⟩
      case measure => first | (simp [intOf]; done) | (simp [intOf]; omega)
    · have zA0 := cell_blk hA 0; have zA1 := cell_blk hA 1
      clear hown hB hR hbw
      generalize wr = wo at *
      clear hA
      have ls : w.heap.size < wo.heap.size := by omega
      go_wp2_with fail
      clear zA0 zA1
      go_loopw [12, 13, 14, 15, 16, 36, 68, 70, 72] (fun cc _ _ _ _ kk _ _ _ wr => ∃ (t : Nat) (z : Value), kk = .int .i64 (t : Int) ∧ t ≤ n ∧ cc = .int .i64 (cf b xs ys kd lv t) ∧ Own wr wo.heap.size z (faL b xs ys kd lv t) ∧ some wo.heap.size ≠ z.ownBlock ∧ wr.heap[wo.heap.size]? = some (.cells #[.int .i64 b, z] 41) ∧ wr.ownsMap Try.prog 2 (plainElem Try.prog 2) (w.heap.size + 1 + 1 + 1) 1 (mapF kd lv 1) ∧ Below wo.heap.size wo wr ∧ wo.heap.size + 1 ≤ wr.heap.size) (fun _ _ _ _ _ kk _ _ _ _ => n - (intOf kk).toNat)
      case atStart =>
        exact ⟨0, _, rfl, Nat.zero_le _, rfl, own_nil, by simp [Value.ownBlock], heap_last _ _, MAP.out.alloc _, (Below.refl _ _).alloc (Nat.le_refl _) _, by simp⟩
      case round =>
        obtain ⟨t, z, rfl, ht, rfl, ho, hne, h4, hmap, hbz, hsz⟩ := hrel
        have HZ := Lib.hid hbz; have HO := Lib.hid ho; have NE := Lib.hid hne; have Y4 := Lib.hid h4; have MZ := Lib.hid hmap
        have zA := (hbz.block w.heap.size ls).trans YA.out
        have zB := (hbz.block (w.heap.size + 1) (by omega)).trans YB.out
        obtain ⟨az, cz, rfl, -, -⟩ := own_form ho
        have lz : (faL b xs ys kd lv t).length = t := by simp [faL]
        have lz16 : (faL b xs ys kd lv t).length ≤ 16 := by rw [lz]; omega
        by_cases hlt2 : t < n
        · obtain ⟨g1, e1, r1⟩ := Q1.out t hlt2
          obtain ⟨g2, e2, r2⟩ := Q2.out t hlt2
          have gw1 : g1 < w.heap.size := World.block_lt_of_cell? w _ r1
          have gw2 : g2 < w.heap.size := World.block_lt_of_cell? w _ r2
          have s1 := (hbz.cell (p := ⟨g1, t, none⟩) (show g1 < wo.heap.size by omega)).trans ((HB.out.cell (p := ⟨g1, t, none⟩) gw1).trans r1)
          have s2 := (hbz.cell (p := ⟨g2, t, none⟩) (show g2 < wo.heap.size by omega)).trans ((HB.out.cell (p := ⟨g2, t, none⟩) gw2).trans r2)
          subst e1; subst e2
          obtain ⟨X0, X1⟩ := HX.out t hlt2; obtain ⟨Y0, Y1⟩ := HY.out t hlt2; obtain ⟨C0', C1'⟩ := HCF.out t (by omega)
          have HN := Lib.hid (show faL b xs ys kd lv t ++ [(nth xs t + nth ys t + cf b xs ys kd lv t) % b] = faL b xs ys kd lv (t + 1) from (range_snoc _ _).symm)
          have HCN := Lib.hid (show cf b xs ys kd lv (t + 1) = outF b (nth xs t + nth ys t) (cf b xs ys kd lv t) (kdA kd lv t) from rfl)
          have NM := Lib.hid (show some (w.heap.size + 1 + 1 + 1) ≠ (Value.slice az (faL b xs ys kd lv t).length cz).ownBlock from fun h => by have := (own_block_lt ho _ h.symm).1; omega)
          have zA0 := cell_blk zA 0; have zA1 := cell_blk zA 1; have zB1 := cell_blk zB 1
          have c0 := cell_blk h4 0; have c1 := cell_blk h4 1; have f1 := frozen_blk h4 1
          clear r1 r2 hbz ho hne h4 hmap zA zB lz
          generalize faL b xs ys kd lv t = L at *
          generalize cf b xs ys kd lv t = C at *
          generalize nth xs t = X at *
          generalize nth ys t = Y at *
          have zb : ¬ b = 0 := by omega
          have tq : (X + Y + C).tdiv b = (X + Y + C) / b := Int.tdiv_eq_ediv_of_nonneg (by omega)
          have tm : (X + Y + C).tmod b = (X + Y + C) % b := Int.tmod_eq_emod_of_nonneg (by omega)
          have ts : (X + Y).tdiv b = (X + Y) / b := Int.tdiv_eq_ediv_of_nonneg (by omega)
          have D0 : 0 ≤ (X + Y + C) % b := Int.emod_nonneg _ zb
          have D1 : (X + Y + C) % b < b := Int.emod_lt_of_pos _ (by omega)
          have QB0 : 0 ≤ (X + Y + C) / b := Int.ediv_nonneg (by omega) (by omega)
          have QB1 : (X + Y + C) / b ≤ X + Y + C := Int.ediv_le_self _ (by omega)
          have SB0 : 0 ≤ (X + Y) / b := Int.ediv_nonneg (by omega) (by omega)
          have SB1 : (X + Y) / b ≤ X + Y := Int.ediv_le_self _ (by omega)
          generalize hD : (X + Y + C) % b = D at *
          have HD := Lib.hid hD; clear hD
          generalize hQ : (X + Y + C) / b = Q at *
          have HQ := Lib.hid hQ; clear hQ
          generalize hS : (X + Y) / b = SS at *
          have HS := Lib.hid hS; clear hS
          have w1 : IntKind.i64.wrap (X + Y) = X + Y := IntWalk.i64_in _ (by omega)
          have w2 : IntKind.i64.wrap (X + Y + C) = X + Y + C := IntWalk.i64_in _ (by omega)
          have w3 : IntKind.i64.wrap D = D := IntWalk.i64_in _ (by omega)
          have w4 : IntKind.i64.wrap Q = Q := IntWalk.i64_in _ (by omega)
          have w5 : IntKind.i64.wrap SS = SS := IntWalk.i64_in _ (by omega)
          have i0 : (0 : Int) ≤ (t : Int) := by omega
          have i1 : (t : Int) < (n : Int) := by omega
          have lb1 : wo.heap.size < wr.heap.size := by omega
          have lb2 : w.heap.size < wr.heap.size := by omega
          have lb3 : w.heap.size + 1 < wr.heap.size := by omega
          have lb4 : g1 < wr.heap.size := by omega
          have lb5 : g2 < wr.heap.size := by omega
          have LK := Lib.hid (fun c (h : (mapF kd lv 1).atKey (.int .i64 (t : Int)) (.lit (.int .i64 0)) = .lit (.int .i64 c)) => mapF_at h)
          have KT := Lib.hid (show keyOf Try.prog 2 (.int .i64 (t : Int)) = some (.int .i64 (t : Int)) from keyOf_int_mk Try.underlying2 (wf_small (by omega) (by omega)))
          by_cases hc : t = lv
          rotate_left
          · have HK := Lib.hid (show kdA kd lv t = 0 from if_neg hc)
            have HC2 := Lib.hid (show cf b xs ys kd lv (t + 1) = Q from by rw [HCN.out, HK.out]; first | (unfold outF; simp; done) | (unfold outF; simp; first | exact HQ.out | exact HS.out))
            clear hc
            go_wp2_with fail
            go_region_law ((refine step_app_at (by rfl) _ _ (by rfl) _ _ (own_alloc (own_drew HO.out) _) (by rfl) (by rfl) (by simp; rfl) (by omega) (by simp; omega) ?_; intro v' w9 ho' hg' hloc; obtain ⟨hb', hs'⟩ := app_below HZ.out.drew (own_drew HO.out) hg' (Nat.le_refl _) (show wo.heap.size ≤ wr.heap.size by omega); have x4 := (hg'.block wo.heap.size (by simp; omega) NE.out).trans ((Below.heap_alloc wr.drew _ _ (show wo.heap.size < wr.heap.size by omega)).trans Y4.out); have hs9 := hg'.size; have M4 := Lib.hid (loc_ne hloc NE.out (by simp; omega)); obtain ⟨av, cv, rfl, -, -⟩ := own_form ho'; have c0 := cell_blk x4 0; have c1 := cell_blk x4 1; have f1 := frozen_blk x4 1; have X4 := Lib.hid x4; have O9 := Lib.hid ho'; have B9 := Lib.hid hb'; have MP := Lib.hid ((MZ.out.drew.alloc _).kept hg' NM.out); have zA9 := (hb'.cell (p := ⟨w.heap.size, 0, none⟩) ls).trans (cell_blk YA.out 0); have b9 : w.heap.size < w9.heap.size := (by omega); clear ho' hb' hg' hloc x4))
            all_goals (
            clear tm w3
            go_wp2_with (at_lookup; refine wpList_lookup_own_int _ rfl _ _ 99 rfl 2 2 .i64 law64 Try.underlying99 Try.underlying2 (zero64 _) (w.heap.size + 1 + 1 + 1) 1 _ rfl (map_set MP.out (by omega)) _ _ rfl KT.out ?_; intro c hat hwc; obtain rfl := (LK.out c hat).trans HK.out; clear hat hwc)
            go_wp2_with fail
            go_roundw
            case rel => exact ⟨t + 1, _, by go_num, by omega, by rw [HC2.out], by rw [← HN.out]; exact own_setCell_ne O9.out M4.out, fun e => M4.out e.symm, by simpa using setCell_blk X4.out _, map_set MP.out (by omega), B9.out.setCell (by first | (simp; done) | (simp; omega)) _, by simp at *; omega⟩
            case measure => first | (simp [intOf]; done) | (simp [intOf]; omega))
          obtain hkd | hkd | hkd : kd = 1 ∨ kd = 2 ∨ kd = 3 := by omega
          · have HK := Lib.hid (show kdA kd lv t = 1 from by unfold kdA; rw [if_pos hc]; exact hkd)
            have HC2 := Lib.hid (show cf b xs ys kd lv (t + 1) = 0 from by rw [HCN.out, HK.out]; first | (unfold outF; simp; done) | (unfold outF; simp; first | exact HQ.out | exact HS.out))
            clear hc hkd
            go_wp2_with fail
            go_region_law ((refine step_app_at (by rfl) _ _ (by rfl) _ _ (own_alloc (own_drew HO.out) _) (by rfl) (by rfl) (by simp; rfl) (by omega) (by simp; omega) ?_; intro v' w9 ho' hg' hloc; obtain ⟨hb', hs'⟩ := app_below HZ.out.drew (own_drew HO.out) hg' (Nat.le_refl _) (show wo.heap.size ≤ wr.heap.size by omega); have x4 := (hg'.block wo.heap.size (by simp; omega) NE.out).trans ((Below.heap_alloc wr.drew _ _ (show wo.heap.size < wr.heap.size by omega)).trans Y4.out); have hs9 := hg'.size; have M4 := Lib.hid (loc_ne hloc NE.out (by simp; omega)); obtain ⟨av, cv, rfl, -, -⟩ := own_form ho'; have c0 := cell_blk x4 0; have c1 := cell_blk x4 1; have f1 := frozen_blk x4 1; have X4 := Lib.hid x4; have O9 := Lib.hid ho'; have B9 := Lib.hid hb'; have MP := Lib.hid ((MZ.out.drew.alloc _).kept hg' NM.out); have zA9 := (hb'.cell (p := ⟨w.heap.size, 0, none⟩) ls).trans (cell_blk YA.out 0); have b9 : w.heap.size < w9.heap.size := (by omega); clear ho' hb' hg' hloc x4))
            all_goals (
            clear tm w3
            go_wp2_with (at_lookup; refine wpList_lookup_own_int _ rfl _ _ 99 rfl 2 2 .i64 law64 Try.underlying99 Try.underlying2 (zero64 _) (w.heap.size + 1 + 1 + 1) 1 _ rfl (map_set MP.out (by omega)) _ _ rfl KT.out ?_; intro c hat hwc; obtain rfl := (LK.out c hat).trans HK.out; clear hat hwc)
            go_wp2_with fail
            go_roundw
            case rel => exact ⟨t + 1, _, by go_num, by omega, by rw [HC2.out], by rw [← HN.out]; exact own_setCell_ne O9.out M4.out, fun e => M4.out e.symm, by simpa using setCell_blk X4.out _, map_set MP.out (by omega), B9.out.setCell (by first | (simp; done) | (simp; omega)) _, by simp at *; omega⟩
            case measure => first | (simp [intOf]; done) | (simp [intOf]; omega))
          · have HK := Lib.hid (show kdA kd lv t = 2 from by unfold kdA; rw [if_pos hc]; exact hkd)
            have HC2 := Lib.hid (show cf b xs ys kd lv (t + 1) = 1 from by rw [HCN.out, HK.out]; first | (unfold outF; simp; done) | (unfold outF; simp; first | exact HQ.out | exact HS.out))
            clear hc hkd
            go_wp2_with fail
            go_region_law ((refine step_app_at (by rfl) _ _ (by rfl) _ _ (own_alloc (own_drew HO.out) _) (by rfl) (by rfl) (by simp; rfl) (by omega) (by simp; omega) ?_; intro v' w9 ho' hg' hloc; obtain ⟨hb', hs'⟩ := app_below HZ.out.drew (own_drew HO.out) hg' (Nat.le_refl _) (show wo.heap.size ≤ wr.heap.size by omega); have x4 := (hg'.block wo.heap.size (by simp; omega) NE.out).trans ((Below.heap_alloc wr.drew _ _ (show wo.heap.size < wr.heap.size by omega)).trans Y4.out); have hs9 := hg'.size; have M4 := Lib.hid (loc_ne hloc NE.out (by simp; omega)); obtain ⟨av, cv, rfl, -, -⟩ := own_form ho'; have c0 := cell_blk x4 0; have c1 := cell_blk x4 1; have f1 := frozen_blk x4 1; have X4 := Lib.hid x4; have O9 := Lib.hid ho'; have B9 := Lib.hid hb'; have MP := Lib.hid ((MZ.out.drew.alloc _).kept hg' NM.out); have zA9 := (hb'.cell (p := ⟨w.heap.size, 0, none⟩) ls).trans (cell_blk YA.out 0); have b9 : w.heap.size < w9.heap.size := (by omega); clear ho' hb' hg' hloc x4))
            all_goals (
            clear tm w3
            go_wp2_with (at_lookup; refine wpList_lookup_own_int _ rfl _ _ 99 rfl 2 2 .i64 law64 Try.underlying99 Try.underlying2 (zero64 _) (w.heap.size + 1 + 1 + 1) 1 _ rfl (map_set MP.out (by omega)) _ _ rfl KT.out ?_; intro c hat hwc; obtain rfl := (LK.out c hat).trans HK.out; clear hat hwc)
            go_wp2_with fail
            go_roundw
            case rel => exact ⟨t + 1, _, by go_num, by omega, by rw [HC2.out], by rw [← HN.out]; exact own_setCell_ne O9.out M4.out, fun e => M4.out e.symm, by simpa using setCell_blk X4.out _, map_set MP.out (by omega), B9.out.setCell (by first | (simp; done) | (simp; omega)) _, by simp at *; omega⟩
            case measure => first | (simp [intOf]; done) | (simp [intOf]; omega))
          · have HK := Lib.hid (show kdA kd lv t = 3 from by unfold kdA; rw [if_pos hc]; exact hkd)
            have HC2 := Lib.hid (show cf b xs ys kd lv (t + 1) = SS from by rw [HCN.out, HK.out]; first | (unfold outF; simp; done) | (unfold outF; simp; first | exact HQ.out | exact HS.out))
            clear hc hkd
            go_wp2_with fail
            go_region_law ((refine step_app_at (by rfl) _ _ (by rfl) _ _ (own_alloc (own_drew HO.out) _) (by rfl) (by rfl) (by simp; rfl) (by omega) (by simp; omega) ?_; intro v' w9 ho' hg' hloc; obtain ⟨hb', hs'⟩ := app_below HZ.out.drew (own_drew HO.out) hg' (Nat.le_refl _) (show wo.heap.size ≤ wr.heap.size by omega); have x4 := (hg'.block wo.heap.size (by simp; omega) NE.out).trans ((Below.heap_alloc wr.drew _ _ (show wo.heap.size < wr.heap.size by omega)).trans Y4.out); have hs9 := hg'.size; have M4 := Lib.hid (loc_ne hloc NE.out (by simp; omega)); obtain ⟨av, cv, rfl, -, -⟩ := own_form ho'; have c0 := cell_blk x4 0; have c1 := cell_blk x4 1; have f1 := frozen_blk x4 1; have X4 := Lib.hid x4; have O9 := Lib.hid ho'; have B9 := Lib.hid hb'; have MP := Lib.hid ((MZ.out.drew.alloc _).kept hg' NM.out); have zA9 := (hb'.cell (p := ⟨w.heap.size, 0, none⟩) ls).trans (cell_blk YA.out 0); have b9 : w.heap.size < w9.heap.size := (by omega); clear ho' hb' hg' hloc x4))
            all_goals (
            clear tm w3
            go_wp2_with (at_lookup; refine wpList_lookup_own_int _ rfl _ _ 99 rfl 2 2 .i64 law64 Try.underlying99 Try.underlying2 (zero64 _) (w.heap.size + 1 + 1 + 1) 1 _ rfl (map_set MP.out (by omega)) _ _ rfl KT.out ?_; intro c hat hwc; obtain rfl := (LK.out c hat).trans HK.out; clear hat hwc)
            go_wp2_with fail
            go_roundw
            case rel => exact ⟨t + 1, _, by go_num, by omega, by rw [HC2.out], by rw [← HN.out]; exact own_setCell_ne O9.out M4.out, fun e => M4.out e.symm, by simpa using setCell_blk X4.out _, map_set MP.out (by omega), B9.out.setCell (by first | (simp; done) | (simp; omega)) _, by simp at *; omega⟩
            case measure => first | (simp [intOf]; done) | (simp [intOf]; omega))
        · obtain rfl : t = n := by omega
          have HLn := Lib.hid (show (faL b xs ys kd lv t).length = t from lz)
          have d0 := cell_blk h4 0; have d1 := cell_blk h4 1
          have zR := (hbz.block (w.heap.size + 1 + 1) (by omega)).trans YR.out
          have r0 := cell_blk zR 0; have r1 := cell_blk zR 1; have g0 := frozen_blk zR 0; have g1 := frozen_blk zR 1
          have NR := Lib.hid (show (Value.slice az (faL b xs ys kd lv t).length cz).ownBlock ≠ some (w.heap.size + 1 + 1) from fun h => by have := (own_block_lt ho _ h).1; omega)
          have BW := Lib.hid (Below.trans_size HB.out HZ.out)
          generalize cf b xs ys kd lv t = C at *
          generalize faL b xs ys kd lv t = L at *
          clear ho hne h4 hmap hbz zA zB zR lz
          go_wp2_with fail
          refine bodyPost_ret (v := .tuple #[.agg #[.int .i64 b, .slice az L.length cz], .int .i64 C]) (by simp [results, Try.results59, go_sem, *]) rfl ?_
          exact ⟨_, rfl, own_base (own_setCell_ne (own_setCell_ne HO.out NR.out) NR.out) (by omega), (BW.out.setCell (by simp <;> omega) _).setCell (by simp <;> omega) _⟩
end Go.Proofs.Ytkhjmokjbiepgaa
