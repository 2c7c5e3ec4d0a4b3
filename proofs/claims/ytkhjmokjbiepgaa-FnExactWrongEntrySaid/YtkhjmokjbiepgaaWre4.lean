/- The repair of one entry of a table: the program's way. -/
import Derived.IntWalk
import Derived.Deep.RegionLaw
import Derived.Deep.QuietTactic
import Derived.BigQuiet
import Derived.Deep.OwnRows
import Derived.Deep.Cut
import Derived.Deep.CutRange
import Derived.Deep.CutBlock
import Derived.Test.YtkhjmokjbiepgaaWre
import Derived.Test.YtkhjmokjbiepgaaGrowC
namespace Go.Proofs.Ytkhjmokjbiepgaa
open Go.ChangeShapes Go.WideShapes Go.ChangeAt Go.RowKit
theorem tdiv_bdB {a s M : Int} (h1 : -M ≤ a) (h2 : a ≤ M) : -M ≤ a.tdiv s ∧ a.tdiv s ≤ M := by
  have h := Int.natAbs_tdiv_le_natAbs a s
  omega
theorem own_made (w : World) (n : Nat) (hn : n ≤ 1000) : Own (w.alloc (.cells (madeCells #[.int .i64 0] n) 2)) w.heap.size (.slice (some ⟨w.heap.size, 0, none⟩) n n) (List.replicate n 0) := by
  have hl : (madeCells #[Value.int .i64 0] n).toList = List.replicate n (.int .i64 0) := toList_madeCells_one _ _
  have hs : (madeCells #[Value.int .i64 0] n).size = n := by have := congrArg List.length hl; simpa using this
  refine ⟨by simp, .inr ⟨w.heap.size, n, _, by simp, Nat.le_refl _, heap_last _ _, by simp, by unfold maxLen; omega, by rw [hs]; simp, ?_⟩⟩
  rw [hl]; simp
set_option maxRecDepth 100000 in
set_option maxHeartbeats 4000000 in
theorem impl_replacement {B : Nat} {v : Value} {zs : List Int} (d j : Nat) (w : World) (h : Own w B v zs) (hb : bdd 1000000000 zs) (hl : zs.length ≤ 30) (hd : d ≤ 8) (hn : d + 2 < zs.length) (hj : j < zs.length) :
    Calls Try.prog 43 #[v, .int .i64 d, .int .i64 j] w (RetRep w (repOk zs (d + 1) j) (repV zs (d + 1) j)) := by
  have HBB := Lib.hid hb
  have BZ := Lib.hid (difN_fits (l := zs.set j 0) (by rw [List.length_set]; exact hl) (bdd_set hb (by omega) (by omega) j))
  have BO := Lib.hid (difN_fits (l := oneL zs.length j) (by rw [oneL_len]; exact hl) (bdd_mono (bdd_one zs.length j) (by omega)))
  have HR := Lib.hid (rtR_bd hb (show d + 1 ≤ 9 by omega) j)
  have HS := Lib.hid (rtS_bd zs (show d + 1 ≤ 9 by omega) j)
  have HV := Lib.hid (repV_bd hb (show d + 1 ≤ 9 by omega) j)
  have HE := Lib.hid (fun due found h => inv_end (zs := zs) (o := d + 1) (j := j) (due := due) (found := found) h (by omega) hj (by omega))
  have HO := Lib.hid h
  obtain ⟨a, cap, rfl, hm, -⟩ := own_form h
  clear h hb
  have hmk := run_make_row' (P := Try.prog) 22 2 (.int .i64 0) 8 Try.underlying22 tinfo rfl .i64 .i64 zs.length (by omega) (by omega)
  go_enter Try.func43, Try.ntmps43
  go_upto_region 1 with fail
  go_cut [8, 9] from 16 (fun pz po wx => Own wx w.heap.size pz zs ∧ Own wx w.heap.size po (List.replicate zs.length 0) ∧ Apart pz po ∧ Below w.heap.size w wx)
  case first =>
    go_region_law ((refine step_callG (by rfl) 73 Try.func73 (by decide +kernel) (by rfl) _ _ (by rfl) (vals := #[.slice a zs.length cap]) (by rfl) (impl_copyNumbers _ (by first | exact own_drew HO.out | exact own_alloc (own_drew HO.out) _) (by omega)) ?_; rintro e w1 ⟨v1, rfl, o1, b1⟩; have O1 := Lib.hid o1; have B1 := Lib.hid b1; clear o1 b1; refine ⟨_, rfl, ?_⟩))
    all_goals (
    go_wp2_with fail
    go_meet
    case rel =>
      first
      | exact ⟨own_alloc O1.out _, own_base (own_made w1 _ (by omega)) B1.out.size, fun k hk e => by have := (own_block_lt O1.out k hk).2; simp [Value.ownBlock] at e; omega, (Below.trans_size (Below.refl w.heap.size w).drew B1.out).alloc B1.out.size _⟩
      | exact ⟨own_base O1.out (by simp), own_keep B1.out (own_made w.drew _ (by omega)), fun k hk e => by have := (own_block_lt O1.out k hk).1; simp [Value.ownBlock] at e this; omega, Below.trans_size ((Below.refl w.heap.size w).drew.alloc (Nat.le_refl _) _) B1.out⟩)
  case rest =>
    obtain ⟨oz, oo, ap, bx⟩ := hcut
    have lz := (own_block_lt oz); have lo := (own_block_lt oo)
    obtain ⟨az, cz, rfl, -, qz⟩ := own_form oz
    obtain ⟨ao, co, rfl, -, qo⟩ := own_form oo
    rw [List.length_replicate] at *
    obtain ⟨gz, rfl, rz⟩ := qz j hj
    obtain ⟨go, rfl, ro⟩ := qo j hj
    have fz := (own_at oz rfl hj).2; have fo := (own_at oo (by simp) hj).2
    have ne : ¬ go = gz := fun e => ap gz rfl (by rw [e]; rfl)
    have ne2 : ¬ gz = go := fun e => ne e.symm
    have lgz := lz gz rfl; have lgo := lo go rfl
    have SZ := (own_store oz rfl j 0).1
    have BX := (bx.setCell (p := ⟨gz, j, none⟩) lgz.1 (.int .i64 0)).setCell (p := ⟨go, j, none⟩) lgo.1 (.int .i64 1)
    have OZ := own_setCell_ne (g := go) (j := j) (u := .int .i64 1) SZ (fun h => ne2 (Option.some.inj h))
    have OO : Own _ w.heap.size _ (oneL zs.length j) := (own_store (own_setCell_ne (g := gz) (j := j) (u := .int .i64 0) oo (fun h => ne (Option.some.inj h))) (by simp) j 1).1
    have HBX := Lib.hid BX; have HOZ := Lib.hid OZ; have HOO := Lib.hid OO
    have i1 : (j : Int) < (zs.length : Int) := by omega
    have lw1 : gz < wc.heap.size := lgz.2
    have lw2 : go < wc.heap.size := lgo.2
    clear oz oo ap bx lz lo qz qo lgz lgo SZ hmk BX OZ OO
    go_wp2_with fail
    refine (impl_differences _ _ HOZ.out (by omega) (by omega) (by rw [List.length_set]; exact hl) BZ.out).mono ?_; rintro e w2 ⟨v2, rfl, o2, b2⟩
    have O2 := Lib.hid (own_base o2 HBX.out.size); have B2 := Lib.hid (Below.trans_size HBX.out b2); have OO2 := Lib.hid (own_keep b2 HOO.out)
    clear o2 b2 rz ro fz fo lw1 lw2
    go_wp2_with fail
    refine (impl_differences _ _ OO2.out (by omega) (by omega) (by rw [oneL_len]; exact hl) BO.out).mono ?_; rintro e w3 ⟨v3, rfl, o3, b3⟩
    have O3 := Lib.hid (own_keep b3 O2.out); have P3 := Lib.hid (own_base o3 B2.out.size); have B3 := Lib.hid (Below.trans_size B2.out b3)
    clear o3 b3
    rw [show ((d : Int) + 1).toNat = d + 1 by omega] at *
    obtain ⟨ml, hML⟩ : ∃ ml, zs.length - (d + 1) = ml := ⟨_, rfl⟩
    have e1 : (difN (zs.set j 0) (d + 1)).length = ml := by rw [difN_len, List.length_set, hML]
    have e2 : (difN (oneL zs.length j) (d + 1)).length = ml := by rw [difN_len, oneL_len, hML]
    obtain ⟨ar, cr, hr, -, qr⟩ := own_form O3.out
    obtain ⟨ash, cs, hs, -, qs⟩ := own_form P3.out
    rw [e1] at hr qr; rw [e2] at hs qs
    subst hr; subst hs
    rw [hML] at HE
    have QR := Lib.hid (show ∀ t, t < ml → ∃ g, ar = some ⟨g, 0, none⟩ ∧ w3.cell? ⟨g, t, none⟩ = some (.int .i64 (rtR zs (d + 1) j t)) from qr)
    have QS := Lib.hid (show ∀ t, t < ml → ∃ g, ash = some ⟨g, 0, none⟩ ∧ w3.cell? ⟨g, t, none⟩ = some (.int .i64 (rtS zs (d + 1) j t)) from qs)
    clear qr qs e1 e2 O3 P3
    have hmn : ml ≤ 30 := by omega
    have HML := Lib.hid hML
    clear BZ BO O2 OO2 HOZ HOO HBX ne ne2 i1 hML
    go_wp2_with fail
    go_loopw [12, 13, 14, 15, 37] (fun due fnd _ _ kk wr => ∃ (t : Nat) (x : Int) (f : Bool), kk = .int .i64 (t : Int) ∧ t ≤ ml ∧ due = .int .i64 x ∧ fnd = .bool f ∧ repInv zs (d + 1) j t x f ∧ Below w3.heap.size w3 wr) (fun _ _ _ _ kk _ => ml - (intOf kk).toNat)
    case atStart => exact ⟨0, 0, false, rfl, Nat.zero_le _, rfl, rfl, inv_zero _ _ _, Below.refl _ _⟩
    case round =>
      obtain ⟨t, x, f, rfl, ht, rfl, rfl, hinv, hbw⟩ := hrel
      have INV := Lib.hid hinv; have HB := Lib.hid hbw
      by_cases hlt : t < ml
      · obtain ⟨g1, rfl, r1⟩ := QR.out t hlt
        obtain ⟨g2, rfl, r2⟩ := QS.out t hlt
        have gl1 := World.block_lt_of_cell? w3 _ r1; have gl2 := World.block_lt_of_cell? w3 _ r2
        have s1 := (hbw.cell (p := ⟨g1, t, none⟩) gl1).trans r1
        have s2 := (hbw.cell (p := ⟨g2, t, none⟩) gl2).trans r2
        have lt1 : g1 < wr.heap.size := by have := hbw.size; show g1 < _; exact Nat.lt_of_lt_of_le gl1 this
        have lt2 : g2 < wr.heap.size := by have := hbw.size; show g2 < _; exact Nat.lt_of_lt_of_le gl2 this
        have htm : t < zs.length - (d + 1) := by rw [HML.out]; exact hlt
        have F0 := Lib.hid (inv_fail0 (zs := zs) (o := d + 1) (j := j) htm)
        have F1 := Lib.hid (inv_fail1 (zs := zs) (o := d + 1) (j := j) htm)
        have F2 := Lib.hid (fun h => inv_fail2 (zs := zs) (o := d + 1) (j := j) (due := x) htm h)
        have NX := Lib.hid (fun h h2 h3 => inv_next (zs := zs) (o := d + 1) (j := j) INV.out h h2 h3)
        have SK := Lib.hid (fun h h2 => inv_skip (zs := zs) (o := d + 1) (j := j) INV.out h h2)
        have hR := HR.out t; have hS := HS.out t
        have hT := tdiv_bdB (s := rtS zs (d + 1) j t) hR.1 hR.2
        rw [Int.neg_tdiv] at F2 NX
        clear r1 r2 gl1 gl2 hbw hinv htm
        generalize rtR zs (d + 1) j t = R at *
        generalize rtS zs (d + 1) j t = S at *
        by_cases hs0 : S = 0
        · subst hs0
          by_cases hr0 : R = 0
          · subst hr0
            have HN := Lib.hid (SK.out rfl rfl)
            clear F0 F1 F2 NX SK
            go_wp2_with fail
            go_roundw
            case rel => exact ⟨t + 1, x, f, by go_num, by omega, rfl, rfl, HN.out, HB.out⟩
            case measure => first | (simp [intOf]; done) | (simp [intOf]; omega)
          · have HF := Lib.hid (F0.out rfl hr0)
            clear F0 F1 F2 NX SK
            go_wp2_with fail
            go_ret2
            exact ⟨0, by rw [HF.out]; rfl, by rw [HF.out]; simp, Below.trans_size B3.out HB.out⟩
        · by_cases hm : R.tmod S = 0
          · by_cases hf : f = true ∧ -(R.tdiv S) ≠ x
            · obtain ⟨rfl, hne⟩ := hf
              have HF := Lib.hid (F2.out INV.out hs0 hne)
              clear F0 F1 F2 NX SK
              go_wp2_with fail
              go_ret2
              exact ⟨0, by rw [HF.out]; rfl, by rw [HF.out]; simp, Below.trans_size B3.out HB.out⟩
            · have HN := Lib.hid (NX.out hs0 hm (fun h => by by_cases e : -(R.tdiv S) = x; exact e; exact absurd ⟨h, e⟩ hf))
              clear F0 F1 F2 NX SK
              cases f
              · go_wp2_with fail
                go_roundw
                case rel => exact ⟨t + 1, _, true, by go_num, by omega, rfl, rfl, HN.out, HB.out⟩
                case measure => first | (simp [intOf]; done) | (simp [intOf]; omega)
              · have hx : -(R.tdiv S) = x := by by_cases e : -(R.tdiv S) = x; exact e; exact absurd ⟨rfl, e⟩ hf
                subst hx
                go_wp2_with fail
                go_roundw
                case rel => exact ⟨t + 1, _, true, by go_num, by omega, rfl, rfl, HN.out, HB.out⟩
                case measure => first | (simp [intOf]; done) | (simp [intOf]; omega)
          · have HF := Lib.hid (F1.out hm)
            clear F0 F1 F2 NX SK
            go_wp2_with fail
            go_ret2
            exact ⟨0, by rw [HF.out]; rfl, by rw [HF.out]; simp, Below.trans_size B3.out HB.out⟩
      · obtain rfl : t = ml := by omega
        obtain ⟨hok, hvv⟩ := HE.out x f hinv
        have hvb := HV.out
        rw [hvv] at hvb
        have inv : inB x (-1000000000000000) 1000000000000000 = true := inB_true (by omega) (by omega)
        have FAR := Lib.hid (fun wx => impl_isFar x wx)
        rw [inv] at FAR
        have VV := Lib.hid hvv; have OK := Lib.hid hok
        clear hvv hok hbw hinv
        go_wp2_with fail
        refine (FAR.out _).mono ?_; rintro e w4 ⟨rfl, rfl⟩
        go_wp2_with fail
        go_ret2
        exact ⟨x, by rw [OK.out]; rfl, fun _ => VV.out.symm, Below.trans_size B3.out HB.out⟩
end Go.Proofs.Ytkhjmokjbiepgaa
