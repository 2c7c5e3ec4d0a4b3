/- ValidProgram of both packages: the loops. -/
import Derived.IntWalk
import Derived.Deep.QuietTactic
import Derived.BigQuiet
import Derived.Test.YtaipfcbphfjgoaaVp
namespace Go.Proofs.Ytaipfcbphfjgoaa
open Go.ChangeShapes Go.WideShapes Go.ChangeAt Go.RowKit
theorem db_next {op d : Int} (h0 : 0 ≤ d) (h4 : d ≤ 4) : (dbF op d = 0 → dbD op d = nextD op d ∧ 0 ≤ nextD op d ∧ nextD op d ≤ 4) ∧ (dbF op d ≠ 0 → nextD op d < 0 ∨ 4 < nextD op d) := by
  by_cases h10 : op = 10
  · subst h10
    have e : nextD 10 d = d - 1 := rfl
    rw [e]
    by_cases hd : d = 0
    · subst hd; simp [dbF, dbD]
    · simp only [dbF, dbD, if_pos, if_neg hd]
      exact ⟨fun _ => ⟨by simp, by omega, by omega⟩, fun h => absurd (by simp) h⟩
  · cases ho : opensB op
    · have e : nextD op d = d := nextD_of.2.2 ho h10
      rw [e]
      simp [dbF, dbD, h10, ho]; omega
    · have e : nextD op d = d + 1 := nextD_of.1 ho
      rw [e]
      by_cases hd : d = 4
      · subst hd; simp [dbF, dbD, h10, ho]
      · simp [dbF, dbD, h10, ho, hd]; omega
theorem ret_bvv {c : Bool} {x : Bool} (h : x = c) : Ending.returned (.bool c) = .returned (.bool x) := by rw [h]
set_option maxHeartbeats 4000000 in
theorem impl_ValidProgram {B : Nat} {u : Value} {n : Nat} {zs : List Int} (w : World) (h1 : OwnR w B u n zs) (hlen : n ≤ 1048576) :
    Calls Try.prog 25 #[u] w (RetV w (.bool (validP zs))) := by
  have hz := recr_len h1
  obtain ⟨a1, c1, rfl, m1, q1⟩ := recr_form h1
  clear h1
  have Q1 := Lib.hid q1; clear q1
  go_enter Try.func25, Try.ntmps25
  go_wp2_with fail
  go_loopw [3, 5, 6, 7, 10] (fun dd _ _ _ i wr => ∃ (j : Nat) (d : Int), j ≤ n ∧ i = .int .i64 j ∧ dd = .int .i64 d ∧ 0 ≤ d ∧ d ≤ 4 ∧ Hid (depthAt zs j = some d) ∧ Below w.heap.size w wr) (fun _ _ _ _ i _ => n - (intOf i).toNat)
  case atStart => exact ⟨0, 0, Nat.zero_le _, rfl, rfl, by omega, by omega, rfl, Below.refl _ _⟩
  case round =>
    obtain ⟨j, d, hj, rfl, rfl, d0, d4, hd, hb⟩ := hrel
    by_cases hlt : j < n
    · obtain ⟨g, rfl, x0, x1⟩ := Q1.out j hlt
      have gl := World.block_lt_of_cell? w _ x0
      have r0 := (hb.cell gl).trans x0; have r1 := (hb.cell (World.block_lt_of_cell? w _ x1)).trans x1
      have hst := depth_step hd.out
      clear x0 x1 hd
      have hsz := hb.size
      have gl2 : g < wr.heap.size := by have : g < w.heap.size := gl; omega
      have HB := Lib.hid hb; clear hb
      generalize nth zs (j * 2) = op at *
      generalize nth zs (j * 2 + 1) = ar at *
      cases hok : okI op ar
      · have HO := Lib.hid hok
        have HR := Lib.hid (show validP zs = false from valid_fail hz (show j + 1 ≤ n by omega) (by rw [hst]; exact dStep_none1 hok))
        clear hst hok
        go_wp2_with fail
        refine (impl_isInstr _ _ _).mono ?_; rintro e w1 ⟨rfl, b1⟩; rw [HO.out]
        have B1 := Lib.hid (Below.trans_size (HB.out.alloc HB.out.size _) b1); clear b1
        go_wp2_with fail
        go_ret
        exact ⟨ret_bvv HR.out, B1.out⟩
      · have HO := Lib.hid hok
        have hdb := db_next (op := op) d0 d4
        have HST := Lib.hid hst; have HDB := Lib.hid hdb; clear hst hdb hok
        by_cases hf : dbF op d = 0
        · obtain ⟨e1, e2, e3⟩ := HDB.out.1 hf
          have HN := Lib.hid (show depthAt zs (j + 1) = some (nextD op d) from by rw [HST.out]; exact dStep_some HO.out e2 e3)
          have HF := Lib.hid hf; have HE := Lib.hid e1; clear hf e1
          go_wp2_with fail
          refine (impl_isInstr _ _ _).mono ?_; rintro e w1 ⟨rfl, b1⟩; rw [HO.out]
          obtain ⟨y0, bw1, s1, -⟩ := blk1 b1
          have c0 := cell_blk y0 0; have c1 := cell_blk y0 1
          have lt1 : wr.heap.size < w1.heap.size := (by omega)
          have B1 := Lib.hid (Below.trans_size HB.out bw1); clear b1 bw1 y0
          go_wp2_with fail
          refine (impl_depthBehind _ _ _ _ d0 d4).mono ?_; rintro e w2 ⟨rfl, b2⟩; rw [HF.out, HE.out]
          have B2 := Lib.hid (Below.trans_size B1.out b2); clear b2
          go_wp2_with fail
          go_roundw
          case rel => exact ⟨j + 1, nextD op d, by omega, by go_num, rfl, e2, e3, HN.out, B2.out⟩
          case measure => first | (simp [intOf]; done) | (simp [intOf]; omega)
        · have HR := Lib.hid (show validP zs = false from valid_fail hz (show j + 1 ≤ n by omega) (by rw [HST.out]; exact dStep_none2 (HDB.out.2 hf)))
          go_wp2_with fail
          refine (impl_isInstr _ _ _).mono ?_; rintro e w1 ⟨rfl, b1⟩; rw [HO.out]
          obtain ⟨y0, bw1, s1, -⟩ := blk1 b1
          have c0 := cell_blk y0 0; have c1 := cell_blk y0 1
          have lt1 : wr.heap.size < w1.heap.size := (by omega)
          have B1 := Lib.hid (Below.trans_size HB.out bw1); clear b1 bw1 y0
          go_wp2_with fail
          refine (impl_depthBehind _ _ _ _ d0 d4).mono ?_; rintro e w2 ⟨rfl, b2⟩
          have B2 := Lib.hid (Below.trans_size B1.out b2); clear b2
          generalize dbF op d = F at *
          generalize dbD op d = D at *
          go_wp2_with fail
          go_ret
          exact ⟨ret_bvv HR.out, B2.out⟩
    · obtain rfl : j = n := by omega
      have HR := Lib.hid (valid_done hz hd.out); clear hd
      have HB := Lib.hid hb; clear hb
      by_cases hd0 : d = 0
      · have HR2 := Lib.hid (show validP zs = decide ((j : Int) ≤ 120) from by rw [HR.out]; simp [hd0])
        subst hd0
        go_wp2_with fail
        go_ret
        exact ⟨ret_bvv HR2.out, HB.out⟩
      · have HR2 := Lib.hid (show validP zs = false from by rw [HR.out]; simp [hd0])
        go_wp2_with fail
        go_ret
        exact ⟨ret_bvv HR2.out, HB.out⟩
set_option maxHeartbeats 4000000 in
theorem spec_l11Ok {B : Nat} {u : Value} {n : Nat} {zs : List Int} (w : World) (h1 : OwnR w B u n zs) (hlen : n ≤ 1048576) :
    Calls Try.prog 41 #[u] w fun e w' => e = .returned (.bool (validP zs)) ∧ ∃ k, w' = w.drewN k := by
  have hz := recr_len h1
  obtain ⟨a1, c1, rfl, m1, q1⟩ := recr_form h1
  clear h1
  have Q1 := Lib.hid q1; clear q1
  go_enter Try.func41, Try.ntmps41
  go_wp2_with fail
  go_loopw [3, 4] (fun dd i wr => ∃ (j : Nat) (d : Int), j ≤ n ∧ i = .int .i64 j ∧ dd = .int .i64 d ∧ 0 ≤ d ∧ d ≤ 4 ∧ Hid (depthAt zs j = some d) ∧ ∃ k, wr = w.drewN k) (fun _ i _ => n - (intOf i).toNat)
  case atStart => exact ⟨0, 0, Nat.zero_le _, rfl, rfl, by omega, by omega, rfl, 0, rfl⟩
  case round =>
    obtain ⟨j, d, hj, rfl, rfl, d0, d4, hd, k, rfl⟩ := hrel
    by_cases hlt : j < n
    · obtain ⟨g, rfl, x0, x1⟩ := Q1.out j hlt
      have hst := depth_step hd.out
      clear hd
      generalize nth zs (j * 2) = op at *
      generalize nth zs (j * 2 + 1) = ar at *
      have i0 : (0 : Int) ≤ (j : Int) := by omega
      have i1 : (j : Int) < (n : Int) := by omega
      have K1 := Lib.hid (fun wx => spec_l00In op 1 10 wx)
      have K2 := Lib.hid (fun wx => spec_l11Arg op ar wx)
      cases hin : inB op 1 10
      · have HR := Lib.hid (show validP zs = false from valid_fail hz (show j + 1 ≤ n by omega) (by rw [hst]; exact dStep_none1 (by unfold okI; rw [hin]; rfl)))
        rw [hin] at K1
        clear hst hin
        go_wp2_with fail
        go_quiet ((first | (go_at_call 35; exact quiet_same2 (K1.out _)) | (go_at_call 52; exact quiet_same2 (K2.out _))))
        clear i0 i1
        go_wp2_with fail
        go_ret
        exact ⟨ret_bvv HR.out, by first | exact ⟨_, rfl⟩ | exact drewN_ex _ _ _⟩
      cases harg : argB op ar
      · have HR := Lib.hid (show validP zs = false from valid_fail hz (show j + 1 ≤ n by omega) (by rw [hst]; exact dStep_none1 (by unfold okI; rw [harg, hin]; rfl)))
        rw [hin] at K1; rw [harg] at K2
        clear hst hin harg
        go_wp2_with fail
        go_quiet ((first | (go_at_call 35; exact quiet_same2 (K1.out _)) | (go_at_call 52; exact quiet_same2 (K2.out _))))
        clear i0 i1
        go_wp2_with fail
        go_ret
        exact ⟨ret_bvv HR.out, by first | exact ⟨_, rfl⟩ | exact drewN_ex _ _ _⟩
      have HO := Lib.hid (show okI op ar = true from by unfold okI; rw [hin, harg]; rfl)
      rw [hin] at K1; rw [harg] at K2
      have HST := Lib.hid hst; clear hst hin harg
      cases hp : opensB op
      · have HP := Lib.hid hp
        by_cases h10 : op = 10
        · subst h10
          have HE := Lib.hid (show nextD 10 d = d - 1 from rfl)
          by_cases hd0 : d = 0
          · subst hd0
            have HR := Lib.hid (show validP zs = false from valid_fail hz (show j + 1 ≤ n by omega) (by rw [HST.out]; exact dStep_none2 (by rw [HE.out]; omega)))
            clear hp
            go_wp2_with fail
            go_quiet ((first | (go_at_call 35; exact quiet_same2 (K1.out _)) | (go_at_call 52; exact quiet_same2 (K2.out _))))
            clear i0 i1
            go_wp2_with fail
            refine (spec_l11Opens _ _).mono ?_; rintro e wy ⟨rfl, rfl⟩; rw [HP.out]
            go_wp2_with fail
            go_ret
            exact ⟨ret_bvv HR.out, by first | exact ⟨_, rfl⟩ | exact drewN_ex _ _ _⟩
          · have e2 : 0 ≤ nextD 10 d := by rw [HE.out]; omega
            have e3 : nextD 10 d ≤ 4 := by rw [HE.out]; omega
            have HN := Lib.hid (show depthAt zs (j + 1) = some (nextD 10 d) from by rw [HST.out]; exact dStep_some HO.out e2 e3)
            clear hp
            go_wp2_with fail
            go_quiet ((first | (go_at_call 35; exact quiet_same2 (K1.out _)) | (go_at_call 52; exact quiet_same2 (K2.out _))))
            clear i0 i1
            go_wp2_with fail
            refine (spec_l11Opens _ _).mono ?_; rintro e wy ⟨rfl, rfl⟩; rw [HP.out]
            go_wp2_with fail
            go_roundw
            case rel => exact ⟨j + 1, nextD 10 d, by omega, by go_num, by rw [HE.out], e2, e3, HN.out, by first | exact ⟨_, rfl⟩ | exact drewN_ex _ _ _⟩
            case measure => first | (simp [intOf]; done) | (simp [intOf]; omega)
        · have HE := Lib.hid (nextD_of.2.2 hp h10 : nextD op d = d)
          have e2 : 0 ≤ nextD op d := by rw [HE.out]; omega
          have e3 : nextD op d ≤ 4 := by rw [HE.out]; omega
          have HN := Lib.hid (show depthAt zs (j + 1) = some (nextD op d) from by rw [HST.out]; exact dStep_some HO.out e2 e3)
          clear hp
          go_wp2_with fail
          go_quiet ((first | (go_at_call 35; exact quiet_same2 (K1.out _)) | (go_at_call 52; exact quiet_same2 (K2.out _))))
          clear i0 i1
          go_wp2_with fail
          refine (spec_l11Opens _ _).mono ?_; rintro e wy ⟨rfl, rfl⟩; rw [HP.out]
          go_wp2_with fail
          go_roundw
          case rel => exact ⟨j + 1, nextD op d, by omega, by go_num, by rw [HE.out], e2, e3, HN.out, by first | exact ⟨_, rfl⟩ | exact drewN_ex _ _ _⟩
          case measure => first | (simp [intOf]; done) | (simp [intOf]; omega)
      · have HP := Lib.hid hp
        have HE := Lib.hid (nextD_of.1 hp : nextD op d = d + 1)
        have h10 : ¬ op = 10 := by rintro rfl; cases hp
        by_cases hd4 : d = 4
        · subst hd4
          have HR := Lib.hid (show validP zs = false from valid_fail hz (show j + 1 ≤ n by omega) (by rw [HST.out]; exact dStep_none2 (by rw [HE.out]; omega)))
          clear hp
          go_wp2_with fail
          go_quiet ((first | (go_at_call 35; exact quiet_same2 (K1.out _)) | (go_at_call 52; exact quiet_same2 (K2.out _))))
          clear i0 i1
          go_wp2_with fail
          refine (spec_l11Opens _ _).mono ?_; rintro e wy ⟨rfl, rfl⟩; rw [HP.out]
          go_wp2_with fail
          go_ret
          exact ⟨ret_bvv HR.out, by first | exact ⟨_, rfl⟩ | exact drewN_ex _ _ _⟩
        · have e2 : 0 ≤ nextD op d := by rw [HE.out]; omega
          have e3 : nextD op d ≤ 4 := by rw [HE.out]; omega
          have HN := Lib.hid (show depthAt zs (j + 1) = some (nextD op d) from by rw [HST.out]; exact dStep_some HO.out e2 e3)
          clear hp
          go_wp2_with fail
          go_quiet ((first | (go_at_call 35; exact quiet_same2 (K1.out _)) | (go_at_call 52; exact quiet_same2 (K2.out _))))
          clear i0 i1
          go_wp2_with fail
          refine (spec_l11Opens _ _).mono ?_; rintro e wy ⟨rfl, rfl⟩; rw [HP.out]
          go_wp2_with fail
          go_roundw
          case rel => exact ⟨j + 1, nextD op d, by omega, by go_num, by rw [HE.out], e2, e3, HN.out, by first | exact ⟨_, rfl⟩ | exact drewN_ex _ _ _⟩
          case measure => first | (simp [intOf]; done) | (simp [intOf]; omega)
    · obtain rfl : j = n := by omega
      have HR := Lib.hid (valid_done hz hd.out); clear hd
      by_cases hd0 : d = 0
      · have HR2 := Lib.hid (show validP zs = decide ((j : Int) ≤ 120) from by rw [HR.out]; simp [hd0])
        subst hd0
        go_wp2_with fail
        go_ret
        exact ⟨ret_bvv HR2.out, _, rfl⟩
      · have HR2 := Lib.hid (show validP zs = false from by rw [HR.out]; simp [hd0])
        go_wp2_with fail
        go_ret
        exact ⟨ret_bvv HR2.out, _, rfl⟩
theorem spec_ValidProgram {B : Nat} {u : Value} {n : Nat} {zs : List Int} (w : World) (h1 : OwnR w B u n zs) (hlen : n ≤ 1048576) :
    Calls Try.prog 24 #[u] w (RetV w (.bool (validP zs))) := by
  have HO := Lib.hid h1; clear h1
  go_enter Try.func24, Try.ntmps24
  go_wp2_with fail
  refine (spec_l11Ok _ HO.out hlen).mono ?_; rintro e w1 ⟨rfl, k, rfl⟩
  go_wp2_with fail
  go_ret
  exact ⟨rfl, below_drewN _ _⟩
end Go.Proofs.Ytaipfcbphfjgoaa
