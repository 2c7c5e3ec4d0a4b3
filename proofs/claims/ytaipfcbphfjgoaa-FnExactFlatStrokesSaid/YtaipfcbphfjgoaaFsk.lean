/- FlatStrokes of both packages. -/
import Derived.IntWalk
import Derived.Deep.RegionHeld3
import Derived.Test.YtaipfcbphfjgoaaFls
namespace Go.Proofs.Ytaipfcbphfjgoaa
open Go.ChangeShapes Go.WideShapes Go.ChangeAt Go.RowKit
def noSBd (zs : List Int) (n : Nat) : Bool := (List.range n).all fun j => !(opA zs j == 1) && !(opA zs j == 9)
theorem noSBd_iff {zs : List Int} {n : Nat} : noSBd zs n = true ↔ noSB zs n := by
  unfold noSBd noSB
  rw [List.all_eq_true]
  constructor
  · intro h j hj
    have := h j (List.mem_range.2 hj)
    simpa using this
  · intro h j hj
    have := h j (List.mem_range.1 hj)
    simpa using this
theorem noSBd_not {zs : List Int} {n j : Nat} (hj : j < n) (h : opA zs j = 1 ∨ opA zs j = 9) : noSBd zs n = false := by
  rw [Bool.eq_false_iff]
  intro h2
  have := noSBd_iff.1 h2 j hj
  rcases h with h | h
  · exact this.1 h
  · exact this.2 h
theorem noSB_step {zs : List Int} {j : Nat} (h : noSB zs j) (h1 : opA zs j ≠ 1) (h9 : opA zs j ≠ 9) : noSB zs (j + 1) := by
  intro i hi
  by_cases e : i = j
  · subst e; exact ⟨h1, h9⟩
  · exact h i (by omega)
def fsC (zs : List Int) (n : Nat) : Int := if validP zs then (if noSBd zs n then (if (flatR zs 0 n).length ≤ 3000 then 0 else 5) else 6) else 1
def fsL (zs : List Int) (n : Nat) : List Int := if fsC zs n = 0 then flatR zs 0 n else []
theorem fsL_len (zs : List Int) (n : Nat) : (fsL zs n).length ≤ 3000 := by
  by_cases h : (flatR zs 0 n).length ≤ 3000
  · unfold fsL
    split
    · exact h
    · simp
  · have hc : fsC zs n ≠ 0 := by
      unfold fsC
      rw [if_neg h]
      repeat' split
      all_goals decide
    unfold fsL
    rw [if_neg hc]
    simp
set_option maxHeartbeats 8000000 in
theorem impl_FlatStrokes {B : Nat} {u : Value} {n : Nat} {zs : List Int} (w : World) (h1 : OwnR w B u n zs) (hlen : n ≤ 1048576) :
    Calls Try.prog 31 #[u] w (RetOwnI w (fsL zs n) (fsC zs n)) := by
  have hz := recr_len h1
  have HO := Lib.hid h1
  obtain ⟨a1, c1, rfl, m1, q1⟩ := recr_form h1
  clear h1
  have Q1 := Lib.hid q1; clear q1
  cases hv : validP zs
  · have HV := Lib.hid hv
    have HC := Lib.hid (show fsC zs n = 1 from by simp [fsC, hv])
    have HW := Lib.hid (show fsL zs n = [] from by unfold fsL; rw [HC.out]; rfl)
    clear hv
    go_enter Try.func31, Try.ntmps31
    go_wp2_with fail
    refine (impl_ValidProgram _ HO.out hlen).mono ?_; rintro e w1 ⟨rfl, b1⟩; rw [HV.out]; have B1 := Lib.hid b1; have s1 := b1.size; clear b1
    go_wp2_with fail
    refine bodyPost_ret (v := .tuple #[.slice none 0 0, .int .i64 1]) (by simp [results, Try.results31, go_sem, *]) rfl ?_
    exact ⟨_, by rw [HC.out], by rw [HW.out]; exact own_nil, B1.out⟩
  have HV := Lib.hid hv
  have hn120 := (valid_parts hz hv).2.2.1
  clear hv
  go_enter Try.func31, Try.ntmps31
  go_wp2_with fail
  refine (impl_ValidProgram _ HO.out hlen).mono ?_; rintro e w1 ⟨rfl, b1⟩; rw [HV.out]; have B1 := Lib.hid b1; have s1 := b1.size; clear b1
  go_wp2_with fail
  go_loopw [5, 11] (fun _ ii wr => ∃ j : Nat, j ≤ n ∧ ii = .int .i64 j ∧ Hid (noSB zs j) ∧ Hid (Below w.heap.size w wr) ∧ w.heap.size ≤ wr.heap.size) (fun _ ii _ => n - (intOf ii).toNat)
  case atStart => exact ⟨0, Nat.zero_le _, rfl, Lib.hid (fun j hj => absurd hj (Nat.not_lt_zero j)), B1, s1⟩
  case round =>
    obtain ⟨j, hj, rfl, hns, HBW, hs⟩ := hrel
    clear B1 s1
    by_cases hlt : j < n
    · obtain ⟨g, rfl, x0, x1⟩ := Q1.out j hlt
      have gl : g < w.heap.size := World.block_lt_of_cell? w _ x0
      have r0 := (HBW.out.cell gl).trans x0
      have r1 := (HBW.out.cell (World.block_lt_of_cell? w _ x1)).trans x1
      have gl2 : g < wr.heap.size := by omega
      have K := Lib.hid (fun h => noSBd_not (zs := zs) hlt h)
      have ST := Lib.hid (fun h1 h9 => noSB_step hns.out (j := j) h1 h9)
      clear x0 x1 hns
      change wr.cell? _ = some (.int .i64 (opA zs j)) at r0
      generalize opA zs j = op at *
      generalize nth zs (j * 2 + 1) = ar at *
      by_cases h1 : op = 1
      · subst h1
        have HC := Lib.hid (show fsC zs n = 6 from by unfold fsC; rw [HV.out, K.out (.inl rfl)]; rfl)
        have HW := Lib.hid (show fsL zs n = [] from by unfold fsL; rw [HC.out]; rfl)
        clear K ST
        go_wp2_with fail
        refine bodyPost_ret (v := .tuple #[.slice none 0 0, .int .i64 6]) (by simp [results, Try.results31, go_sem, *]) rfl ?_
        exact ⟨_, by rw [HC.out], by rw [HW.out]; exact own_nil, HBW.out.alloc hs _⟩
      by_cases h9 : op = 9
      · subst h9
        have HC := Lib.hid (show fsC zs n = 6 from by unfold fsC; rw [HV.out, K.out (.inr rfl)]; rfl)
        have HW := Lib.hid (show fsL zs n = [] from by unfold fsL; rw [HC.out]; rfl)
        clear K ST h1
        go_wp2_with fail
        refine bodyPost_ret (v := .tuple #[.slice none 0 0, .int .i64 6]) (by simp [results, Try.results31, go_sem, *]) rfl ?_
        exact ⟨_, by rw [HC.out], by rw [HW.out]; exact own_nil, HBW.out.alloc hs _⟩
      have HN := Lib.hid (ST.out h1 h9)
      have n1 : (op == 1) = false := by simpa using h1
      have n9 : (op == 9) = false := by simpa using h9
      clear K ST
      go_wp2_with fail
      go_roundw
      case rel => exact ⟨j + 1, by omega, by go_num, HN, Lib.hid (HBW.out.alloc hs _), by simp; omega⟩
      case measure => first | (simp [intOf]; done) | (simp [intOf]; omega)
    · obtain rfl : j = n := by omega
      have HS := Lib.hid hns.out
      have HK := Lib.hid (noSBd_iff.2 hns.out)
      have HB0 := Lib.hid (bal_all hz HV.out)
      have OW := Lib.hid (recr_keep HBW.out HO.out)
      clear hns
      have FC := Lib.hid (fun wx (h : OwnR wx B (.slice a1 j c1) j zs) => impl_flatCount HV.out HS.out j 0 j 0 wx (by omega) h HB0.out (by omega) (by omega))
      have tb := total_bd hz HV.out HS.out HB0.out (by omega) (by omega)
      by_cases hb : (flatR zs 0 j).length ≤ 3000
      · have FF := Lib.hid (fun wx (h : OwnR wx B (.slice a1 j c1) j zs) => impl_flat HV.out HS.out j 0 j 0 wx (by omega) h HB0.out (by omega) (by omega) hb)
        have HC := Lib.hid (show fsC zs j = 0 from by unfold fsC; rw [HV.out, HK.out, if_pos rfl, if_pos rfl, if_pos hb])
        have HW := Lib.hid (show fsL zs j = flatR zs 0 j from by unfold fsL; rw [HC.out]; rfl)
        generalize flatR zs 0 j = T at *
        generalize hTL : T.length = X at *
        have hbI : ¬ (3000 : Int) < (X : Int) := by omega
        go_wp2_with fail
        refine (FC.out _ OW.out).mono ?_; rintro e w2 ⟨rfl, b2⟩
        have B2 := Lib.hid (Below.trans_size HBW.out b2); have O2 := Lib.hid (recr_keep b2 OW.out); have s2 := b2.size; clear b2
        go_wp2_with fail
        refine (FF.out _ O2.out).mono ?_; rintro e w3 ⟨v3, rfl, o3, b3⟩
        have B3 := Lib.hid (Below.trans_size B2.out b3); have O3 := Lib.hid (own_base o3 (show w.heap.size ≤ w2.heap.size by omega)); clear b3
        obtain ⟨a3, cap3, rfl, -, -⟩ := own_form o3
        clear o3
        rw [hTL] at O3
        go_wp2_with fail
        refine bodyPost_ret (v := .tuple #[.slice a3 T.length cap3, .int .i64 0]) (by simp [results, Try.results31, go_sem, *]) rfl ?_
        exact ⟨_, by rw [HC.out], by rw [HW.out, hTL]; exact O3.out, B3.out⟩
      · have HC := Lib.hid (show fsC zs j = 5 from by unfold fsC; rw [HV.out, HK.out, if_pos rfl, if_pos rfl, if_neg hb])
        have HW := Lib.hid (show fsL zs j = [] from by unfold fsL; rw [HC.out]; rfl)
        generalize (flatR zs 0 j).length = X at *
        have hbI : (3000 : Int) < (X : Int) := by omega
        go_wp2_with fail
        refine (FC.out _ OW.out).mono ?_; rintro e w2 ⟨rfl, b2⟩
        have B2 := Lib.hid (Below.trans_size HBW.out b2); clear b2
        go_wp2_with fail
        refine bodyPost_ret (v := .tuple #[.slice none 0 0, .int .i64 5]) (by simp [results, Try.results31, go_sem, *]) rfl ?_
        exact ⟨_, by rw [HC.out], by rw [HW.out]; exact own_nil, B2.out⟩
set_option maxHeartbeats 8000000 in
theorem spec_FlatStrokes {B : Nat} {u : Value} {n : Nat} {zs : List Int} (w : World) (h1 : OwnR w B u n zs) (hlen : n ≤ 1048576) :
    Calls Try.prog 30 #[u] w (RetOwnI w (fsL zs n) (fsC zs n)) := by
  have hz := recr_len h1
  have HO := Lib.hid h1
  obtain ⟨a1, c1, rfl, m1, q1⟩ := recr_form h1
  clear h1
  have Q1 := Lib.hid q1; clear q1
  cases hv : validP zs
  · have HV := Lib.hid hv
    have HC := Lib.hid (show fsC zs n = 1 from by simp [fsC, hv])
    have HW := Lib.hid (show fsL zs n = [] from by unfold fsL; rw [HC.out]; rfl)
    clear hv
    go_enter Try.func30, Try.ntmps30
    go_wp2_with fail
    refine (spec_l11Ok _ HO.out hlen).mono ?_; rintro e w1 ⟨rfl, k, rfl⟩; rw [HV.out]; have B1 := Lib.hid (below_drewN w k); have s1 := B1.out.size; generalize w.drewN k = w1 at *
    go_wp2_with fail
    refine bodyPost_ret (v := .tuple #[.slice none 0 0, .int .i64 1]) (by simp [results, Try.results30, go_sem, *]) rfl ?_
    exact ⟨_, by rw [HC.out], by rw [HW.out]; exact own_nil, B1.out⟩
  have HV := Lib.hid hv
  have hn120 := (valid_parts hz hv).2.2.1
  clear hv
  go_enter Try.func30, Try.ntmps30
  go_wp2_with fail
  refine (spec_l11Ok _ HO.out hlen).mono ?_; rintro e w1 ⟨rfl, k, rfl⟩; rw [HV.out]; have B1 := Lib.hid (below_drewN w k); have s1 := B1.out.size; generalize w.drewN k = w1 at *
  go_wp2_with fail
  go_loopw [4] (fun ii wr => ∃ j : Nat, j ≤ n ∧ ii = .int .i64 j ∧ Hid (noSB zs j) ∧ Hid (Below w.heap.size w wr) ∧ w.heap.size ≤ wr.heap.size) (fun ii _ => n - (intOf ii).toNat)
  case atStart => exact ⟨0, Nat.zero_le _, rfl, Lib.hid (fun j hj => absurd hj (Nat.not_lt_zero j)), B1, s1⟩
  case round =>
    obtain ⟨j, hj, rfl, hns, HBW, hs⟩ := hrel
    clear B1 s1
    by_cases hlt : j < n
    · obtain ⟨g, rfl, x0, x1⟩ := Q1.out j hlt
      have gl : g < w.heap.size := World.block_lt_of_cell? w _ x0
      have r0 := (HBW.out.cell gl).trans x0
      have r1 := (HBW.out.cell (World.block_lt_of_cell? w _ x1)).trans x1
      have gl2 : g < wr.heap.size := by omega
      have K := Lib.hid (fun h => noSBd_not (zs := zs) hlt h)
      have ST := Lib.hid (fun h1 h9 => noSB_step hns.out (j := j) h1 h9)
      clear x0 x1 hns
      change wr.cell? _ = some (.int .i64 (opA zs j)) at r0
      generalize opA zs j = op at *
      generalize nth zs (j * 2 + 1) = ar at *
      by_cases h1 : op = 1
      · subst h1
        have HC := Lib.hid (show fsC zs n = 6 from by unfold fsC; rw [HV.out, K.out (.inl rfl)]; rfl)
        have HW := Lib.hid (show fsL zs n = [] from by unfold fsL; rw [HC.out]; rfl)
        clear K ST
        go_wp2_with fail
        refine bodyPost_ret (v := .tuple #[.slice none 0 0, .int .i64 6]) (by simp [results, Try.results30, go_sem, *]) rfl ?_
        exact ⟨_, by rw [HC.out], by rw [HW.out]; exact own_nil, HBW.out⟩
      by_cases h9 : op = 9
      · subst h9
        have HC := Lib.hid (show fsC zs n = 6 from by unfold fsC; rw [HV.out, K.out (.inr rfl)]; rfl)
        have HW := Lib.hid (show fsL zs n = [] from by unfold fsL; rw [HC.out]; rfl)
        clear K ST h1
        go_wp2_with fail
        refine bodyPost_ret (v := .tuple #[.slice none 0 0, .int .i64 6]) (by simp [results, Try.results30, go_sem, *]) rfl ?_
        exact ⟨_, by rw [HC.out], by rw [HW.out]; exact own_nil, HBW.out⟩
      have HN := Lib.hid (ST.out h1 h9)
      have n1 : (op == 1) = false := by simpa using h1
      have n9 : (op == 9) = false := by simpa using h9
      clear K ST
      go_wp2_with fail
      go_roundw
      case rel => exact ⟨j + 1, by omega, by go_num, HN, HBW, hs⟩
      case measure => first | (simp [intOf]; done) | (simp [intOf]; omega)
    · obtain rfl : j = n := by omega
      have HS := Lib.hid hns.out
      have HK := Lib.hid (noSBd_iff.2 hns.out)
      have HB0 := Lib.hid (bal_all hz HV.out)
      have OW := Lib.hid (recr_keep HBW.out HO.out)
      clear hns
      have FF := Lib.hid (fun wx (h : OwnR wx B (.slice a1 j c1) j zs) => spec_l11Flat HV.out HS.out j 0 j 0 wx (by omega) h HB0.out (by omega) (by omega))
      go_wp2_with fail
      refine (FF.out _ OW.out).mono ?_
      rintro e w3 (⟨hin, v3, rfl, o3, b3⟩ | ⟨hin, rfl, b3⟩)
      · have HC := Lib.hid (show fsC zs j = 0 from by unfold fsC; rw [HV.out, HK.out, if_pos rfl, if_pos rfl, if_pos hin])
        have HW := Lib.hid (show fsL zs j = flatR zs 0 j from by unfold fsL; rw [HC.out]; rfl)
        generalize flatR zs 0 j = T at *
        have B3 := Lib.hid (Below.trans_size HBW.out b3); have O3 := Lib.hid (own_base o3 (show w.heap.size ≤ wr.heap.size by omega)); clear b3
        obtain ⟨a3, cap3, rfl, -, -⟩ := own_form o3
        clear o3
        generalize hTL : T.length = X at *
        go_wp2_with fail
        refine bodyPost_ret (v := .tuple #[.slice a3 X cap3, .int .i64 0]) (by simp [results, Try.results30, go_sem, *]) rfl ?_
        exact ⟨_, by rw [HC.out], by rw [HW.out]; exact O3.out, B3.out⟩
      · have HC := Lib.hid (show fsC zs j = 5 from by unfold fsC; rw [HV.out, HK.out, if_pos rfl, if_pos rfl, if_neg (by omega)])
        have HW := Lib.hid (show fsL zs j = [] from by unfold fsL; rw [HC.out]; rfl)
        have B3 := Lib.hid (Below.trans_size HBW.out b3); clear b3
        go_wp2_with fail
        refine bodyPost_ret (v := .tuple #[.slice none 0 0, .int .i64 5]) (by simp [results, Try.results30, go_sem, *]) rfl ?_
        exact ⟨_, by rw [HC.out], by rw [HW.out]; exact own_nil, B3.out⟩
end Go.Proofs.Ytaipfcbphfjgoaa
