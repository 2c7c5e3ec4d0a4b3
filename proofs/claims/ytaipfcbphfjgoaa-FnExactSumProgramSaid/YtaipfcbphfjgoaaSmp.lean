/- SumProgram of both packages: a list of instructions that grows in a loop over a slice. -/
import Derived.IntWalk
import Derived.Test.YtaipfcbphfjgoaaGrowR
namespace Go.Proofs.Ytaipfcbphfjgoaa
open Go.ChangeShapes Go.WideShapes Go.ChangeAt Go.RowKit
def isV (x : Int) : Bool := inB x 0 1000000000000
def bodyL (zs : List Int) : List Int := zs.flatMap fun x => [1, x, 2, 1]
def smC (zs : List Int) : Int := if zs.all isV then (if 2 * zs.length + 1 ≤ 120 then 0 else 5) else 2
def smN (zs : List Int) : Nat := if smC zs = 0 ∧ zs.length ≤ 60 then 1 + 2 * zs.length else 0
def sumB (zs : List Int) : List Int := [6, 0] ++ bodyL zs
def smL (zs : List Int) : List Int := if smC zs = 0 ∧ zs.length ≤ 60 then sumB zs else []
theorem body_step {zs : List Int} {j : Nat} (hj : j < zs.length) : bodyL (zs.take (j + 1)) = bodyL (zs.take j) ++ [1, nth zs j, 2, 1] := by
  rw [List.take_succ_eq_append_getElem hj]
  unfold bodyL
  rw [List.flatMap_append]
  simp [nth, List.getD, hj]
theorem recr_litB (w : World) (B : Nat) (xs : List Int) (n : Nat) (hB : B ≤ w.heap.size) (hx : xs.length = n * 2) (hn : n ≤ 1000) : OwnR (w.alloc (.cells (xs.map (Value.int .i64)).toArray 47)) B (.slice (some ⟨w.heap.size, 0, none⟩) n n) n xs := recr_base (recr_lit w xs n hx hn) hB
theorem recr_len0 {w : World} {B : Nat} {v : Value} {n m : Nat} {zs : List Int} (h : OwnR w B v n zs) (e : n = m) : OwnR w B v m zs := e ▸ h
set_option maxHeartbeats 4000000 in
theorem spec_l12Sum {B : Nat} {u : Value} {zs : List Int} (w : World) (h1 : Own w B u zs) (hl : zs.length ≤ 60) :
    Calls Try.prog 39 #[u] w (RetRec w (1 + 2 * zs.length) (sumB zs)) := by
  obtain ⟨a0, c0, rfl, m1, q1⟩ := own_form h1
  have QQ := Lib.hid q1; clear q1 h1
  have HL60 := Lib.hid hl
  go_enter Try.func39, Try.ntmps39
  go_wp2_with fail
  go_loopw [3, 4] (fun vv ii wr => ∃ (j : Nat) (l : List Int) (v : Value), vv = v ∧ j ≤ zs.length ∧ ii = .int .i64 j ∧ OwnR wr w.heap.size v (1 + 2 * j) l ∧ Below w.heap.size w wr ∧ w.heap.size ≤ wr.heap.size ∧ Hid (l = [6, 0] ++ bodyL (zs.take j))) (fun _ ii _ => zs.length - (intOf ii).toNat)
  case atStart =>
    have h0 := recr_litB w w.heap.size [6, 0] 1 (Nat.le_refl _) rfl (by omega)
    exact ⟨0, [6, 0], _, rfl, Nat.zero_le _, rfl, h0, (Below.refl _ _).alloc (Nat.le_refl _) _, by simp, Lib.hid rfl⟩
  case round =>
    obtain ⟨j, l, v, rfl, hj, rfl, ho, hbw, hs, hf⟩ := hrel
    obtain ⟨a, cap, rfl, -, -⟩ := recr_form ho
    have HOL := Lib.hid ho
    by_cases hlt : j < zs.length
    · have hl60 := HL60.out
      obtain ⟨g, rfl, x0⟩ := QQ.out j hlt
      have r0 := (hbw.cell (World.block_lt_of_cell? w _ x0)).trans x0
      have gl : g < w.heap.size := World.block_lt_of_cell? w _ x0
      have gl2 : g < wr.heap.size := by omega
      have HBW := Lib.hid hbw
      have HF := Lib.hid (show l ++ [1, nth zs j, 2, 1] = [6, 0] ++ bodyL (zs.take (j + 1)) from by rw [hf.out, body_step hlt, List.append_assoc])
      clear x0 hbw ho hf
      generalize nth zs j = x at *
      go_wp2_with (at_builtin; (refine wp_appR rfl _ _ rfl 2 [1, x, 2, 1] rfl _ (recr_alloc HOL.out _) rfl rfl (heap_last _ _) (by omega) (by simp; omega) ?_; intro v8 w8 ho' hg'; obtain ⟨hb', hs'⟩ := recr_below HBW.out HOL.out hg' (Nat.le_refl _) (by omega); have O8 := Lib.hid ho'; have BO8 := Lib.hid hb'; have s8 := hs'; clear ho' hb' hg' hs'))
      go_wp2_with fail
      refine ⟨⟨j + 1, _, _, rfl, by omega, by go_num, recr_len0 O8.out (by omega), BO8.out, s8, HF.out⟩, ?_⟩
      first | (simp [intOf]; done) | (simp [intOf]; omega)
    · obtain rfl : j = zs.length := by omega
      have HBW := Lib.hid hbw
      have HF := Lib.hid (show l = sumB zs from by unfold sumB; rw [hf.out, List.take_of_length_le (Nat.le_refl _)])
      clear hbw ho hf
      go_wp2_with fail
      go_ret
      exact ⟨_, rfl, by rw [← HF.out]; exact HOL.out, HBW.out⟩
set_option maxHeartbeats 4000000 in
theorem impl_SumProgram {B : Nat} {u : Value} {zs : List Int} (w : World) (h1 : Own w B u zs) (hlen : zs.length ≤ 1048576) :
    Calls Try.prog 21 #[u] w (RetRecI w (smN zs) (smL zs) (smC zs)) := by
  have HO := Lib.hid h1
  obtain ⟨a0, c0, rfl, m1, q1⟩ := own_form h1
  have QQ := Lib.hid q1; clear q1 h1
  go_enter Try.func21, Try.ntmps21
  go_wp2_with fail
  go_loop [5, 11] (fun _ ii => ∃ j : Nat, j ≤ zs.length ∧ ii = .int .i64 j ∧ Hid ((zs.take j).all isV = true)) (fun _ ii => zs.length - (intOf ii).toNat)
  case atStart => exact ⟨0, Nat.zero_le _, rfl, Lib.hid rfl⟩
  case round =>
    obtain ⟨j, hj, rfl, hall⟩ := hrel
    by_cases hlt : j < zs.length
    · obtain ⟨g, rfl, x0⟩ := QQ.out j hlt
      cases hp : inB (nth zs j) 0 1000000000000
      · have HR := Lib.hid (show zs.all isV = false from all_fail (p := isV) hlt hp)
        have HC := Lib.hid (show smC zs = 2 from by unfold smC; rw [HR.out]; rfl)
        have HN := Lib.hid (show smN zs = 0 from by unfold smN; rw [HC.out]; rfl)
        have HL := Lib.hid (show smL zs = [] from by unfold smL; rw [HC.out]; rfl)
        have HP := Lib.hid hp; clear hp hall
        go_wp2_with fail
        refine (impl_between _ _ _ _).mono ?_; rintro e w2 ⟨rfl, rfl⟩; rw [HP.out]
        go_wp2_with fail
        refine bodyPost_ret (v := .tuple #[.slice none 0 0, .int .i64 2]) (by simp [results, Try.results21, go_sem, *]) rfl ?_
        exact ⟨_, by rw [HC.out], by rw [HN.out, HL.out]; exact recr_nil, Below.refl _ _⟩
      · have HA := Lib.hid (all_step (p := isV) hlt hall.out hp)
        have HP := Lib.hid hp; clear hp hall
        go_wp2_with fail
        refine (impl_between _ _ _ _).mono ?_; rintro e w2 ⟨rfl, rfl⟩; rw [HP.out]
        go_wp2_with fail
        go_round
        case rel => exact ⟨j + 1, by omega, by go_num, HA.out⟩
        case measure => first | (simp [intOf]; done) | (simp [intOf]; omega)
    · have HA := Lib.hid (show zs.all isV = true from all_done (p := isV) hlt hall.out)
      clear hall
      by_cases hb : 2 * zs.length + 1 ≤ 120
      · have HC := Lib.hid (show smC zs = 0 from by unfold smC; rw [HA.out, if_pos hb]; rfl)
        have HN := Lib.hid (show smN zs = 1 + 2 * zs.length from by unfold smN; rw [if_pos ⟨HC.out, by omega⟩])
        have HL := Lib.hid (show smL zs = sumB zs from by unfold smL; rw [if_pos ⟨HC.out, by omega⟩])
        obtain rfl : j = zs.length := by omega
        have hbI : ¬ (120 : Int) < 2 * (zs.length : Int) + 1 := by omega
        have hl60 : zs.length ≤ 60 := by omega
        have HL60 := Lib.hid hl60
        clear hj hlt hb hl60
        go_wp2_with fail
        go_loopw [6, 8, 28] (fun vv _ ii wr => ∃ (j : Nat) (l : List Int) (v : Value), vv = v ∧ j ≤ zs.length ∧ ii = .int .i64 j ∧ OwnR wr w.heap.size v (1 + 2 * j) l ∧ Below w.heap.size w wr ∧ w.heap.size ≤ wr.heap.size ∧ Hid (l = [6, 0] ++ bodyL (zs.take j))) (fun _ _ ii _ => zs.length - (intOf ii).toNat)
        case atStart =>
          have h0 := recr_litB w w.heap.size [6, 0] 1 (Nat.le_refl _) rfl (by omega)
          exact ⟨0, [6, 0], _, rfl, Nat.zero_le _, rfl, h0, (Below.refl _ _).alloc (Nat.le_refl _) _, by simp, Lib.hid rfl⟩
        case round =>
          obtain ⟨j, l, v, rfl, hj, rfl, ho, hbw, hs, hf⟩ := hrel
          obtain ⟨a, cap, rfl, -, -⟩ := recr_form ho
          have HOL := Lib.hid ho
          by_cases hlt : j < zs.length
          · have hl60 := HL60.out
            obtain ⟨g, rfl, x0⟩ := QQ.out j hlt
            have r0 := (hbw.cell (World.block_lt_of_cell? w _ x0)).trans x0
            have gl : g < w.heap.size := World.block_lt_of_cell? w _ x0
            have gl2 : g < wr.heap.size := by omega
            have HBW := Lib.hid hbw
            have HF := Lib.hid (show l ++ [1, nth zs j, 2, 1] = [6, 0] ++ bodyL (zs.take (j + 1)) from by rw [hf.out, body_step hlt, List.append_assoc])
            clear x0 hbw ho hf
            generalize nth zs j = x at *
            go_wp2_with (at_builtin; (refine wp_appR rfl _ _ rfl 2 [1, x, 2, 1] rfl _ (recr_alloc HOL.out _) rfl rfl (heap_last _ _) (by omega) (by simp; omega) ?_; intro v8 w8 ho' hg'; obtain ⟨hb', hs'⟩ := recr_below HBW.out HOL.out hg' (Nat.le_refl _) (by omega); have O8 := Lib.hid ho'; have BO8 := Lib.hid hb'; have s8 := hs'; clear ho' hb' hg' hs'))
            go_wp2_with fail
            refine ⟨⟨j + 1, _, _, rfl, by omega, by go_num, recr_len0 O8.out (by omega), BO8.out, s8, HF.out⟩, ?_⟩
            first | (simp [intOf]; done) | (simp [intOf]; omega)
          · obtain rfl : j = zs.length := by omega
            have HBW := Lib.hid hbw
            have HF := Lib.hid (show l = sumB zs from by unfold sumB; rw [hf.out, List.take_of_length_le (Nat.le_refl _)])
            clear hbw ho hf
            go_wp2_with fail
            refine bodyPost_ret (v := .tuple #[.slice a (1 + 2 * zs.length) cap, .int .i64 0]) (by simp [results, Try.results21, go_sem, *]) rfl ?_
            exact ⟨_, by rw [HC.out], by rw [HN.out, HL.out, ← HF.out]; exact HOL.out, HBW.out⟩
      · have HC := Lib.hid (show smC zs = 5 from by unfold smC; rw [HA.out, if_neg hb]; rfl)
        have HN := Lib.hid (show smN zs = 0 from by unfold smN; rw [HC.out]; rfl)
        have HL := Lib.hid (show smL zs = [] from by unfold smL; rw [HC.out]; rfl)
        have hbI : (120 : Int) < 2 * (zs.length : Int) + 1 := by omega
        clear hb
        go_wp2_with fail
        refine bodyPost_ret (v := .tuple #[.slice none 0 0, .int .i64 5]) (by simp [results, Try.results21, go_sem, *]) rfl ?_
        exact ⟨_, by rw [HC.out], by rw [HN.out, HL.out]; exact recr_nil, Below.refl _ _⟩
set_option maxHeartbeats 4000000 in
theorem spec_SumProgram {B : Nat} {u : Value} {zs : List Int} (w : World) (h1 : Own w B u zs) (hlen : zs.length ≤ 1048576) :
    Calls Try.prog 19 #[u] w (RetRecI w (smN zs) (smL zs) (smC zs)) := by
  have HO := Lib.hid h1
  obtain ⟨a0, c0, rfl, m1, q1⟩ := own_form h1
  have QQ := Lib.hid q1; clear q1 h1
  go_enter Try.func19, Try.ntmps19
  go_wp2_with fail
  go_loop [4] (fun ii => ∃ j : Nat, j ≤ zs.length ∧ ii = .int .i64 j ∧ Hid ((zs.take j).all isV = true)) (fun ii => zs.length - (intOf ii).toNat)
  case atStart => exact ⟨0, Nat.zero_le _, rfl, Lib.hid rfl⟩
  case round =>
    obtain ⟨j, hj, rfl, hall⟩ := hrel
    by_cases hlt : j < zs.length
    · obtain ⟨g, rfl, x0⟩ := QQ.out j hlt
      cases hp : inB (nth zs j) 0 1000000000000
      · have HR := Lib.hid (show zs.all isV = false from all_fail (p := isV) hlt hp)
        have HC := Lib.hid (show smC zs = 2 from by unfold smC; rw [HR.out]; rfl)
        have HN := Lib.hid (show smN zs = 0 from by unfold smN; rw [HC.out]; rfl)
        have HL := Lib.hid (show smL zs = [] from by unfold smL; rw [HC.out]; rfl)
        have HP := Lib.hid hp; clear hp hall
        go_wp2_with fail
        refine (spec_l00In _ _ _ _).mono ?_; rintro e w2 ⟨rfl, rfl⟩; rw [HP.out]
        go_wp2_with fail
        refine bodyPost_ret (v := .tuple #[.slice none 0 0, .int .i64 2]) (by simp [results, Try.results19, go_sem, *]) rfl ?_
        exact ⟨_, by rw [HC.out], by rw [HN.out, HL.out]; exact recr_nil, Below.refl _ _⟩
      · have HA := Lib.hid (all_step (p := isV) hlt hall.out hp)
        have HP := Lib.hid hp; clear hp hall
        go_wp2_with fail
        refine (spec_l00In _ _ _ _).mono ?_; rintro e w2 ⟨rfl, rfl⟩; rw [HP.out]
        go_wp2_with fail
        go_round
        case rel => exact ⟨j + 1, by omega, by go_num, HA.out⟩
        case measure => first | (simp [intOf]; done) | (simp [intOf]; omega)
    · have HA := Lib.hid (show zs.all isV = true from all_done (p := isV) hlt hall.out)
      clear hall
      by_cases hb : 2 * zs.length + 1 ≤ 120
      · have HC := Lib.hid (show smC zs = 0 from by unfold smC; rw [HA.out, if_pos hb]; rfl)
        have HN := Lib.hid (show smN zs = 1 + 2 * zs.length from by unfold smN; rw [if_pos ⟨HC.out, by omega⟩])
        have HL := Lib.hid (show smL zs = sumB zs from by unfold smL; rw [if_pos ⟨HC.out, by omega⟩])
        obtain rfl : j = zs.length := by omega
        have hbI : ¬ (120 : Int) < 2 * (zs.length : Int) + 1 := by omega
        have hl60 : zs.length ≤ 60 := by omega
        have HL60 := Lib.hid hl60
        clear hj hlt hb hl60
        go_wp2_with fail
        refine (spec_l12Sum _ HO.out HL60.out).mono ?_; rintro e w2 ⟨v, rfl, o2, b2⟩
        have O2 := Lib.hid o2; have B2 := Lib.hid b2; clear o2 b2
        go_wp2_with fail
        refine bodyPost_ret (v := .tuple #[v, .int .i64 0]) (by simp [results, Try.results19, go_sem, *]) rfl ?_
        exact ⟨_, by rw [HC.out], by rw [HN.out, HL.out]; exact O2.out, B2.out⟩
      · have HC := Lib.hid (show smC zs = 5 from by unfold smC; rw [HA.out, if_neg hb]; rfl)
        have HN := Lib.hid (show smN zs = 0 from by unfold smN; rw [HC.out]; rfl)
        have HL := Lib.hid (show smL zs = [] from by unfold smL; rw [HC.out]; rfl)
        have hbI : (120 : Int) < 2 * (zs.length : Int) + 1 := by omega
        clear hb
        go_wp2_with fail
        refine bodyPost_ret (v := .tuple #[.slice none 0 0, .int .i64 5]) (by simp [results, Try.results19, go_sem, *]) rfl ?_
        exact ⟨_, by rw [HC.out], by rw [HN.out, HL.out]; exact recr_nil, Below.refl _ _⟩
end Go.Proofs.Ytaipfcbphfjgoaa
