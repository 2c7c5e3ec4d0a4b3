/- TableWitness of both packages. -/
import Derived.IntWalk
import Derived.Deep.RegionLaw
import Derived.Deep.Cut
import Derived.Deep.CutRange
import Derived.Deep.CutBlock
import Derived.Test.YtkhjmokjbiepgaaAdt4
namespace Go.Proofs.Ytkhjmokjbiepgaa
open Go.ChangeShapes Go.WideShapes Go.ChangeAt Go.RowKit
/-- The call returns two registers with slices of their own, apart, and a code; nothing that was there has turned. -/
def RetRegs (w : World) (b : Int) (xs ys : List Int) (c : Int) (e : Ending) (w' : World) : Prop :=
  ∃ u v, e = .returned (.tuple #[.agg #[.int .i64 b, u], .agg #[.int .i64 b, v], .int .i64 c]) ∧ Own w' w.heap.size u xs ∧ Own w' w.heap.size v ys ∧ Apart u v ∧ Below w.heap.size w w'
def twC (b : Int) (xs : List Int) : Int := if tfC b xs = 0 then (if tfV b xs < 0 then 3 else 0) else tfC b xs
def twB (b : Int) (xs : List Int) : Int := if twC b xs = 0 then b else 0
def twX (b : Int) (xs : List Int) : List Int := if twC b xs = 0 then (if nth xs ((tfV b xs).toNat * 5) = 1 then [b - 1, nth xs ((tfV b xs).toNat * 5 + 1)] else [nth xs ((tfV b xs).toNat * 5 + 1)]) else []
def twY (b : Int) (xs : List Int) : List Int := if twC b xs = 0 then (if nth xs ((tfV b xs).toNat * 5) = 1 then [1, nth xs ((tfV b xs).toNat * 5 + 2)] else [nth xs ((tfV b xs).toNat * 5 + 2)]) else []
theorem twX_len (b : Int) (xs : List Int) : (twX b xs).length ≤ 2 := by
  unfold twX; split
  · split <;> simp
  · simp
theorem twY_len (b : Int) (xs : List Int) : (twY b xs).length ≤ 2 := by
  unfold twY; split
  · split <;> simp
  · simp
theorem wrF_range (xs ys : List Int) : ∀ f i : Nat, wrF xs ys f i = -1 ∨ ((i : Int) ≤ wrF xs ys f i ∧ wrF xs ys f i < (i : Int) + f) := by
  intro f
  induction f with
  | zero => intro i; exact .inl rfl
  | succ f ih =>
    intro i
    rw [show wrF xs ys (f + 1) i = if rowEq xs ys i = true then wrF xs ys f (i + 1) else (i : Int) from rfl]
    split
    · rcases ih (i + 1) with h | h
      · exact .inl h
      · exact .inr (by omega)
    · exact .inr (by omega)
theorem own_lit {w : World} {B g : Nat} {c : Array Value} {zs : List Int} (h : w.heap[g]? = some (.cells c 2)) (hc : c.toList = zs.map (Value.int .i64)) (hB : B ≤ g) (hl : zs.length ≤ 100) :
    Own w B (.slice (some ⟨g, 0, none⟩) zs.length zs.length) zs := by
  have hs : c.size = zs.length := by have := congrArg List.length hc; simpa using this
  refine ⟨by simp, .inr ⟨g, zs.length, c, rfl, hB, h, Nat.le_refl _, by unfold maxLen; omega, by omega, ?_⟩⟩
  rw [hc, Nat.mul_one]
  exact List.take_of_length_le (by simp)
theorem tw_keep {w : World} {g i n : Nat} {u : Value} {O : Obj} (h : w.heap[n]? = some O) (hne : ¬ n = g) : (w.setCell ⟨g, i, none⟩ u).heap[n]? = some O := (Below.heap_setCell w ⟨g, i, none⟩ u n hne).trans h
theorem al2_0 (w : World) (A B : Obj) : ((w.alloc A).alloc B).drew.heap[w.heap.size]? = some A := (Below.heap_alloc (w.alloc A) B w.heap.size (by simp)).trans (heap_last w A)
theorem al2_1 (w : World) (A B : Obj) : ((w.alloc A).alloc B).drew.heap[w.heap.size + 1]? = some B := by
  show ((w.heap.push A).push B)[w.heap.size + 1]? = some B
  have e : w.heap.size + 1 = (w.heap.push A).size := by simp
  rw [e]; exact Array.getElem?_push_size
theorem al3_0 (w : World) (A B C : Obj) : (((w.alloc A).alloc B).alloc C).drew.heap[w.heap.size]? = some A := (Below.heap_alloc _ C w.heap.size (by simp; omega)).trans (al2_0 w A B)
theorem al3_1 (w : World) (A B C : Obj) : (((w.alloc A).alloc B).alloc C).drew.heap[w.heap.size + 1]? = some B := (Below.heap_alloc _ C (w.heap.size + 1) (by simp)).trans (al2_1 w A B)
theorem al3_2 (w : World) (A B C : Obj) : (((w.alloc A).alloc B).alloc C).drew.heap[w.heap.size + 1 + 1]? = some C := by
  show (((w.heap.push A).push B).push C)[w.heap.size + 1 + 1]? = some C
  have e : w.heap.size + 1 + 1 = ((w.heap.push A).push B).size := by simp
  rw [e]; exact Array.getElem?_push_size
theorem al2_k {w : World} {A B O : Obj} {k : Nat} (h : w.heap[k]? = some O) : ((w.alloc A).alloc B).drew.heap[k]? = some O := by
  have hk : k < w.heap.size := (Array.getElem?_eq_some_iff.1 h).1
  exact ((Below.heap_alloc _ B k (by simp; omega)).trans (Below.heap_alloc w A k hk)).trans h
theorem al2_b (w : World) (A B : Obj) : Below w.heap.size w ((w.alloc A).alloc B).drew := (((Below.refl _ _).alloc (Nat.le_refl _) _).alloc (by simp) _).drew
theorem al3_b (w : World) (A B C : Obj) : Below w.heap.size w (((w.alloc A).alloc B).alloc C).drew := ((((Below.refl _ _).alloc (Nat.le_refl _) _).alloc (by simp) _).alloc (by simp; omega) _).drew
theorem apart_nn (a b : Value) (h : a.ownBlock = none) : Apart a b := fun k hk => by rw [h] at hk; cases hk
theorem tf_parts {b : Int} {n : Nat} {xs : List Int} (hz : xs.length = n * 5) (h : tfC b xs = 0) : ∃ m : Nat, b = (m : Int) ∧ 2 ≤ m ∧ m ≤ 16 ∧ n = 2 * m * m ∧ tfV b xs = wrF xs (rtL m n) n 0 := by
  have hc' := h
  unfold tfC at hc'
  split at hc'
  · rename_i hb
    split at hc'
    · rename_i hf
      obtain ⟨b0, b1⟩ := inB_iff.1 hb
      obtain ⟨m, rfl⟩ := Int.eq_ofNat_of_zero_le (show 0 ≤ b by omega)
      rw [Int.toNat_natCast] at hf
      have hn : n = 2 * m * m := by
        unfold formB at hf
        rw [Bool.and_eq_true, decide_eq_true_iff] at hf
        omega
      exact ⟨m, rfl, by omega, by omega, hn, by unfold tfV; rw [if_pos h, Int.toNat_natCast, ← hn]⟩
    · cases hc'
  · cases hc'
set_option maxHeartbeats 4000000 in
theorem impl_TableWitness {B n : Nat} {u : Value} {xs : List Int} (b : Int) (w : World) (h1 : OwnR w B u n xs) (hlen : n ≤ 1048576) :
    Calls Try.prog 21 #[.int .i64 b, u] w (RetRegs w (twB b xs) (twX b xs) (twY b xs) (twC b xs)) := by
  have hz := recr_len h1
  have HO := Lib.hid h1; clear h1
  by_cases hc : tfC b xs = 0
  rotate_left
  · have hC : twC b xs = tfC b xs := by unfold twC; rw [if_neg hc]
    have hC0 : ¬ twC b xs = 0 := by rw [hC]; exact hc
    rw [show twB b xs = 0 from if_neg hC0, show twX b xs = [] from if_neg hC0, show twY b xs = [] from if_neg hC0, hC]
    have HC := Lib.hid (fun wx h => impl_tableCode (n := n) (u := u) (B := B) (xs := xs) b wx h hlen)
    clear hC hC0
    generalize hcc : tfC b xs = cc at *
    have HCC := Lib.hid hcc; clear hcc
    have hne : (cc != 0) = true := by simp [hc]
    clear hc
    go_enter Try.func21, Try.ntmps21
    go_wp2_with fail
    refine (HC.out _ (recr_alloc (recr_alloc HO.out _) _)).mono ?_; rintro e w1 ⟨rfl, b1⟩
    obtain ⟨y0, y1, bw, s1, -⟩ := blk2 b1
    have c0 := cell_blk y0 0; have c1 := cell_blk y0 1; have c2 := cell_blk y1 0; have c3 := cell_blk y1 1
    have f0 := frozen_blk y0 0; have f1 := frozen_blk y0 1; have f2 := frozen_blk y1 0; have f3 := frozen_blk y1 1
    have BW := Lib.hid bw; clear b1 bw y0 y1
    go_wp2_with fail
    refine bodyPost_ret (v := .tuple #[.agg #[.int .i64 0, .slice none 0 0], .agg #[.int .i64 0, .slice none 0 0], .int .i64 cc]) (by simp [results, Try.results21, go_sem, *]) rfl ?_
    exact ⟨_, _, rfl, own_nil, own_nil, apart_nn _ _ rfl, by first | exact (((BW.out.setCell (by simp) _).setCell (by simp) _).setCell (by simp) _).setCell (by simp) _ | exact BW.out⟩
  obtain ⟨m, rfl, m2, m16, hn, hV⟩ := tf_parts hz hc
  have HC := Lib.hid hc
  have HNN := Lib.hid hn
  by_cases hw0 : wrF xs (rtL m n) n 0 < 0
  · have hC : twC (m : Int) xs = 3 := by unfold twC; rw [if_pos hc, hV, if_pos hw0]
    have hC0 : ¬ twC (m : Int) xs = 0 := by rw [hC]; omega
    rw [show twB (m : Int) xs = 0 from if_neg hC0, show twX (m : Int) xs = [] from if_neg hC0, show twY (m : Int) xs = [] from if_neg hC0, hC]
    clear hC hC0 hn hc hV
    go_enter Try.func21, Try.ntmps21
    go_wp2_with fail
    refine (impl_tableCode _ _ (recr_alloc (recr_alloc HO.out _) _) hlen).mono ?_; rintro e w1 ⟨rfl, b1⟩; rw [HC.out]
    obtain ⟨y0, y1, bw, s1, -⟩ := blk2 b1
    have Y0 := Lib.hid y0; have Y1 := Lib.hid y1; have BW := Lib.hid bw
    have O1 := Lib.hid (recr_keep b1 (recr_alloc (recr_alloc HO.out _) _))
    clear b1 bw y0 y1
    go_wp2_with fail
    refine (impl_wrongRow m _ O1.out HNN.out m2 m16).mono ?_; rintro e w2 ⟨rfl, b2⟩
    have y0 := (b2.block _ (Array.getElem?_eq_some_iff.1 Y0.out).1).trans Y0.out
    have y1 := (b2.block _ (Array.getElem?_eq_some_iff.1 Y1.out).1).trans Y1.out
    have c0 := cell_blk y0 0; have c1 := cell_blk y0 1; have c2 := cell_blk y1 0; have c3 := cell_blk y1 1
    have f0 := frozen_blk y0 0; have f1 := frozen_blk y0 1; have f2 := frozen_blk y1 0; have f3 := frozen_blk y1 1
    have BW2 := Lib.hid (Below.trans_size BW.out b2); clear b2 y0 y1
    generalize wrF xs (rtL m n) n 0 = W at *
    go_wp2_with fail
    refine bodyPost_ret (v := .tuple #[.agg #[.int .i64 0, .slice none 0 0], .agg #[.int .i64 0, .slice none 0 0], .int .i64 3]) (by simp [results, Try.results21, go_sem, *]) rfl ?_
    exact ⟨_, _, rfl, own_nil, own_nil, apart_nn _ _ rfl, by first | exact (((BW2.out.setCell (by simp) _).setCell (by simp) _).setCell (by simp) _).setCell (by simp) _ | exact BW2.out⟩
  have hr : 0 ≤ wrF xs (rtL m n) n 0 ∧ wrF xs (rtL m n) n 0 < n := by
    rcases wrF_range xs (rtL m n) n 0 with h | h <;> omega
  have hC : twC (m : Int) xs = 0 := by unfold twC; rw [if_pos hc, hV, if_neg hw0]
  obtain ⟨k, hk⟩ := Int.eq_ofNat_of_zero_le hr.1
  have HB := Lib.hid (show twB (m : Int) xs = m from if_pos hC)
  have HX := Lib.hid (show twX (m : Int) xs = if nth xs (k * 5) = 1 then [(m : Int) - 1, nth xs (k * 5 + 1)] else [nth xs (k * 5 + 1)] from by unfold twX; rw [if_pos hC, hV, hk, Int.toNat_natCast])
  have HY := Lib.hid (show twY (m : Int) xs = if nth xs (k * 5) = 1 then [1, nth xs (k * 5 + 2)] else [nth xs (k * 5 + 2)] from by unfold twY; rw [if_pos hC, hV, hk, Int.toNat_natCast])
  have HCC := Lib.hid hC
  have HK := Lib.hid hk
  have kn : k < n := by omega
  clear hC hn hc hV hw0 hr hk
  by_cases h1 : nth xs (k * 5) = 1
  · have HX1 := Lib.hid (show twX (m : Int) xs = [(m : Int) - 1, nth xs (k * 5 + 1)] from by rw [HX.out, if_pos h1])
    have HY1 := Lib.hid (show twY (m : Int) xs = [1, nth xs (k * 5 + 2)] from by rw [HY.out, if_pos h1])
    have e1 : (nth xs (k * 5) == 1) = true := by simp [h1]
    clear h1
    go_enter Try.func21, Try.ntmps21
    go_wp2_with fail
    refine (impl_tableCode _ _ (recr_alloc (recr_alloc HO.out _) _) hlen).mono ?_; rintro e w1 ⟨rfl, b1⟩; rw [HC.out]
    obtain ⟨y0, y1, bw, s1, -⟩ := blk2 b1
    have Y0 := Lib.hid y0; have Y1 := Lib.hid y1; have BW := Lib.hid bw
    have O1 := Lib.hid (recr_keep b1 (recr_alloc (recr_alloc HO.out _) _))
    clear b1 bw y0 y1
    go_wp2_with fail
    refine (impl_wrongRow m _ O1.out HNN.out m2 m16).mono ?_; rintro e w2 ⟨rfl, b2⟩; rw [HK.out]
    have y0 := (b2.block _ (Array.getElem?_eq_some_iff.1 Y0.out).1).trans Y0.out
    have y1 := (b2.block _ (Array.getElem?_eq_some_iff.1 Y1.out).1).trans Y1.out
    have c0 := cell_blk y0 0; have c1 := cell_blk y0 1; have c2 := cell_blk y1 0; have c3 := cell_blk y1 1
    have f0 := frozen_blk y0 0; have f1 := frozen_blk y0 1; have f2 := frozen_blk y1 0; have f3 := frozen_blk y1 1
    obtain ⟨a1, cp1, rfl, -, qq⟩ := rows5_of (recr_keep b2 O1.out)
    obtain ⟨gx, rfl, lx, p0, p1, p2, p3, p4⟩ := qq k kn
    have BW2 := Lib.hid (Below.trans_size BW.out b2); have s2 := b2.size
    have l0 : w.heap.size < w2.heap.size := by omega
    have l1 : w.heap.size + 1 < w2.heap.size := by omega
    clear b2 y0 y1 qq
    generalize nth xs (k * 5) = x0 at *
    generalize nth xs (k * 5 + 1) = x1 at *
    generalize nth xs (k * 5 + 2) = x2 at *
    generalize nth xs (k * 5 + 3) = x3 at *
    generalize nth xs (k * 5 + 4) = x4 at *
    have i0 : (0 : Int) ≤ (k : Int) := by omega
    have i1 : (k : Int) < (n : Int) := by omega
    have yr : True := trivial
    have wm : IntKind.i64.wrap ((m : Int) - 1) = (m : Int) - 1 := IntWalk.i64_in _ (by omega)
    go_upto_region 8 with fail
    go_cut [10, 11] from 28 (fun pa pb wq => ∃ (ga gb : Nat), pa = .slice (some ⟨ga, 0, none⟩) 1 1 ∧ pb = .slice (some ⟨gb, 0, none⟩) 1 1 ∧ ga ≠ gb ∧ w2.heap.size ≤ ga ∧ w2.heap.size ≤ gb ∧ wq.heap[ga]? = some (.cells #[.int .i64 (x1)] 2) ∧ wq.heap[gb]? = some (.cells #[.int .i64 (x2)] 2) ∧ wq.heap[w2.heap.size]? = some (.cells #[.int .i64 x0, .int .i64 x1, .int .i64 x2, .int .i64 x3, .int .i64 x4] 69) ∧ Below w2.heap.size w2 wq)
    case first =>
      go_region_law ((fail))
      all_goals (
      go_wp2_with fail
      go_meet
      case rel =>
        first | (refine ⟨_, _, rfl, rfl, ?_, ?_, ?_, al3_1 _ _ _ _, al3_2 _ _ _ _, al3_0 _ _ _ _, al3_b _ _ _ _⟩ <;> first | omega | (simp; done) | (simp; omega)) | (refine ⟨_, _, rfl, rfl, ?_, ?_, ?_, al3_2 _ _ _ _, al3_1 _ _ _ _, al3_0 _ _ _ _, al3_b _ _ _ _⟩ <;> first | omega | (simp; done) | (simp; omega)) | (refine ⟨_, _, rfl, rfl, ?_, ?_, ?_, al2_0 _ _ _, al2_1 _ _ _, al2_k yr, al2_b _ _ _⟩ <;> first | omega | (simp; done) | (simp; omega)) | (refine ⟨_, _, rfl, rfl, ?_, ?_, ?_, al2_1 _ _ _, al2_0 _ _ _, al2_k yr, al2_b _ _ _⟩ <;> first | omega | (simp; done) | (simp; omega)))
    case rest =>
      obtain ⟨ga, gb, rfl, rfl, neab, la, lb, ya, yb, yr', hb⟩ := hcut
      generalize wc = wx at *
      have k0 := (hb.cell (p := ⟨w.heap.size, 0, none⟩) (by show w.heap.size < _; omega)).trans c0; have k1 := (hb.cell (p := ⟨w.heap.size, 1, none⟩) (by show w.heap.size < _; omega)).trans c1; have k2 := (hb.cell (p := ⟨w.heap.size + 1, 0, none⟩) (by show w.heap.size + 1 < _; omega)).trans c2; have k3 := (hb.cell (p := ⟨w.heap.size + 1, 1, none⟩) (by show w.heap.size + 1 < _; omega)).trans c3
      have m0 := (hb.frozen (p := ⟨w.heap.size, 0, none⟩) (by show w.heap.size < _; omega)).trans f0; have m1 := (hb.frozen (p := ⟨w.heap.size, 1, none⟩) (by show w.heap.size < _; omega)).trans f1; have m2' := (hb.frozen (p := ⟨w.heap.size + 1, 0, none⟩) (by show w.heap.size + 1 < _; omega)).trans f2; have m3 := (hb.frozen (p := ⟨w.heap.size + 1, 1, none⟩) (by show w.heap.size + 1 < _; omega)).trans f3
      have BWX := Lib.hid (Below.trans_size BW2.out hb); have sx := hb.size
      clear c0 c1 c2 c3 f0 f1 f2 f3 BW2 hb
      have c0 := k0; have c1 := k1; have c2 := k2; have c3 := k3; have f0 := m0; have f1 := m1; have f2 := m2'; have f3 := m3; have BW2 := BWX; clear k0 k1 k2 k3 m0 m1 m2' m3 BWX
      clear ya yb yr la lb neab; have yr := yr'; have r0 := cell_blk yr 0; have r1 := cell_blk yr 1; have r2 := cell_blk yr 2; clear p0 p1 p2 p3 p4
      have l2 : w2.heap.size < wx.heap.size := (Array.getElem?_eq_some_iff.1 yr).1
      go_upto_region 10 with fail
      go_cut [10, 11] from 40 (fun pa pb wq => ∃ (ga gb : Nat), pa = .slice (some ⟨ga, 0, none⟩) 2 2 ∧ pb = .slice (some ⟨gb, 0, none⟩) 2 2 ∧ ga ≠ gb ∧ wx.heap.size ≤ ga ∧ wx.heap.size ≤ gb ∧ wq.heap[ga]? = some (.cells #[.int .i64 ((m : Int) - 1), .int .i64 (x1)] 2) ∧ wq.heap[gb]? = some (.cells #[.int .i64 (1), .int .i64 (x2)] 2) ∧ wq.heap[w2.heap.size]? = some (.cells #[.int .i64 x0, .int .i64 x1, .int .i64 x2, .int .i64 x3, .int .i64 x4] 69) ∧ Below wx.heap.size wx wq)
      case first =>
        go_region_law ((fail))
        all_goals (
        go_wp2_with fail
        go_meet
        case rel =>
          first | (refine ⟨_, _, rfl, rfl, ?_, ?_, ?_, al3_1 _ _ _ _, al3_2 _ _ _ _, al3_0 _ _ _ _, al3_b _ _ _ _⟩ <;> first | omega | (simp; done) | (simp; omega)) | (refine ⟨_, _, rfl, rfl, ?_, ?_, ?_, al3_2 _ _ _ _, al3_1 _ _ _ _, al3_0 _ _ _ _, al3_b _ _ _ _⟩ <;> first | omega | (simp; done) | (simp; omega)) | (refine ⟨_, _, rfl, rfl, ?_, ?_, ?_, al2_0 _ _ _, al2_1 _ _ _, al2_k yr, al2_b _ _ _⟩ <;> first | omega | (simp; done) | (simp; omega)) | (refine ⟨_, _, rfl, rfl, ?_, ?_, ?_, al2_1 _ _ _, al2_0 _ _ _, al2_k yr, al2_b _ _ _⟩ <;> first | omega | (simp; done) | (simp; omega)))
      case rest =>
        obtain ⟨ga, gb, rfl, rfl, neab, la, lb, ya, yb, yr', hb⟩ := hcut
        generalize wc = wy at *
        have k0 := (hb.cell (p := ⟨w.heap.size, 0, none⟩) (by show w.heap.size < _; omega)).trans c0; have k1 := (hb.cell (p := ⟨w.heap.size, 1, none⟩) (by show w.heap.size < _; omega)).trans c1; have k2 := (hb.cell (p := ⟨w.heap.size + 1, 0, none⟩) (by show w.heap.size + 1 < _; omega)).trans c2; have k3 := (hb.cell (p := ⟨w.heap.size + 1, 1, none⟩) (by show w.heap.size + 1 < _; omega)).trans c3
        have m0 := (hb.frozen (p := ⟨w.heap.size, 0, none⟩) (by show w.heap.size < _; omega)).trans f0; have m1 := (hb.frozen (p := ⟨w.heap.size, 1, none⟩) (by show w.heap.size < _; omega)).trans f1; have m2' := (hb.frozen (p := ⟨w.heap.size + 1, 0, none⟩) (by show w.heap.size + 1 < _; omega)).trans f2; have m3 := (hb.frozen (p := ⟨w.heap.size + 1, 1, none⟩) (by show w.heap.size + 1 < _; omega)).trans f3
        have BWX := Lib.hid (Below.trans_size BW2.out hb); have sx := hb.size
        clear c0 c1 c2 c3 f0 f1 f2 f3 BW2 hb
        have c0 := k0; have c1 := k1; have c2 := k2; have c3 := k3; have f0 := m0; have f1 := m1; have f2 := m2'; have f3 := m3; have BW2 := BWX; clear k0 k1 k2 k3 m0 m1 m2' m3 BWX
        have YA := Lib.hid ya; have YB := Lib.hid yb; clear ya yb
        go_wp2_with fail
        refine bodyPost_ret (v := .tuple #[.agg #[.int .i64 (m : Int), .slice (some ⟨ga, 0, none⟩) 2 2], .agg #[.int .i64 (m : Int), .slice (some ⟨gb, 0, none⟩) 2 2], .int .i64 0]) (by simp [results, Try.results21, go_sem, *]) rfl ?_
        rw [HB.out, HX1.out, HY1.out, HCC.out]
        have na : ¬ ga = w.heap.size := by omega
        have na1 : ¬ ga = w.heap.size + 1 := by omega
        have nb : ¬ gb = w.heap.size := by omega
        have nb1 : ¬ gb = w.heap.size + 1 := by omega
        exact ⟨_, _, rfl, own_lit (tw_keep (tw_keep (tw_keep (tw_keep YA.out na) na) na1) na1) rfl (by omega) (by simp), own_lit (tw_keep (tw_keep (tw_keep (tw_keep YB.out nb) nb) nb1) nb1) rfl (by omega) (by simp), fun _ hk hk2 => neab (Option.some.inj (hk.trans hk2.symm)), (((BW2.out.setCell (by simp) _).setCell (by simp) _).setCell (by simp) _).setCell (by simp) _⟩
  · have HX1 := Lib.hid (show twX (m : Int) xs = [nth xs (k * 5 + 1)] from by rw [HX.out, if_neg h1])
    have HY1 := Lib.hid (show twY (m : Int) xs = [nth xs (k * 5 + 2)] from by rw [HY.out, if_neg h1])
    have e1 : (nth xs (k * 5) == 1) = false := by simp [h1]
    clear h1
    go_enter Try.func21, Try.ntmps21
    go_wp2_with fail
    refine (impl_tableCode _ _ (recr_alloc (recr_alloc HO.out _) _) hlen).mono ?_; rintro e w1 ⟨rfl, b1⟩; rw [HC.out]
    obtain ⟨y0, y1, bw, s1, -⟩ := blk2 b1
    have Y0 := Lib.hid y0; have Y1 := Lib.hid y1; have BW := Lib.hid bw
    have O1 := Lib.hid (recr_keep b1 (recr_alloc (recr_alloc HO.out _) _))
    clear b1 bw y0 y1
    go_wp2_with fail
    refine (impl_wrongRow m _ O1.out HNN.out m2 m16).mono ?_; rintro e w2 ⟨rfl, b2⟩; rw [HK.out]
    have y0 := (b2.block _ (Array.getElem?_eq_some_iff.1 Y0.out).1).trans Y0.out
    have y1 := (b2.block _ (Array.getElem?_eq_some_iff.1 Y1.out).1).trans Y1.out
    have c0 := cell_blk y0 0; have c1 := cell_blk y0 1; have c2 := cell_blk y1 0; have c3 := cell_blk y1 1
    have f0 := frozen_blk y0 0; have f1 := frozen_blk y0 1; have f2 := frozen_blk y1 0; have f3 := frozen_blk y1 1
    obtain ⟨a1, cp1, rfl, -, qq⟩ := rows5_of (recr_keep b2 O1.out)
    obtain ⟨gx, rfl, lx, p0, p1, p2, p3, p4⟩ := qq k kn
    have BW2 := Lib.hid (Below.trans_size BW.out b2); have s2 := b2.size
    have l0 : w.heap.size < w2.heap.size := by omega
    have l1 : w.heap.size + 1 < w2.heap.size := by omega
    clear b2 y0 y1 qq
    generalize nth xs (k * 5) = x0 at *
    generalize nth xs (k * 5 + 1) = x1 at *
    generalize nth xs (k * 5 + 2) = x2 at *
    generalize nth xs (k * 5 + 3) = x3 at *
    generalize nth xs (k * 5 + 4) = x4 at *
    have i0 : (0 : Int) ≤ (k : Int) := by omega
    have i1 : (k : Int) < (n : Int) := by omega
    have yr : True := trivial
    have wm : IntKind.i64.wrap ((m : Int) - 1) = (m : Int) - 1 := IntWalk.i64_in _ (by omega)
    go_upto_region 8 with fail
    go_cut [10, 11] from 28 (fun pa pb wq => ∃ (ga gb : Nat), pa = .slice (some ⟨ga, 0, none⟩) 1 1 ∧ pb = .slice (some ⟨gb, 0, none⟩) 1 1 ∧ ga ≠ gb ∧ w2.heap.size ≤ ga ∧ w2.heap.size ≤ gb ∧ wq.heap[ga]? = some (.cells #[.int .i64 (x1)] 2) ∧ wq.heap[gb]? = some (.cells #[.int .i64 (x2)] 2) ∧ wq.heap[w2.heap.size]? = some (.cells #[.int .i64 x0, .int .i64 x1, .int .i64 x2, .int .i64 x3, .int .i64 x4] 69) ∧ Below w2.heap.size w2 wq)
    case first =>
      go_region_law ((fail))
      all_goals (
      go_wp2_with fail
      go_meet
      case rel =>
        first | (refine ⟨_, _, rfl, rfl, ?_, ?_, ?_, al3_1 _ _ _ _, al3_2 _ _ _ _, al3_0 _ _ _ _, al3_b _ _ _ _⟩ <;> first | omega | (simp; done) | (simp; omega)) | (refine ⟨_, _, rfl, rfl, ?_, ?_, ?_, al3_2 _ _ _ _, al3_1 _ _ _ _, al3_0 _ _ _ _, al3_b _ _ _ _⟩ <;> first | omega | (simp; done) | (simp; omega)) | (refine ⟨_, _, rfl, rfl, ?_, ?_, ?_, al2_0 _ _ _, al2_1 _ _ _, al2_k yr, al2_b _ _ _⟩ <;> first | omega | (simp; done) | (simp; omega)) | (refine ⟨_, _, rfl, rfl, ?_, ?_, ?_, al2_1 _ _ _, al2_0 _ _ _, al2_k yr, al2_b _ _ _⟩ <;> first | omega | (simp; done) | (simp; omega)))
    case rest =>
      obtain ⟨ga, gb, rfl, rfl, neab, la, lb, ya, yb, yr', hb⟩ := hcut
      generalize wc = wx at *
      have k0 := (hb.cell (p := ⟨w.heap.size, 0, none⟩) (by show w.heap.size < _; omega)).trans c0; have k1 := (hb.cell (p := ⟨w.heap.size, 1, none⟩) (by show w.heap.size < _; omega)).trans c1; have k2 := (hb.cell (p := ⟨w.heap.size + 1, 0, none⟩) (by show w.heap.size + 1 < _; omega)).trans c2; have k3 := (hb.cell (p := ⟨w.heap.size + 1, 1, none⟩) (by show w.heap.size + 1 < _; omega)).trans c3
      have m0 := (hb.frozen (p := ⟨w.heap.size, 0, none⟩) (by show w.heap.size < _; omega)).trans f0; have m1 := (hb.frozen (p := ⟨w.heap.size, 1, none⟩) (by show w.heap.size < _; omega)).trans f1; have m2' := (hb.frozen (p := ⟨w.heap.size + 1, 0, none⟩) (by show w.heap.size + 1 < _; omega)).trans f2; have m3 := (hb.frozen (p := ⟨w.heap.size + 1, 1, none⟩) (by show w.heap.size + 1 < _; omega)).trans f3
      have BWX := Lib.hid (Below.trans_size BW2.out hb); have sx := hb.size
      clear c0 c1 c2 c3 f0 f1 f2 f3 BW2 hb
      have c0 := k0; have c1 := k1; have c2 := k2; have c3 := k3; have f0 := m0; have f1 := m1; have f2 := m2'; have f3 := m3; have BW2 := BWX; clear k0 k1 k2 k3 m0 m1 m2' m3 BWX
      clear yr; have yr := yr'; have r0 := cell_blk yr 0
      have YA := Lib.hid ya; have YB := Lib.hid yb; clear ya yb
      go_wp2_with fail
      refine bodyPost_ret (v := .tuple #[.agg #[.int .i64 (m : Int), .slice (some ⟨ga, 0, none⟩) 1 1], .agg #[.int .i64 (m : Int), .slice (some ⟨gb, 0, none⟩) 1 1], .int .i64 0]) (by simp [results, Try.results21, go_sem, *]) rfl ?_
      rw [HB.out, HX1.out, HY1.out, HCC.out]
      have na : ¬ ga = w.heap.size := by omega
      have na1 : ¬ ga = w.heap.size + 1 := by omega
      have nb : ¬ gb = w.heap.size := by omega
      have nb1 : ¬ gb = w.heap.size + 1 := by omega
      exact ⟨_, _, rfl, own_lit (tw_keep (tw_keep (tw_keep (tw_keep YA.out na) na) na1) na1) rfl (by omega) (by simp), own_lit (tw_keep (tw_keep (tw_keep (tw_keep YB.out nb) nb) nb1) nb1) rfl (by omega) (by simp), fun _ hk hk2 => neab (Option.some.inj (hk.trans hk2.symm)), (((BW2.out.setCell (by simp) _).setCell (by simp) _).setCell (by simp) _).setCell (by simp) _⟩
end Go.Proofs.Ytkhjmokjbiepgaa
