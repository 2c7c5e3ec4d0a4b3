/- Machines: an argument opened into its numbers and slices; toMachine of the laws. -/
import Derived.IntWalk
import Derived.Lib.SmallJoins
import Derived.Test.YtcooabjcikcpiaaMch2
namespace Go.Proofs.Ytcooabjcikcpiaa
open Go.ChangeShapes Go.WideShapes Go.ChangeAt Go.RowKit
theorem array7 {α : Type} {cs : Array α} (h : cs.size = 7) : ∃ c0 c1 c2 c3 c4 c5 c6, cs = #[c0, c1, c2, c3, c4, c5, c6] := by
  obtain ⟨l⟩ := cs
  match l, h with
  | [c0, c1, c2, c3, c4, c5, c6], _ => exact ⟨c0, c1, c2, c3, c4, c5, c6, rfl⟩
theorem open_reg {H : Type} {enc : TypeId × Value → H} {w : World} {base n : Nat} {v0 v1 : Value} {y : DataW H × List MemPlace} (h : DataW.trod enc Try.prog w base (fun _ => true) true n 24 [v0, v1] = some y) :
    ∃ (b : Int) (a : Option Addr) (len cap : Nat) (zs : List Int), v0 = .int .i64 b ∧ v1 = .slice a len cap ∧ IsRow .i64 w a len cap zs := by
  obtain ⟨y0, y1, m, _, _, h0, h1⟩ := trod_struct2 Try.underlying24 h
  have e0 : Try.prog.cellsOf 2 = 1 := by kernel_rfl
  have e1 : Try.prog.cellsOf 22 = 1 := by kernel_rfl
  simp [e0] at h0
  simp [e1] at h1
  obtain ⟨b, hb, _, _⟩ := DataW.trod_int Try.underlying2 h0
  simp at hb
  rcases open_ints Try.underlying22 Try.underlying2 (by kernel_rfl) h1 with ⟨hcs, _⟩ | ⟨x, l, c, zs, hcs, _, hl, hm, hz, _, hcell, hwz⟩
  · simp at hcs; exact ⟨b, none, 0, 0, [], hb, hcs, .inl ⟨rfl, rfl, rfl, rfl⟩⟩
  · simp at hcs; exact ⟨b, some x, l, c, zs, hb, hcs, .inr ⟨_, rfl, hl, hm, by simpa using hz, hcell, hwz⟩⟩
theorem open_mach {H : Type} {enc : TypeId × Value → H} {W : World} {base b0 : Nat} {r : Reach} {v : Value} {d : DataW H} {p : List MemPlace} (hv : Value.okWide Try.prog W r b0 26 v)
    (h : DataW.Trod enc Try.prog W base (fun _ => true) true 26 v d p) :
    ∃ (a1 a2 a3 q : Int) (s1 s2 s3 : Option Addr) (l1 l2 l3 c1 c2 c3 : Nat) (z1 z2 z3 : List Int), v = .agg #[.int .i64 a1, .slice s1 l1 c1, .int .i64 a2, .slice s2 l2 c2, .int .i64 a3, .slice s3 l3 c3, .int .i64 q] ∧
      IsRow .i64 W s1 l1 c1 z1 ∧ IsRow .i64 W s2 l2 c2 z2 ∧ IsRow .i64 W s3 l3 c3 z3 := by
  obtain ⟨cs, rfl, hsz⟩ := okWide_struct Try.underlying26 hv
  have e7 : Try.prog.cellsOf 26 = 7 := by kernel_rfl
  obtain ⟨x0, x1, x2, x3, x4, x5, x6, rfl⟩ := array7 (hsz.trans e7)
  obtain ⟨fuel, hf⟩ := h
  obtain ⟨y0, y1, y2, y3, n, _, _, h0, h1, h2, h3⟩ := Go.Joins.trod_struct4 Try.underlying26 hf
  have e0 : Try.prog.cellsOf 24 = 2 := by kernel_rfl
  have e1 : Try.prog.cellsOf 2 = 1 := by kernel_rfl
  simp [Value.cells, e0] at h0 h1 h2
  simp [Value.cells, e1] at h3
  obtain ⟨a1, s1, l1, c1, z1, rfl, rfl, i1⟩ := open_reg h0
  obtain ⟨a2, s2, l2, c2, z2, rfl, rfl, i2⟩ := open_reg h1
  obtain ⟨a3, s3, l3, c3, z3, rfl, rfl, i3⟩ := open_reg h2
  obtain ⟨q, hq, _, _⟩ := DataW.trod_int Try.underlying2 h3
  simp at hq; subst hq
  exact ⟨a1, a2, a3, q, s1, s2, s3, l1, l2, l3, c1, c2, c3, z1, z2, z3, rfl, i1, i2, i3⟩
/-- The call returns a machine whose three slices are its own; nothing that was there has turned. -/
def RetMach (w : World) (a1 a2 a3 q : Int) (x1 x2 x3 : List Int) (e : Ending) (w' : World) : Prop :=
  ∃ u1 u2 u3, e = .returned (.agg #[.int .i64 a1, u1, .int .i64 a2, u2, .int .i64 a3, u3, .int .i64 q]) ∧ Own w' w.heap.size u1 x1 ∧ Own w' w.heap.size u2 x2 ∧ Own w' w.heap.size u3 x3 ∧ Below w.heap.size w w'
theorem set01 (a b c d e f g x y : Value) : ((#[a, b, c, d, e, f, g] : Array Value).setIfInBounds 0 x).setIfInBounds 1 y = #[x, y, c, d, e, f, g] := by simp
theorem set23 (a b c d e f g x y : Value) : ((#[a, b, c, d, e, f, g] : Array Value).setIfInBounds 2 x).setIfInBounds 3 y = #[a, b, x, y, e, f, g] := by simp
theorem keepSC {w : World} {g i n : Nat} {u : Value} {O : Obj} (h : w.heap[n]? = some O) (hne : ¬ n = g) : (w.setCell ⟨g, i, none⟩ u).heap[n]? = some O := by
  rw [Below.heap_setCell _ _ _ _ (by exact hne)]; exact h
theorem keepB {w w' : World} {n : Nat} {O : Obj} (b : Below w.heap.size w w') (h : w.heap[n]? = some O) : w'.heap[n]? = some O := by
  rw [b.block n (Array.getElem?_eq_some_iff.1 h).1]; exact h
set_option maxHeartbeats 8000000 in
theorem laws_toMachine (a1 a2 a3 q : Int) (s1 s2 s3 : Option Addr) (l1 l2 l3 c1 c2 c3 : Nat) (z1 z2 z3 : List Int) (w : World) (h1 : IsRow .i64 w s1 l1 c1 z1) (h2 : IsRow .i64 w s2 l2 c2 z2) (h3 : IsRow .i64 w s3 l3 c3 z3) (g1 : l1 ≤ 1048576) (g2 : l2 ≤ 1048576) (g3 : l3 ≤ 1048576) :
    Calls Try.prog 11 #[.agg #[.int .i64 a1, .slice s1 l1 c1, .int .i64 a2, .slice s2 l2 c2, .int .i64 a3, .slice s3 l3 c3, .int .i64 q]] w (RetMach w a1 a2 a3 q (z1.take l1) (z2.take l2) (z3.take l3)) := by
  have H1 := Lib.hid h1; have H2 := Lib.hid h2; have H3 := Lib.hid h3; clear h1 h2 h3
  generalize hZ1 : z1.take l1 = Z1
  generalize hZ2 : z2.take l2 = Z2
  generalize hZ3 : z3.take l3 = Z3
  have HZ1 := Lib.hid hZ1; have HZ2 := Lib.hid hZ2; have HZ3 := Lib.hid hZ3; clear hZ1 hZ2 hZ3
  have nO : ¬ w.heap.size = w.heap.size + 1 + 1 := by omega
  have nR : ¬ w.heap.size + 1 = w.heap.size + 1 + 1 := by omega
  have NO := Lib.hid nO; have NR := Lib.hid nR
  go_enter Try.func11, Try.ntmps11
  go_wp2_with fail
  refine (laws_toRegister a1 s1 l1 c1 z1 _ (H1.out.below ((((Below.refl _ _).alloc (Nat.le_refl _) _).alloc (by simp) _).alloc (by simp; omega) _)) g1).mono ?_; rintro e w1 ⟨v1, rfl, o1, b1⟩
  rw [HZ1.out] at o1
  obtain ⟨x0, x1, x2, bw, hs1, he⟩ := blk3 b1
  rw [he] at o1
  obtain ⟨q1, k1, rfl, -, -⟩ := own_form o1
  have O1 := Lib.hid o1
  have NE1 := Lib.hid (show (Value.slice q1 Z1.length k1).ownBlock ≠ some (w.heap.size + 1 + 1) from fun e => by have := (own_block_lt O1.out _ e).1; omega)
  have X0 := Lib.hid x0; have X1 := Lib.hid x1; have X2 := Lib.hid x2
  have A0 := cell_blk x0 0; have A1 := cell_blk x0 1; have A2 := cell_blk x0 2; have A3 := cell_blk x0 3; have A4 := cell_blk x0 4; have A5 := cell_blk x0 5; have A6 := cell_blk x0 6
  have D0 := cell_blk x2 0; have D1 := cell_blk x2 1; have F0 := frozen_blk x2 0; have F1 := frozen_blk x2 1
  have BW1 := Lib.hid bw
  have lt0 : w.heap.size < w1.heap.size := by omega
  have lt2 : w.heap.size + 1 + 1 < w1.heap.size := by omega
  clear o1 b1 bw he x0 x1 x2
  go_wp2_with fail
  refine (laws_toRegister a2 s2 l2 c2 z2 _ (H2.out.below ((BW1.out.setCell (by first | (simp; done) | (simp; omega)) _).setCell (by first | (simp; done) | (simp; omega)) _)) g2).mono ?_; rintro e w2 ⟨v2, rfl, o2, b2⟩
  rw [HZ2.out] at o2
  have O1b := Lib.hid (own_keep b2 (own_setCell_nm (own_setCell_nm O1.out NE1.out) NE1.out))
  have Y0 := Lib.hid (keepB b2 (keepSC (keepSC X0.out NO.out) NO.out)); have Y1 := Lib.hid (keepB b2 (keepSC (keepSC X1.out NR.out) NR.out))
  have Y2 := Lib.hid (show w2.heap[w.heap.size + 1 + 1]? = some (.cells #[.int .i64 a1, .slice q1 Z1.length k1, .int .i64 0, .slice none 0 0, .int .i64 0, .slice none 0 0, .int .i64 0] 31) from by
    have h := setCell_blkN (i := 1) (setCell_blkN (i := 0) X2.out (.int .i64 a1)) (.slice q1 Z1.length k1)
    rw [set01] at h; exact keepB b2 h)
  have s2 := b2.size
  simp only [World.size_setCell] at s2
  have BW2 := Lib.hid (Below.trans_size ((BW1.out.setCell (p := ⟨w.heap.size + 1 + 1, 0, none⟩) (by first | (simp; done) | (simp; omega)) _).setCell (p := ⟨w.heap.size + 1 + 1, 1, none⟩) (by first | (simp; done) | (simp; omega)) _) b2)
  have O2 := Lib.hid (show Own w2 (w.heap.size + 1 + 1 + 1) v2 Z2 from own_base o2 (by simp; omega))
  clear o2 b2 A0 A1 A2 A3 A4 A5 A6 D0 D1 F0 F1 lt0 lt2 X0 X1 X2
  obtain ⟨q2, k2, rfl, -, -⟩ := own_form O2.out
  have NE2 := Lib.hid (show (Value.slice q2 Z2.length k2).ownBlock ≠ some (w.heap.size + 1 + 1) from fun e => by have := (own_block_lt O2.out _ e).1; omega)
  have A0 := cell_blk Y0.out 0; have A1 := cell_blk Y0.out 1; have A2 := cell_blk Y0.out 2; have A3 := cell_blk Y0.out 3; have A4 := cell_blk Y0.out 4; have A5 := cell_blk Y0.out 5; have A6 := cell_blk Y0.out 6
  have D2 := cell_blk Y2.out 2; have D3 := cell_blk Y2.out 3; have F2 := frozen_blk Y2.out 2; have F3 := frozen_blk Y2.out 3
  have lt0 : w.heap.size < w2.heap.size := by omega
  have lt2 : w.heap.size + 1 + 1 < w2.heap.size := by omega
  go_wp2_with fail
  refine (laws_toRegister a3 s3 l3 c3 z3 _ (H3.out.below ((BW2.out.setCell (by first | (simp; done) | (simp; omega)) _).setCell (by first | (simp; done) | (simp; omega)) _)) g3).mono ?_; rintro e w3 ⟨v3, rfl, o3, b3⟩
  rw [HZ3.out] at o3
  have O1c := Lib.hid (own_keep b3 (own_setCell_nm (own_setCell_nm O1b.out NE1.out) NE1.out))
  have O2c := Lib.hid (own_keep b3 (own_setCell_nm (own_setCell_nm O2.out NE2.out) NE2.out))
  have U0 := Lib.hid (keepB b3 (keepSC (keepSC Y0.out NO.out) NO.out)); have U1 := Lib.hid (keepB b3 (keepSC (keepSC Y1.out NR.out) NR.out))
  have U2 := Lib.hid (show w3.heap[w.heap.size + 1 + 1]? = some (.cells #[.int .i64 a1, .slice q1 Z1.length k1, .int .i64 a2, .slice q2 Z2.length k2, .int .i64 0, .slice none 0 0, .int .i64 0] 31) from by
    have h := setCell_blkN (i := 3) (setCell_blkN (i := 2) Y2.out (.int .i64 a2)) (.slice q2 Z2.length k2)
    rw [set23] at h; exact keepB b3 h)
  have s3 := b3.size
  simp only [World.size_setCell] at s3
  have BW3 := Lib.hid (Below.trans_size ((BW2.out.setCell (p := ⟨w.heap.size + 1 + 1, 2, none⟩) (by first | (simp; done) | (simp; omega)) _).setCell (p := ⟨w.heap.size + 1 + 1, 3, none⟩) (by first | (simp; done) | (simp; omega)) _) b3)
  have O3 := Lib.hid (show Own w3 (w.heap.size + 1 + 1 + 1) v3 Z3 from own_base o3 (by simp; omega))
  clear o3 b3 A0 A1 A2 A3 A4 A5 A6 D2 D3 F2 F3 lt0 lt2 Y0 Y1 Y2
  obtain ⟨q3, k3, rfl, -, -⟩ := own_form O3.out
  have A0 := cell_blk U0.out 0; have A1 := cell_blk U0.out 1; have A2 := cell_blk U0.out 2; have A3 := cell_blk U0.out 3; have A4 := cell_blk U0.out 4; have A5 := cell_blk U0.out 5; have A6 := cell_blk U0.out 6
  have D0 := cell_blk U2.out 0; have D1 := cell_blk U2.out 1; have D2 := cell_blk U2.out 2; have D3 := cell_blk U2.out 3; have D4 := cell_blk U2.out 4; have D5 := cell_blk U2.out 5; have D6 := cell_blk U2.out 6
  have F4 := frozen_blk U2.out 4; have F5 := frozen_blk U2.out 5; have F6 := frozen_blk U2.out 6
  have R0 := cell_blk U1.out 0; have R1 := cell_blk U1.out 1; have R2 := cell_blk U1.out 2; have R3 := cell_blk U1.out 3; have R4 := cell_blk U1.out 4; have R5 := cell_blk U1.out 5; have R6 := cell_blk U1.out 6
  have E0 := frozen_blk U1.out 0; have E1 := frozen_blk U1.out 1; have E2 := frozen_blk U1.out 2; have E3 := frozen_blk U1.out 3; have E4 := frozen_blk U1.out 4; have E5 := frozen_blk U1.out 5; have E6 := frozen_blk U1.out 6
  have lt0 : w.heap.size < w3.heap.size := by omega
  have lt1 : w.heap.size + 1 < w3.heap.size := by omega
  have lt2 : w.heap.size + 1 + 1 < w3.heap.size := by omega
  go_wp2_with fail
  refine bodyPost_ret (v := .agg #[.int .i64 a1, .slice q1 Z1.length k1, .int .i64 a2, .slice q2 Z2.length k2, .int .i64 a3, .slice q3 Z3.length k3, .int .i64 q]) (by simp [results, Try.results11, go_sem, *]) rfl ?_
  exact ⟨_, _, _, rfl, own_base (ownsRow_setCell_below (ownsRow_setCell_below (ownsRow_setCell_below (ownsRow_setCell_below (ownsRow_setCell_below (ownsRow_setCell_below (ownsRow_setCell_below (ownsRow_setCell_below (ownsRow_setCell_below (ownsRow_setCell_below (O1c.out) (by simp) _) (by simp) _) (by simp) _) (by simp) _) (by simp) _) (by simp) _) (by simp) _) (by simp) _) (by simp) _) (by simp) _) (by omega), own_base (ownsRow_setCell_below (ownsRow_setCell_below (ownsRow_setCell_below (ownsRow_setCell_below (ownsRow_setCell_below (ownsRow_setCell_below (ownsRow_setCell_below (ownsRow_setCell_below (ownsRow_setCell_below (ownsRow_setCell_below (O2c.out) (by simp) _) (by simp) _) (by simp) _) (by simp) _) (by simp) _) (by simp) _) (by simp) _) (by simp) _) (by simp) _) (by simp) _) (by omega), own_base (ownsRow_setCell_below (ownsRow_setCell_below (ownsRow_setCell_below (ownsRow_setCell_below (ownsRow_setCell_below (ownsRow_setCell_below (ownsRow_setCell_below (ownsRow_setCell_below (ownsRow_setCell_below (ownsRow_setCell_below (O3.out) (by simp) _) (by simp) _) (by simp) _) (by simp) _) (by simp) _) (by simp) _) (by simp) _) (by simp) _) (by simp) _) (by simp) _) (by omega), Below.setCell (Below.setCell (Below.setCell (Below.setCell (Below.setCell (Below.setCell (Below.setCell (Below.setCell (Below.setCell (Below.setCell (BW3.out) (by first | (simp; done) | (simp; omega)) _) (by first | (simp; done) | (simp; omega)) _) (by first | (simp; done) | (simp; omega)) _) (by first | (simp; done) | (simp; omega)) _) (by first | (simp; done) | (simp; omega)) _) (by first | (simp; done) | (simp; omega)) _) (by first | (simp; done) | (simp; omega)) _) (by first | (simp; done) | (simp; omega)) _) (by first | (simp; done) | (simp; omega)) _) (by first | (simp; done) | (simp; omega)) _⟩
end Go.Proofs.Ytcooabjcikcpiaa
