/- Square roots by subtracting odd numbers: both packages return the same root, rest and turns. -/
import Derived.IntWalk
import Derived.Test.YtgfliiomebbknaaInts
import Derived.Test.YtgfliiomebbknaaRootP
namespace Go.Proofs.Ytgfliiomebbknaa
open Go.ChangeShapes Go.WideShapes Go.ChangeAt Go.RowKit
def RetRootI (w : World) (x : Int × Int × List Int) (e : Ending) (w' : World) : Prop := ∃ v, e = .returned (.tuple #[.int .i64 x.1, .int .i64 x.2.1, v]) ∧ Own w' w.heap.size v x.2.2 ∧ Below w.heap.size w w'
theorem rst_dropN (b : Int) (l : List Int) (k : Nat) (hk : k < l.length) : rst b (l.drop k) =
    inn ((rst b (l.drop (k + 1))).2.1 * b * b + nth l k + 1).toNat ((rst b (l.drop (k + 1))).1 * b) ((rst b (l.drop (k + 1))).2.1 * b * b + nth l k) (rst b (l.drop (k + 1))).2.2 := rst_drop b l k hk
theorem nth_of_mem {B : Int} {D : List Int} (h : digOk B D) {k : Nat} (hk : k < D.length) : 0 ≤ nth D k ∧ nth D k < B := by
  have e : nth D k = D[k] := by simp [nth, List.getD, hk]
  rw [e]; exact h _ (List.getElem_mem hk)
set_option maxHeartbeats 1000000 in
theorem impl_rootTurns (b v : Int) (w : World) (hb : 2 ≤ b) (hb2 : b ≤ 16) (h0 : 0 ≤ v) (h1 : v ≤ 1000000000000) :
    Calls Try.prog 58 #[.int .i64 b, .int .i64 v] w (RetRootI w (rootAll b v)) := by
  have hB : 4 ≤ b * b ∧ b * b ≤ 256 := by
    have a := Int.mul_le_mul_of_nonneg_left hb (show 0 ≤ b by omega)
    have c := Int.mul_le_mul_of_nonneg_left hb2 (show 0 ≤ b by omega)
    omega
  obtain ⟨B1, B2⟩ := hB
  have HD := Lib.hid (show digs (b * b) 20 v = rootD b v from rfl)
  go_enter Try.func58, Try.ntmps58
  go_wp2_with fail
  go_loopw [7, 8] (fun p n wr => ∃ ps m f, n = .int .i64 m ∧ 0 ≤ m ∧ m ≤ 1000000000000 ∧ m < 4 ^ f ∧ ps ++ digs (b * b) f m = rootD b v ∧ Own wr w.heap.size p ps ∧ Below w.heap.size w wr ∧ w.heap.size ≤ wr.heap.size) (fun _ n _ => (intOf n).toNat)
  case atStart => exact ⟨[], v, 20, rfl, h0, h1, by omega, HD.out, own_empty _ _ (Nat.le_refl _), (Below.refl _ _).alloc (Nat.le_refl _) _, by simp⟩
  case round =>
    obtain ⟨ps, m, f, rfl, m0, m1, mf, hd, ho, hbw, hs⟩ := hrel
    have HMF := Lib.hid mf; have HDD := Lib.hid hd; have HO := Lib.hid ho; have HBW := Lib.hid hbw; clear mf hd ho hbw
    by_cases hlt : 0 < m
    · have hlen : ps.length ≤ 1000000000 := by
        have a := digs_len (B := b * b) 20 v
        have c := congrArg List.length HDD.out
        simp only [List.length_append] at c
        have c2 : (rootD b v).length ≤ 20 := a
        omega
      have e0 : 0 ≤ m % (b * b) ∧ m % (b * b) < b * b := ⟨Int.emod_nonneg _ (by omega), Int.emod_lt_of_pos _ (by omega)⟩
      have e1 : 0 ≤ m / (b * b) := Int.ediv_nonneg m0 (by omega)
      have e2 : m / (b * b) < m := Int.ediv_lt_self_of_pos_of_ne_one hlt (by omega)
      go_wp2_with (at_builtin; refine wp_app rfl _ _ rfl _ _ (own_alloc HO.out _) rfl rfl (by simp; rfl) hlen (by simp; omega) ?_; intro v' w' ho' hg')
      obtain ⟨hb', hs'⟩ := app_below HBW.out HO.out hg' (Nat.le_refl _) hs
      obtain ⟨f', st1, st2⟩ := digs_step B1 hlt HMF.out
      go_roundw
      case rel => exact ⟨_, _, f', rfl, e1, by omega, st2, by rw [← HDD.out, st1]; simp, ho', hb', hs'⟩
      case measure => simp [intOf]; omega
    · have hps : ps = rootD b v := by rw [← HDD.out, digs_end (by omega)]; simp
      subst hps
      clear HDD HMF HD
      generalize hD : rootD b v = D at *
      have HD := Lib.hid hD; clear hD
      have hlen : D.length ≤ 20 := by rw [← HD.out]; exact digs_len 20 v
      have hok : Hid (digOk (b * b) D) := by rw [← HD.out]; exact digs_ok B1 20 v
      have HBD := Lib.hid (rst_bd hb hb2 h0 h1)
      have HSQ := Lib.hid (fun k hk => rst_sq (k := k) hb h0 h1 hk)
      rw [HD.out] at HBD HSQ
      obtain ⟨wo, hwo⟩ : ∃ wo : World, wo = wr := ⟨_, rfl⟩
      subst hwo
      obtain ⟨a, cap, rfl, hm, hc⟩ := own_form HO.out
      have HC := Lib.hid hc; clear hc
      have hbk := own_block_lt HO.out
      have HK := Lib.hid hbk; clear hbk
      go_wp2_with fail
      go_loopw [9, 10, 11, 12, 13] (fun r s t i _ wr_ => ∃ k : Nat, k ≤ D.length ∧ i = .int .i64 ((k : Int) - 1) ∧ r = .int .i64 (rst b (D.drop k)).1 ∧ s = .int .i64 (rst b (D.drop k)).2.1 ∧ Own wr_ wo.heap.size t (rst b (D.drop k)).2.2 ∧ Below wo.heap.size wo wr_ ∧ wo.heap.size ≤ wr_.heap.size) (fun _ _ _ i _ _ => (intOf i + 1).toNat)
      case atStart => exact ⟨D.length, Nat.le_refl _, rfl, by rw [List.drop_length]; rfl, by rw [List.drop_length]; rfl, by rw [List.drop_length]; exact own_empty _ _ (Nat.le_refl _), (Below.refl _ _).alloc (Nat.le_refl _) _, by simp⟩
      case round =>
        obtain ⟨k, hk, rfl, rfl, rfl, ho2, hbw2, hs2⟩ := hrel
        have HO2 := Lib.hid ho2; have HBW2 := Lib.hid hbw2; clear ho2 hbw2
        cases k with
        | zero =>
          go_wp2
          go_ret3
          exact ⟨_, by rw [rootAll_eq b v HD.out]; rfl, own_base (by rw [rootAll_eq b v HD.out]; exact HO2.out) HBW.out.size, Below.trans_size HBW.out HBW2.out⟩
        | succ k =>
          have bd := HBD.out (k + 1)
          have HR := Lib.hid (rst_dropN b D k (by omega))
          have sq := HSQ.out k (by omega)
          generalize hx : rst b (D.drop (k + 1)) = x at *
          clear hx
          obtain ⟨R, SS, TT⟩ := x
          obtain ⟨x0, x1, x2, x3, x4⟩ := bd
          simp only at x0 x1 x2 x3 x4 sq
          have HS2 := Lib.hid (show R * b * (R * b) + (SS * b * b + nth D k) ≤ 1000000000000 from sq); clear sq
          obtain ⟨g, rfl, q⟩ := HC.out k (by omega)
          have q2 : wr.cell? ⟨g, k, none⟩ = some (.int .i64 (nth D k)) := by
            rw [HBW2.out.cell (p := ⟨g, k, none⟩) (HK.out g rfl).2]; exact q
          clear q
          have hd : 0 ≤ nth D k ∧ nth D k < b * b := nth_of_mem hok.out (by omega)
          obtain ⟨d0, d1⟩ := hd
          have s1 : 0 ≤ SS * b ∧ SS * b ≤ 32000000 := mul_bd x2 x3 (by omega) hb2
          have s2 : 0 ≤ SS * b * b ∧ SS * b * b ≤ 512000000 := mul_bd s1.1 s1.2 (by omega) hb2
          have s3 : 0 ≤ R * b ∧ R * b ≤ 16000000 := mul_bd x0 x1 (by omega) hb2
          have s4 : 0 ≤ 2 * R * b ∧ 2 * R * b ≤ 32000000 := mul_bd (by omega) (show 2 * R ≤ 2000000 by omega) (by omega) hb2
          obtain ⟨s1a, s1b⟩ := s1; obtain ⟨s2a, s2b⟩ := s2; obtain ⟨s3a, s3b⟩ := s3; obtain ⟨s4a, s4b⟩ := s4
          have e2 := Lib.hid (Int.mul_assoc 2 R b)
          have hTR := Lib.hid (x4 : (TT.length : Int) ≤ 1000000)
          obtain ⟨wq, hwq⟩ : ∃ wq : World, wq = wr := ⟨_, rfl⟩
          subst hwq
          have HW2 := Lib.hid hs2; clear hs2
          go_wp2_with fail
          go_loopw [9, 10, 11, 13] (fun rv sv tv ov wx => ∃ (f : Nat) (r s : Int) (l : List Int), rv = .int .i64 r ∧ sv = .int .i64 s ∧ ov = .int .i64 (2 * r + 1) ∧ 0 ≤ r ∧ 0 ≤ s ∧ s ≤ 600000000 ∧ r ≤ 1000000 ∧ Hid (s < (f : Int)) ∧ Hid (r * r + s ≤ 1000000000000) ∧ Hid (inn f r s l = rst b (D.drop k)) ∧ l.length ≤ 2000000 ∧ (l.length : Int) ≤ r + 1000000 ∧ Own wx wo.heap.size tv l ∧ Below wo.heap.size wo wx ∧ wo.heap.size ≤ wx.heap.size) (fun _ sv _ _ _ => (intOf sv).toNat)
          case atStart => exact ⟨_, _, _, TT, rfl, rfl, by rw [e2.out], s3a, by omega, by omega, sq_le s3a (by have := HS2.out; omega), by show _ < _; omega, HS2.out, HR.out.symm, by have := hTR.out; omega, by have := hTR.out; omega, HO2.out, HBW2.out, HW2.out⟩
          case round =>
            obtain ⟨f, r, s, l, rfl, rfl, rfl, r0, s0, s9, r9, hf, hqq, hin, hl1, hl2, ho3, hbw3, hs3⟩ := hrel
            have HO3 := Lib.hid ho3; have HBW3 := Lib.hid hbw3; clear ho3 hbw3
            by_cases hge : 2 * r + 1 ≤ s
            · have hsq : (r + 1) * (r + 1) + (s - (2 * r + 1)) ≤ 1000000000000 := by rw [sq_succ]; have := hqq.out; omega
              have hr1 := sq_le (r := r + 1) (by omega) (by have := hsq; omega)
              have HSQ2 := Lib.hid hsq; clear hsq
              obtain ⟨f', fa, fb⟩ := inn_go (t := l) hf.out hge r0
              have HFA := Lib.hid fa; have HFB := Lib.hid fb; clear fa fb
              go_wp2_with (at_builtin; refine wp_app rfl _ _ rfl _ _ (own_alloc HO3.out _) rfl rfl (by simp; rfl) (by omega) (by simp; omega) ?_; intro v' w' ho' hg')
              obtain ⟨hb', hs'⟩ := app_below HBW3.out HO3.out hg' (Nat.le_refl _) hs3
              go_roundw
              case rel => exact ⟨f', r + 1, s - (2 * r + 1), l ++ [2 * r + 1], rfl, rfl, by go_num, by omega, by omega, by omega, hr1, HFA.out, HSQ2.out, by rw [← HFB.out]; exact hin.out, by simp; omega, by simp; omega, ho', hb', hs'⟩
              case measure => simp [intOf]; omega
            · have HE := Lib.hid (inn_end (f := f) (t := l) hge)
              have HX := Lib.hid (show rst b (D.drop k) = (r, s, l) from by rw [← hin.out, HE.out])
              go_wp2
              go_roundw
              case rel => exact ⟨k, by omega, by first | rfl | go_num, by rw [HX.out], by rw [HX.out], by rw [HX.out]; exact HO3.out, HBW3.out, hs3⟩
              case measure => first | (simp [intOf]; done) | (simp [intOf]; omega)
def RetRootS (w : World) (x : Int × Int × List Int) (e : Ending) (w' : World) : Prop := ∃ v, e = .returned (.tuple #[v, .int .i64 x.1, .int .i64 x.2.1]) ∧ Own w' w.heap.size v x.2.2 ∧ Below w.heap.size w w'
set_option maxHeartbeats 1000000 in
theorem spec_l12Root (b v : Int) (w : World) (hb : 2 ≤ b) (hb2 : b ≤ 16) (h0 : 0 ≤ v) (h1 : v ≤ 1000000000000) :
    Calls Try.prog 56 #[.int .i64 b, .int .i64 v] w (RetRootS w (rootAll b v)) := by
  have hB : 4 ≤ b * b ∧ b * b ≤ 256 := by
    have a := Int.mul_le_mul_of_nonneg_left hb (show 0 ≤ b by omega)
    have c := Int.mul_le_mul_of_nonneg_left hb2 (show 0 ≤ b by omega)
    omega
  obtain ⟨B1, B2⟩ := hB
  have HD := Lib.hid (show digs (b * b) 20 v = rootD b v from rfl)
  go_enter Try.func56, Try.ntmps56
  go_wp2_with fail
  go_loopw [7, 8] (fun p n wr => ∃ ps m f, n = .int .i64 m ∧ 0 ≤ m ∧ m ≤ 1000000000000 ∧ m < 4 ^ f ∧ ps ++ digs (b * b) f m = rootD b v ∧ Own wr w.heap.size p ps ∧ Below w.heap.size w wr ∧ w.heap.size ≤ wr.heap.size) (fun _ n _ => (intOf n).toNat)
  case atStart => exact ⟨[], v, 20, rfl, h0, h1, by omega, HD.out, own_empty _ _ (Nat.le_refl _), (Below.refl _ _).alloc (Nat.le_refl _) _, by simp⟩
  case round =>
    obtain ⟨ps, m, f, rfl, m0, m1, mf, hd, ho, hbw, hs⟩ := hrel
    have HMF := Lib.hid mf; have HDD := Lib.hid hd; have HO := Lib.hid ho; have HBW := Lib.hid hbw; clear mf hd ho hbw
    by_cases hlt : 0 < m
    · have hlen : ps.length ≤ 1000000000 := by
        have a := digs_len (B := b * b) 20 v
        have c := congrArg List.length HDD.out
        simp only [List.length_append] at c
        have c2 : (rootD b v).length ≤ 20 := a
        omega
      have e0 : 0 ≤ m % (b * b) ∧ m % (b * b) < b * b := ⟨Int.emod_nonneg _ (by omega), Int.emod_lt_of_pos _ (by omega)⟩
      have e1 : 0 ≤ m / (b * b) := Int.ediv_nonneg m0 (by omega)
      have e2 : m / (b * b) < m := Int.ediv_lt_self_of_pos_of_ne_one hlt (by omega)
      go_wp2_with (at_builtin; refine wp_app rfl _ _ rfl _ _ (own_alloc HO.out _) rfl rfl (by simp; rfl) hlen (by simp; omega) ?_; intro v' w' ho' hg')
      obtain ⟨hb', hs'⟩ := app_below HBW.out HO.out hg' (Nat.le_refl _) hs
      obtain ⟨f', st1, st2⟩ := digs_step B1 hlt HMF.out
      go_roundw
      case rel => exact ⟨_, _, f', rfl, e1, by omega, st2, by rw [← HDD.out, st1]; simp, ho', hb', hs'⟩
      case measure => simp [intOf]; omega
    · have hps : ps = rootD b v := by rw [← HDD.out, digs_end (by omega)]; simp
      subst hps
      clear HDD HMF HD
      generalize hD : rootD b v = D at *
      have HD := Lib.hid hD; clear hD
      have hlen : D.length ≤ 20 := by rw [← HD.out]; exact digs_len 20 v
      have hok : Hid (digOk (b * b) D) := by rw [← HD.out]; exact digs_ok B1 20 v
      have HBD := Lib.hid (rst_bd hb hb2 h0 h1)
      have HSQ := Lib.hid (fun k hk => rst_sq (k := k) hb h0 h1 hk)
      rw [HD.out] at HBD HSQ
      obtain ⟨wo, hwo⟩ : ∃ wo : World, wo = wr := ⟨_, rfl⟩
      subst hwo
      obtain ⟨a, cap, rfl, hm, hc⟩ := own_form HO.out
      have HC := Lib.hid hc; clear hc
      have hbk := own_block_lt HO.out
      have HK := Lib.hid hbk; clear hbk
      go_wp2_with fail
      go_loopw [9, 10, 11, 12, 13] (fun t r s i _ wr_ => ∃ k : Nat, k ≤ D.length ∧ i = .int .i64 ((k : Int) - 1) ∧ r = .int .i64 (rst b (D.drop k)).1 ∧ s = .int .i64 (rst b (D.drop k)).2.1 ∧ Own wr_ wo.heap.size t (rst b (D.drop k)).2.2 ∧ Below wo.heap.size wo wr_ ∧ wo.heap.size ≤ wr_.heap.size) (fun _ _ _ i _ _ => (intOf i + 1).toNat)
      case atStart => exact ⟨D.length, Nat.le_refl _, rfl, by rw [List.drop_length]; rfl, by rw [List.drop_length]; rfl, by rw [List.drop_length]; exact own_empty _ _ (Nat.le_refl _), (Below.refl _ _).alloc (Nat.le_refl _) _, by simp⟩
      case round =>
        obtain ⟨k, hk, rfl, rfl, rfl, ho2, hbw2, hs2⟩ := hrel
        have HO2 := Lib.hid ho2; have HBW2 := Lib.hid hbw2; clear ho2 hbw2
        cases k with
        | zero =>
          go_wp2
          go_ret3
          exact ⟨_, by rw [rootAll_eq b v HD.out]; rfl, own_base (by rw [rootAll_eq b v HD.out]; exact HO2.out) HBW.out.size, Below.trans_size HBW.out HBW2.out⟩
        | succ k =>
          have bd := HBD.out (k + 1)
          have HR := Lib.hid (rst_dropN b D k (by omega))
          have sq := HSQ.out k (by omega)
          generalize hx : rst b (D.drop (k + 1)) = x at *
          clear hx
          obtain ⟨R, SS, TT⟩ := x
          obtain ⟨x0, x1, x2, x3, x4⟩ := bd
          simp only at x0 x1 x2 x3 x4 sq
          have HS2 := Lib.hid (show R * b * (R * b) + (SS * b * b + nth D k) ≤ 1000000000000 from sq); clear sq
          obtain ⟨g, rfl, q⟩ := HC.out k (by omega)
          have q2 : wr.cell? ⟨g, k, none⟩ = some (.int .i64 (nth D k)) := by
            rw [HBW2.out.cell (p := ⟨g, k, none⟩) (HK.out g rfl).2]; exact q
          clear q
          have hd : 0 ≤ nth D k ∧ nth D k < b * b := nth_of_mem hok.out (by omega)
          obtain ⟨d0, d1⟩ := hd
          have s1 : 0 ≤ SS * b ∧ SS * b ≤ 32000000 := mul_bd x2 x3 (by omega) hb2
          have s2 : 0 ≤ SS * b * b ∧ SS * b * b ≤ 512000000 := mul_bd s1.1 s1.2 (by omega) hb2
          have s3 : 0 ≤ R * b ∧ R * b ≤ 16000000 := mul_bd x0 x1 (by omega) hb2
          have s4 : 0 ≤ 2 * R * b ∧ 2 * R * b ≤ 32000000 := mul_bd (by omega) (show 2 * R ≤ 2000000 by omega) (by omega) hb2
          obtain ⟨s1a, s1b⟩ := s1; obtain ⟨s2a, s2b⟩ := s2; obtain ⟨s3a, s3b⟩ := s3; obtain ⟨s4a, s4b⟩ := s4
          have e2 := Lib.hid (Int.mul_assoc 2 R b)
          have hTR := Lib.hid (x4 : (TT.length : Int) ≤ 1000000)
          obtain ⟨wq, hwq⟩ : ∃ wq : World, wq = wr := ⟨_, rfl⟩
          subst hwq
          have HW2 := Lib.hid hs2; clear hs2
          go_wp2_with fail
          go_loopw [9, 10, 11, 13] (fun tv rv sv ov wx => ∃ (f : Nat) (r s : Int) (l : List Int), rv = .int .i64 r ∧ sv = .int .i64 s ∧ ov = .int .i64 (2 * r + 1) ∧ 0 ≤ r ∧ 0 ≤ s ∧ s ≤ 600000000 ∧ r ≤ 1000000 ∧ Hid (s < (f : Int)) ∧ Hid (r * r + s ≤ 1000000000000) ∧ Hid (inn f r s l = rst b (D.drop k)) ∧ l.length ≤ 2000000 ∧ (l.length : Int) ≤ r + 1000000 ∧ Own wx wo.heap.size tv l ∧ Below wo.heap.size wo wx ∧ wo.heap.size ≤ wx.heap.size) (fun _ _ sv _ _ => (intOf sv).toNat)
          case atStart => exact ⟨_, _, _, TT, rfl, rfl, by rw [e2.out], s3a, by omega, by omega, sq_le s3a (by have := HS2.out; omega), by show _ < _; omega, HS2.out, HR.out.symm, by have := hTR.out; omega, by have := hTR.out; omega, HO2.out, HBW2.out, HW2.out⟩
          case round =>
            obtain ⟨f, r, s, l, rfl, rfl, rfl, r0, s0, s9, r9, hf, hqq, hin, hl1, hl2, ho3, hbw3, hs3⟩ := hrel
            have HO3 := Lib.hid ho3; have HBW3 := Lib.hid hbw3; clear ho3 hbw3
            by_cases hge : 2 * r + 1 ≤ s
            · have hsq : (r + 1) * (r + 1) + (s - (2 * r + 1)) ≤ 1000000000000 := by rw [sq_succ]; have := hqq.out; omega
              have hr1 := sq_le (r := r + 1) (by omega) (by have := hsq; omega)
              have HSQ2 := Lib.hid hsq; clear hsq
              obtain ⟨f', fa, fb⟩ := inn_go (t := l) hf.out hge r0
              have HFA := Lib.hid fa; have HFB := Lib.hid fb; clear fa fb
              go_wp2_with (at_builtin; refine wp_app rfl _ _ rfl _ _ (own_alloc HO3.out _) rfl rfl (by simp; rfl) (by omega) (by simp; omega) ?_; intro v' w' ho' hg')
              obtain ⟨hb', hs'⟩ := app_below HBW3.out HO3.out hg' (Nat.le_refl _) hs3
              go_roundw
              case rel => exact ⟨f', r + 1, s - (2 * r + 1), l ++ [2 * r + 1], rfl, rfl, by go_num, by omega, by omega, by omega, hr1, HFA.out, HSQ2.out, by rw [← HFB.out]; exact hin.out, by simp; omega, by simp; omega, ho', hb', hs'⟩
              case measure => simp [intOf]; omega
            · have HE := Lib.hid (inn_end (f := f) (t := l) hge)
              have HX := Lib.hid (show rst b (D.drop k) = (r, s, l) from by rw [← hin.out, HE.out])
              go_wp2
              go_roundw
              case rel => exact ⟨k, by omega, by first | rfl | go_num, by rw [HX.out], by rw [HX.out], by rw [HX.out]; exact HO3.out, HBW3.out, hs3⟩
              case measure => first | (simp [intOf]; done) | (simp [intOf]; omega)
theorem spec_l12Code (b v : Int) (w : World) :
    Calls Try.prog 55 #[.int .i64 b, .int .i64 v] w fun e w' => e = .returned (.int .i64 (if inB b 2 16 && inB v 0 1000000000000 then 0 else 2)) ∧ w = w' := by
  cases h1 : inB b 2 16 <;> cases h2 : inB v 0 1000000000000
  all_goals
    go_enter Try.func55, Try.ntmps55
    go_wp2_with (first | (go_at_call 59; refine (spec_l02Base _ _).mono ?_; rintro e w' ⟨rfl, rfl⟩) | (go_at_call 44; refine (spec_l00In _ _ _ _).mono ?_; rintro e w' ⟨rfl, rfl⟩))
    go_ret
    exact ⟨rfl, rfl⟩
theorem impl_isRootInput (b v : Int) (w : World) :
    Calls Try.prog 57 #[.int .i64 b, .int .i64 v] w fun e w' => e = .returned (.bool (inB b 2 16 && inB v 0 1000000000000)) ∧ w = w' := by
  cases h1 : inB b 2 16 <;> cases h2 : inB v 0 1000000000000
  all_goals
    go_enter Try.func57, Try.ntmps57
    go_wp2_with (first | (go_at_call 62; refine (impl_isBase _ _).mono ?_; rintro e w' ⟨rfl, rfl⟩) | (go_at_call 47; refine (impl_between _ _ _ _).mono ?_; rintro e w' ⟨rfl, rfl⟩))
    go_ret
    exact ⟨rfl, rfl⟩
def rootOk (b v : Int) : Bool := inB b 2 16 && inB v 0 1000000000000
def rootR (b v : Int) : Int × Int × Int × Int := if rootOk b v then ((rootAll b v).1, (rootAll b v).2.1, (rootAll b v).2.2.length, 0) else (0, 0, 0, 2)
theorem rootOk_parts {b v : Int} (h : rootOk b v = true) : 2 ≤ b ∧ b ≤ 16 ∧ 0 ≤ v ∧ v ≤ 1000000000000 := by
  simp only [rootOk, Bool.and_eq_true] at h
  have a := inB_iff.1 h.1; have c := inB_iff.1 h.2
  exact ⟨a.1, a.2, c.1, c.2⟩
def RetI4 (w : World) (x : Int × Int × Int × Int) (e : Ending) (w' : World) : Prop := e = .returned (.tuple #[.int .i64 x.1, .int .i64 x.2.1, .int .i64 x.2.2.1, .int .i64 x.2.2.2]) ∧ Below w.heap.size w w'
theorem rootAll_len {b v : Int} (h : rootOk b v = true) : (rootAll b v).2.2.length ≤ 1000000 := by
  obtain ⟨a1, a2, a3, a4⟩ := rootOk_parts h
  have := rst_bd a1 a2 a3 a4 0
  rw [List.drop_zero] at this
  have h5 := this.2.2.2.2
  show (rst b (rootD b v)).2.2.length ≤ _
  omega
theorem impl_RootOf (b v : Int) (w : World) :
    Calls Try.prog 25 #[.int .i64 b, .int .i64 v] w (RetI4 w (rootR b v)) := by
  cases h : rootOk b v
  · rw [show rootR b v = (0, 0, 0, 2) from by simp [rootR, h]]
    have H := Lib.hid (show (inB b 2 16 && inB v 0 1000000000000) = false from h); clear h
    go_enter Try.func25, Try.ntmps25
    go_wp2_with (go_at_call 57; refine (impl_isRootInput _ _ _).mono ?_; rintro e w' ⟨rfl, rfl⟩; rw [H.out])
    refine bodyPost_ret (v := .tuple #[.int .i64 0, .int .i64 0, .int .i64 0, .int .i64 2]) (by simp [results, Try.results25, go_sem]) rfl ⟨rfl, Below.refl _ _⟩
  · obtain ⟨a1, a2, a3, a4⟩ := rootOk_parts h
    have HR := Lib.hid (show rootR b v = ((rootAll b v).1, (rootAll b v).2.1, ((rootAll b v).2.2.length : Int), 0) from by simp [rootR, h])
    have hl := rootAll_len h
    have H := Lib.hid (show (inB b 2 16 && inB v 0 1000000000000) = true from h); clear h
    go_enter Try.func25, Try.ntmps25
    go_wp2_with fail
    refine (impl_isRootInput _ _ _).mono ?_; rintro e w' ⟨rfl, rfl⟩; rw [H.out]
    go_wp2_with fail
    refine (impl_rootTurns _ _ _ a1 a2 a3 a4).mono ?_; rintro e w1 ⟨t, rfl, ho, hb⟩
    obtain ⟨a, cap, rfl, _, -⟩ := own_form ho
    have HB := Lib.hid hb; clear ho hb
    go_wp2
    refine bodyPost_ret (v := .tuple #[.int .i64 (rootAll b v).1, .int .i64 (rootAll b v).2.1, .int .i64 (rootAll b v).2.2.length, .int .i64 0]) (by simp [results, Try.results25, go_sem]) rfl ⟨by rw [HR.out], HB.out⟩
theorem spec_RootOf (b v : Int) (w : World) :
    Calls Try.prog 24 #[.int .i64 b, .int .i64 v] w (RetI4 w (rootR b v)) := by
  cases h : rootOk b v
  · rw [show rootR b v = (0, 0, 0, 2) from by simp [rootR, h]]
    have H := Lib.hid (show (if inB b 2 16 && inB v 0 1000000000000 then (0 : Int) else 2) = 2 from by rw [show (inB b 2 16 && inB v 0 1000000000000) = false from h]; rfl); clear h
    go_enter Try.func24, Try.ntmps24
    go_wp2_with (go_at_call 55; refine (spec_l12Code _ _ _).mono ?_; rintro e w' ⟨rfl, rfl⟩; rw [H.out])
    refine bodyPost_ret (v := .tuple #[.int .i64 0, .int .i64 0, .int .i64 0, .int .i64 2]) (by simp [results, Try.results24, go_sem]) rfl ⟨rfl, Below.refl _ _⟩
  · obtain ⟨a1, a2, a3, a4⟩ := rootOk_parts h
    have HR := Lib.hid (show rootR b v = ((rootAll b v).1, (rootAll b v).2.1, ((rootAll b v).2.2.length : Int), 0) from by simp [rootR, h])
    have hl := rootAll_len h
    have H := Lib.hid (show (if inB b 2 16 && inB v 0 1000000000000 then (0 : Int) else 2) = 0 from by rw [show (inB b 2 16 && inB v 0 1000000000000) = true from h]; rfl); clear h
    go_enter Try.func24, Try.ntmps24
    go_wp2_with fail
    refine (spec_l12Code _ _ _).mono ?_; rintro e w' ⟨rfl, rfl⟩; rw [H.out]
    go_wp2_with fail
    refine (spec_l12Root _ _ _ a1 a2 a3 a4).mono ?_; rintro e w1 ⟨t, rfl, ho, hb⟩
    obtain ⟨a, cap, rfl, _, -⟩ := own_form ho
    have HB := Lib.hid hb; clear ho hb
    go_wp2
    refine bodyPost_ret (v := .tuple #[.int .i64 (rootAll b v).1, .int .i64 (rootAll b v).2.1, .int .i64 (rootAll b v).2.2.length, .int .i64 0]) (by simp [results, Try.results24, go_sem]) rfl ⟨by rw [HR.out], HB.out⟩
def rootL (b v : Int) : List Int × Int := if rootOk b v then ((rootAll b v).2.2, 0) else ([], 2)
theorem rootL_len (b v : Int) : (rootL b v).1.length ≤ 1000000 := by
  unfold rootL
  split
  · exact rootAll_len (by assumption)
  · simp
theorem impl_RootTurns (b v : Int) (w : World) :
    Calls Try.prog 27 #[.int .i64 b, .int .i64 v] w (RetOwnI w (rootL b v).1 (rootL b v).2) := by
  cases h : rootOk b v
  · rw [show rootL b v = ([], 2) from by simp [rootL, h]]
    have H := Lib.hid (show (inB b 2 16 && inB v 0 1000000000000) = false from h); clear h
    go_enter Try.func27, Try.ntmps27
    go_wp2_with (go_at_call 57; refine (impl_isRootInput _ _ _).mono ?_; rintro e w' ⟨rfl, rfl⟩; rw [H.out])
    go_ret2
    exact ⟨_, rfl, own_nil, Below.refl _ _⟩
  · obtain ⟨a1, a2, a3, a4⟩ := rootOk_parts h
    rw [show rootL b v = ((rootAll b v).2.2, 0) from by simp [rootL, h]]
    have H := Lib.hid (show (inB b 2 16 && inB v 0 1000000000000) = true from h); clear h
    go_enter Try.func27, Try.ntmps27
    go_wp2_with fail
    refine (impl_isRootInput _ _ _).mono ?_; rintro e w' ⟨rfl, rfl⟩; rw [H.out]
    go_wp2_with fail
    refine (impl_rootTurns _ _ _ a1 a2 a3 a4).mono ?_; rintro e w1 ⟨t, rfl, ho, hb⟩
    have HO := Lib.hid ho; have HB := Lib.hid hb; clear ho hb
    go_wp2
    go_ret2
    exact ⟨_, rfl, HO.out, HB.out⟩
theorem spec_RootTurns (b v : Int) (w : World) :
    Calls Try.prog 26 #[.int .i64 b, .int .i64 v] w (RetOwnI w (rootL b v).1 (rootL b v).2) := by
  cases h : rootOk b v
  · rw [show rootL b v = ([], 2) from by simp [rootL, h]]
    have H := Lib.hid (show (if inB b 2 16 && inB v 0 1000000000000 then (0 : Int) else 2) = 2 from by rw [show (inB b 2 16 && inB v 0 1000000000000) = false from h]; rfl); clear h
    go_enter Try.func26, Try.ntmps26
    go_wp2_with (go_at_call 55; refine (spec_l12Code _ _ _).mono ?_; rintro e w' ⟨rfl, rfl⟩; rw [H.out])
    go_ret2
    exact ⟨_, rfl, own_nil, Below.refl _ _⟩
  · obtain ⟨a1, a2, a3, a4⟩ := rootOk_parts h
    rw [show rootL b v = ((rootAll b v).2.2, 0) from by simp [rootL, h]]
    have H := Lib.hid (show (if inB b 2 16 && inB v 0 1000000000000 then (0 : Int) else 2) = 0 from by rw [show (inB b 2 16 && inB v 0 1000000000000) = true from h]; rfl); clear h
    go_enter Try.func26, Try.ntmps26
    go_wp2_with fail
    refine (spec_l12Code _ _ _).mono ?_; rintro e w' ⟨rfl, rfl⟩; rw [H.out]
    go_wp2_with fail
    refine (spec_l12Root _ _ _ a1 a2 a3 a4).mono ?_; rintro e w1 ⟨t, rfl, ho, hb⟩
    have HO := Lib.hid ho; have HB := Lib.hid hb; clear ho hb
    go_wp2
    go_ret2
    exact ⟨_, rfl, HO.out, HB.out⟩
end Go.Proofs.Ytgfliiomebbknaa
