/- Machines: three registers and a place: SameMachine of both packages, and the laws' helpers. -/
import Derived.IntWalk
import Derived.Deep.QuietTactic
import Derived.BigQuiet
import Derived.Deep.RegionWith
import Derived.Test.YtcooabjcikcpiaaAgg
namespace Go.Proofs.Ytcooabjcikcpiaa
open Go.ChangeShapes Go.WideShapes Go.ChangeAt Go.RowKit
theorem ret_bm {c d : Bool} (h2 : c = d) : Ending.returned (.bool d) = .returned (.bool c) := by rw [h2]
theorem drewN_bm (B : Nat) (w : World) (n : Nat) : Below B w (w.drewN n) := ⟨rfl, rfl, rfl, Nat.le_refl _, fun _ _ => rfl⟩
theorem own_drewNm {w : World} {B : Nat} {v : Value} {zs : List Int} (h : Own w B v zs) (n : Nat) : Own (w.drewN n) B v zs := h
def sameM (a1 a2 a3 p b1 b2 b3 q : Int) (x1 x2 x3 y1 y2 y3 : List Int) : Bool := sameR a1 b1 x1 y1 && (sameR a2 b2 x2 y2 && (sameR a3 b3 x3 y3 && decide (p = q)))
set_option maxHeartbeats 1000000 in
theorem impl_SameRegister {B1 B2 : Nat} {u v : Value} {xs ys : List Int} (a b : Int) (w : World) (h1 : Own w B1 u xs) (h2 : Own w B2 v ys) :
    Calls Try.prog 38 #[.agg #[.int .i64 a, u], .agg #[.int .i64 b, v]] w (RetV w (.bool (sameR a b xs ys))) := by
  have H1 := Lib.hid h1; have H2 := Lib.hid h2
  obtain ⟨a1, c1, rfl, -, -⟩ := own_form h1
  obtain ⟨a2, c2, rfl, -, -⟩ := own_form h2
  clear h1 h2
  by_cases e : a = b
  · have HF := Lib.hid (show sameR a b xs ys = decide (xs = ys) from by simp [sameR, e])
    subst e
    go_enter Try.func38, Try.ntmps38
    go_wp2_with (first | (go_at_call 66; refine (impl_sameNumbers _ (own_alloc (own_alloc H1.out _) _) (own_alloc (own_alloc H2.out _) _)).mono ?_; rintro e w1 ⟨rfl, b1⟩; obtain ⟨x0, x1, bw, -, -⟩ := blk2 b1; have BW := Lib.hid bw; clear x0 x1 bw b1) | go_in)
    go_ret
    exact ⟨by rw [HF.out]; rfl, BW.out⟩
  · have HF := Lib.hid (show sameR a b xs ys = false from by simp [sameR, e])
    have e1 : (a == b) = false := by simp [e]
    clear e
    go_enter Try.func38, Try.ntmps38
    go_wp2
    go_ret
    exact ⟨by rw [HF.out]; rfl, ((Below.refl _ _).alloc (Nat.le_refl _) _).alloc (by simp) _⟩
set_option maxHeartbeats 2000000 in
theorem spec_l02Same_q {B1 B2 : Nat} {u v : Value} {xs ys : List Int} (a b : Int) (g1 g2 o : Nat) (w : World) (h1 : Own w B1 u xs) (h2 : Own w B2 v ys)
    (p1 : w.cell? ⟨g1, o, none⟩ = some (.int .i64 a)) (p2 : w.cell? ⟨g1, o + 1, none⟩ = some u) (p3 : w.cell? ⟨g2, o, none⟩ = some (.int .i64 b)) (p4 : w.cell? ⟨g2, o + 1, none⟩ = some v) :
    Calls Try.prog 65 #[.pointer (some ⟨g1, o, none⟩), .pointer (some ⟨g2, o, none⟩)] w fun e w' => e = .returned (.bool (sameR a b xs ys)) ∧ ∃ m, w' = w.drewN m := by
  have H1 := Lib.hid h1; have H2 := Lib.hid h2
  obtain ⟨a1, c1, rfl, -, -⟩ := own_form h1
  obtain ⟨a2, c2, rfl, -, -⟩ := own_form h2
  clear h1 h2
  by_cases e : a = b
  · have HF := Lib.hid (show sameR a b xs ys = decide (xs = ys) from by simp [sameR, e])
    subst e
    go_enter Try.func65, Try.ntmps65
    go_wp2_with fail
    go_quiet ((go_at_call 83; exact quiet_D (spec_l00Same_q _ H1.out H2.out)))
    go_wp2_with fail
    go_ret
    exact ⟨by rw [HF.out]; rfl, by first | exact ⟨_, rfl⟩ | exact drewN_ex _ _ _⟩
  · have HF := Lib.hid (show sameR a b xs ys = false from by simp [sameR, e])
    have e1 : (a == b) = false := by simp [e]
    clear e
    go_enter Try.func65, Try.ntmps65
    go_wp2_with fail
    go_quiet (fail)
    go_wp2_with fail
    go_ret
    exact ⟨by rw [HF.out]; rfl, by first | exact ⟨_, rfl⟩ | exact drewN_ex _ _ _⟩
set_option maxHeartbeats 8000000 in
theorem spec_l10Same {B1 B2 B3 C1 C2 C3 : Nat} {u1 u2 u3 v1 v2 v3 : Value} {x1 x2 x3 y1 y2 y3 : List Int} (a1 a2 a3 p b1 b2 b3 q : Int) (ga gb : Nat) (w : World) (h1 : Own w B1 u1 x1) (h2 : Own w B2 u2 x2) (h3 : Own w B3 u3 x3) (k1 : Own w C1 v1 y1) (k2 : Own w C2 v2 y2) (k3 : Own w C3 v3 y3)
    (m0 : w.cell? ⟨ga, 0, none⟩ = some (.int .i64 a1)) (m1 : w.cell? ⟨ga, 1, none⟩ = some (u1)) (m2 : w.cell? ⟨ga, 2, none⟩ = some (.int .i64 a2)) (m3 : w.cell? ⟨ga, 3, none⟩ = some (u2)) (m4 : w.cell? ⟨ga, 4, none⟩ = some (.int .i64 a3)) (m5 : w.cell? ⟨ga, 5, none⟩ = some (u3)) (m6 : w.cell? ⟨ga, 6, none⟩ = some (.int .i64 p))
    (n0 : w.cell? ⟨gb, 0, none⟩ = some (.int .i64 b1)) (n1 : w.cell? ⟨gb, 1, none⟩ = some (v1)) (n2 : w.cell? ⟨gb, 2, none⟩ = some (.int .i64 b2)) (n3 : w.cell? ⟨gb, 3, none⟩ = some (v2)) (n4 : w.cell? ⟨gb, 4, none⟩ = some (.int .i64 b3)) (n5 : w.cell? ⟨gb, 5, none⟩ = some (v3)) (n6 : w.cell? ⟨gb, 6, none⟩ = some (.int .i64 q)) :
    Calls Try.prog 37 #[.pointer (some ⟨ga, 0, none⟩), .pointer (some ⟨gb, 0, none⟩)] w fun e w' => e = .returned (.bool (sameM a1 a2 a3 p b1 b2 b3 q x1 x2 x3 y1 y2 y3)) ∧ ∃ m, w' = w.drewN m := by
  have Q1 := Lib.hid (fun n => spec_l02Same_q a1 b1 ga gb 0 (w.drewN n) (own_drewNm h1 n) (own_drewNm k1 n) m0 m1 n0 n1)
  have Q2 := Lib.hid (fun n => spec_l02Same_q a2 b2 ga gb 2 (w.drewN n) (own_drewNm h2 n) (own_drewNm k2 n) m2 m3 n2 n3)
  have Q3 := Lib.hid (fun n => spec_l02Same_q a3 b3 ga gb 4 (w.drewN n) (own_drewNm h3 n) (own_drewNm k3 n) m4 m5 n4 n5)
  have HS := Lib.hid (show sameM a1 a2 a3 p b1 b2 b3 q x1 x2 x3 y1 y2 y3 = (sameR a1 b1 x1 y1 && (sameR a2 b2 x2 y2 && (sameR a3 b3 x3 y3 && decide (p = q)))) from rfl)
  clear h1 h2 h3 k1 k2 k3 m0 m1 m2 m3 m4 m5 n0 n1 n2 n3 n4 n5
  generalize sameR a1 b1 x1 y1 = r1 at *
  generalize sameR a2 b2 x2 y2 = r2 at *
  generalize sameR a3 b3 x3 y3 = r3 at *
  cases r1
  · have HR := Lib.hid (show sameM a1 a2 a3 p b1 b2 b3 q x1 x2 x3 y1 y2 y3 = false from by rw [HS.out]; rfl)
    go_enter Try.func37, Try.ntmps37
    go_wp2_with fail
    go_quiet ((first | (go_at_call_of 65 (Value.pointer (some (Addr.mk ga 0 none))); exact quiet_D (Q1.out _)) | (go_at_call_of 65 (Value.pointer (some (Addr.mk ga 2 none))); exact quiet_D (Q2.out _)) | (go_at_call_of 65 (Value.pointer (some (Addr.mk ga 4 none))); exact quiet_D (Q3.out _))))
    go_wp2_with fail
    go_ret
    exact ⟨ret_bm HR.out, by first | exact ⟨_, rfl⟩ | exact drewN_ex _ _ _⟩
  cases r2
  · have HR := Lib.hid (show sameM a1 a2 a3 p b1 b2 b3 q x1 x2 x3 y1 y2 y3 = false from by rw [HS.out]; rfl)
    go_enter Try.func37, Try.ntmps37
    go_wp2_with fail
    go_quiet ((first | (go_at_call_of 65 (Value.pointer (some (Addr.mk ga 0 none))); exact quiet_D (Q1.out _)) | (go_at_call_of 65 (Value.pointer (some (Addr.mk ga 2 none))); exact quiet_D (Q2.out _)) | (go_at_call_of 65 (Value.pointer (some (Addr.mk ga 4 none))); exact quiet_D (Q3.out _))))
    go_wp2_with fail
    go_ret
    exact ⟨ret_bm HR.out, by first | exact ⟨_, rfl⟩ | exact drewN_ex _ _ _⟩
  cases r3
  · have HR := Lib.hid (show sameM a1 a2 a3 p b1 b2 b3 q x1 x2 x3 y1 y2 y3 = false from by rw [HS.out]; rfl)
    go_enter Try.func37, Try.ntmps37
    go_wp2_with fail
    go_quiet ((first | (go_at_call_of 65 (Value.pointer (some (Addr.mk ga 0 none))); exact quiet_D (Q1.out _)) | (go_at_call_of 65 (Value.pointer (some (Addr.mk ga 2 none))); exact quiet_D (Q2.out _)) | (go_at_call_of 65 (Value.pointer (some (Addr.mk ga 4 none))); exact quiet_D (Q3.out _))))
    go_wp2_with fail
    go_ret
    exact ⟨ret_bm HR.out, by first | exact ⟨_, rfl⟩ | exact drewN_ex _ _ _⟩
  by_cases hpq : p = q
  · subst hpq
    have HR := Lib.hid (show sameM a1 a2 a3 p b1 b2 b3 p x1 x2 x3 y1 y2 y3 = true from by rw [HS.out]; simp)
    go_enter Try.func37, Try.ntmps37
    go_wp2_with fail
    go_quiet ((first | (go_at_call_of 65 (Value.pointer (some (Addr.mk ga 0 none))); exact quiet_D (Q1.out _)) | (go_at_call_of 65 (Value.pointer (some (Addr.mk ga 2 none))); exact quiet_D (Q2.out _)) | (go_at_call_of 65 (Value.pointer (some (Addr.mk ga 4 none))); exact quiet_D (Q3.out _))))
    go_wp2_with fail
    go_ret
    exact ⟨ret_bm HR.out, by first | exact ⟨_, rfl⟩ | exact drewN_ex _ _ _⟩
  · have E : (p == q) = false := by simpa using hpq
    have HR := Lib.hid (show sameM a1 a2 a3 p b1 b2 b3 q x1 x2 x3 y1 y2 y3 = false from by rw [HS.out]; simp [hpq])
    go_enter Try.func37, Try.ntmps37
    go_wp2_with fail
    go_quiet ((first | (go_at_call_of 65 (Value.pointer (some (Addr.mk ga 0 none))); exact quiet_D (Q1.out _)) | (go_at_call_of 65 (Value.pointer (some (Addr.mk ga 2 none))); exact quiet_D (Q2.out _)) | (go_at_call_of 65 (Value.pointer (some (Addr.mk ga 4 none))); exact quiet_D (Q3.out _))))
    go_wp2_with fail
    go_ret
    exact ⟨ret_bm HR.out, by first | exact ⟨_, rfl⟩ | exact drewN_ex _ _ _⟩
end Go.Proofs.Ytcooabjcikcpiaa
