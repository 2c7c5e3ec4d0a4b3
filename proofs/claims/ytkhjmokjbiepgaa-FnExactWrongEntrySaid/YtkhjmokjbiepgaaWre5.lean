/- WrongEntry of the program. -/
import Derived.IntWalk
import Derived.Test.YtkhjmokjbiepgaaWre3
import Derived.Test.YtkhjmokjbiepgaaWre4
namespace Go.Proofs.Ytkhjmokjbiepgaa
open Go.ChangeShapes Go.WideShapes Go.ChangeAt Go.RowKit
set_option maxHeartbeats 1000000 in
theorem impl_WrongEntry {B : Nat} {v : Value} {zs : List Int} (d : Int) (w : World) (h : Own w B v zs) :
    Calls Try.prog 16 #[v, .int .i64 d] w (RetV w (.tuple #[.int .i64 (weR zs d).1, .int .i64 (weR zs d).2.1, .int .i64 (weR zs d).2.2])) := by
  have HO := Lib.hid h
  obtain ⟨a, cap, rfl, hm, -⟩ := own_form h
  clear h
  cases hv : valB zs
  · have HR := Lib.hid (show weR zs d = (0, 0, 1) from by simp [weR, hv])
    go_enter Try.func16, Try.ntmps16
    go_wp2_with fail
    refine (impl_areValues _ HO.out).mono ?_; rintro e w' ⟨rfl, rfl⟩; rw [hv]
    go_wp2_with fail
    go_ret3
    exact ⟨ret_i3 HR.out, Below.refl _ _⟩
  obtain ⟨hb, hl1, hl⟩ := valB_parts hv
  have HBB := Lib.hid hb; clear hb
  cases hn : inB d 0 8
  · have HR := Lib.hid (show weR zs d = (0, 0, 2) from by simp [weR, hv, hn])
    go_enter Try.func16, Try.ntmps16
    go_wp2_with fail
    refine (impl_areValues _ HO.out).mono ?_; rintro e w' ⟨rfl, rfl⟩; rw [hv]
    go_wp2_with fail
    refine (impl_isDegree _ _).mono ?_; rintro e w' ⟨rfl, rfl⟩; rw [hn]
    go_wp2_with fail
    go_ret3
    exact ⟨ret_i3 HR.out, Below.refl _ _⟩
  obtain ⟨d0, d1⟩ := inB_iff.1 hn
  have HBD := Lib.hid (difN_fits hl HBB.out)
  by_cases hs : (zs.length : Int) ≤ d + 2
  · have HR := Lib.hid (show weR zs d = (0, 0, 6) from by simp [weR, hv, hn, hs])
    have HH := Lib.hid (fun wx hx => impl_hasDegree (B := B) (v := .slice a zs.length cap) (zs := zs) d wx hx (by omega) (by omega) hl HBD.out)
    generalize hasDeg zs d.toNat = hdg at HH
    cases hdg
    all_goals (
    go_enter Try.func16, Try.ntmps16
    go_wp2_with fail
    refine (impl_areValues _ HO.out).mono ?_; rintro e w' ⟨rfl, rfl⟩; rw [hv]
    go_wp2_with fail
    refine (impl_isDegree _ _).mono ?_; rintro e w' ⟨rfl, rfl⟩; rw [hn]
    go_wp2_with fail
    refine (HH.out _ HO.out).mono ?_; rintro e w1 ⟨rfl, b1⟩
    have B1 := Lib.hid b1; clear b1
    go_wp2_with fail
    go_ret3
    exact ⟨ret_i3 HR.out, B1.out⟩)
  cases hd : hasDeg zs d.toNat
  rotate_left
  · have HR := Lib.hid (show weR zs d = (0, 0, 6) from by simp [weR, hv, hn, hd])
    go_enter Try.func16, Try.ntmps16
    go_wp2_with fail
    refine (impl_areValues _ HO.out).mono ?_; rintro e w' ⟨rfl, rfl⟩; rw [hv]
    go_wp2_with fail
    refine (impl_isDegree _ _).mono ?_; rintro e w' ⟨rfl, rfl⟩; rw [hn]
    go_wp2_with fail
    refine (impl_hasDegree _ _ HO.out (by omega) (by omega) hl HBD.out).mono ?_; rintro e w1 ⟨rfl, b1⟩
    have B1 := Lib.hid b1; clear b1
    rw [hd]
    go_wp2_with fail
    go_ret3
    exact ⟨ret_i3 HR.out, B1.out⟩
  have HR := Lib.hid (show weR zs d = weF zs (d.toNat + 1) (zs.length - 0) 0 from by unfold weR; rw [hv, hn, hd, decide_eq_false hs]; rfl)
  obtain ⟨m, rfl⟩ := Int.eq_ofNat_of_zero_le d0
  rw [Int.toNat_natCast] at *
  go_enter Try.func16, Try.ntmps16
  go_wp2_with fail
  refine (impl_areValues _ HO.out).mono ?_; rintro e w' ⟨rfl, rfl⟩; rw [hv]
  go_wp2_with fail
  refine (impl_isDegree _ _).mono ?_; rintro e w' ⟨rfl, rfl⟩; rw [hn]
  go_wp2_with fail
  refine (impl_hasDegree _ _ HO.out (by omega) (by omega) hl HBD.out).mono ?_; rintro e w1 ⟨rfl, b1⟩
  have B1 := Lib.hid b1
  have O1 := Lib.hid (own_keep b1 HO.out); clear b1
  rw [Int.toNat_natCast, hd]
  clear hv hn hd HBD
  go_wp2_with fail
  go_loopw [7, 28] (fun _ ii wr => ∃ t : Nat, t ≤ zs.length ∧ ii = .int .i64 (t : Int) ∧ weR zs (m : Int) = weF zs (m + 1) (zs.length - t) t ∧ Below w1.heap.size w1 wr) (fun _ ii _ => zs.length - (intOf ii).toNat)
  case atStart => exact ⟨0, Nat.zero_le _, rfl, HR.out, Below.refl _ _⟩
  case round =>
    obtain ⟨t, ht, rfl, hr, hbw⟩ := hrel
    have HW := Lib.hid hr; have HB := Lib.hid hbw; clear hr hbw
    by_cases hlt : t < zs.length
    · cases hk : repOk zs (m + 1) t
      · have HN := Lib.hid (HW.out.trans (weF_miss hlt hk))
        go_wp2_with fail
        refine (impl_replacement m t _ (own_keep HB.out O1.out) HBB.out hl (by omega) (by omega) hlt).mono ?_; rintro e w2 ⟨y, rfl, hy, b2⟩
        rw [hk]
        have B2 := Lib.hid (Below.trans_size HB.out b2); clear b2 hy hk
        go_wp2_with fail
        go_roundw
        case rel => exact ⟨t + 1, by omega, by go_num, HN.out, B2.out⟩
        case measure => first | (simp [intOf]; done) | (simp [intOf]; omega)
      · have HN := Lib.hid (HW.out.trans (weF_hit hlt hk))
        go_wp2_with fail
        refine (impl_replacement m t _ (own_keep HB.out O1.out) HBB.out hl (by omega) (by omega) hlt).mono ?_; rintro e w2 ⟨y, rfl, hy, b2⟩
        rw [hk]
        have hy' := hy hk; subst hy'
        have B2 := Lib.hid (Below.trans_size HB.out b2); clear b2 hk
        go_wp2_with fail
        go_ret3
        exact ⟨ret_i3 HN.out, Below.trans_size B1.out B2.out⟩
    · obtain rfl : t = zs.length := by omega
      have HN := Lib.hid (show weR zs (m : Int) = (0, 0, 3) from by rw [HW.out, Nat.sub_self]; rfl)
      go_wp2_with fail
      go_ret3
      exact ⟨ret_i3 HN.out, Below.trans_size B1.out HB.out⟩
end Go.Proofs.Ytkhjmokjbiepgaa
