/- WitnessOf of both packages, for all arguments. -/
import Derived.Test.YtkhjmokjbiepgaaWh1
import Derived.Test.YtkhjmokjbiepgaaWh2
import Derived.Test.YtkhjmokjbiepgaaWh3
import Derived.Test.YtkhjmokjbiepgaaWh4
import Derived.Test.YtkhjmokjbiepgaaWi1
import Derived.Test.YtkhjmokjbiepgaaWi2
import Derived.Test.YtkhjmokjbiepgaaWi3
import Derived.Test.YtkhjmokjbiepgaaWi4
namespace Go.Proofs.Ytkhjmokjbiepgaa
open Go.ChangeShapes Go.WideShapes Go.ChangeAt Go.RowKit
theorem wiG_parts {b wd kd lv : Int} (h : wiG b wd kd lv = true) : 2 ≤ b ∧ b ≤ 16 ∧ (∃ n : Nat, wd = (n : Int) ∧ 1 ≤ n ∧ n ≤ 16 ∧ ∃ k : Nat, lv = (k : Int) ∧ k < n) ∧ (kd = 1 ∨ kd = 2 ∨ kd = 3) := by
  unfold wiG at h
  simp only [Bool.and_eq_true] at h
  have h1 := inB_iff.1 h.1; have h2 := inB_iff.1 h.2.1; have h3 := inB_iff.1 h.2.2.1; have h4 := inB_iff.1 h.2.2.2
  obtain ⟨n, rfl⟩ := Int.eq_ofNat_of_zero_le (show 0 ≤ wd by omega)
  obtain ⟨k, rfl⟩ := Int.eq_ofNat_of_zero_le h4.1
  exact ⟨h1.1, h1.2, ⟨n, rfl, by omega, by omega, k, rfl, by omega⟩, by omega⟩
theorem impl_WitnessOf (b wd kd lv : Int) (w : World) :
    Calls Try.prog 29 #[.int .i64 b, .int .i64 wd, .agg #[.int .i64 kd, .int .i64 lv]] w (RetRegs w (wiB b wd kd lv) (wiX b wd kd lv) (wiY b wd kd lv) (wiC b wd kd lv)) := by
  cases hg : wiG b wd kd lv
  · exact impl_WitnessOf_bad b wd kd lv w hg
  · obtain ⟨hb, hb2, ⟨n, rfl, hn, hn2, k, rfl, hk⟩, rfl | rfl | rfl⟩ := wiG_parts hg
    · exact impl_WitnessOf_1 b n k w hb hb2 hn hn2 hk
    · exact impl_WitnessOf_2 b n k w hb hb2 hn hn2 hk
    · by_cases h0 : 0 < k
      · exact impl_WitnessOf_3 b n k w hb hb2 hn hn2 hk h0
      · obtain rfl : k = 0 := by omega
        exact impl_WitnessOf_4 b n w hb hb2 hn hn2
theorem spec_WitnessOf (b wd kd lv : Int) (w : World) :
    Calls Try.prog 27 #[.int .i64 b, .int .i64 wd, .agg #[.int .i64 kd, .int .i64 lv]] w (RetRegs w (wiB b wd kd lv) (wiX b wd kd lv) (wiY b wd kd lv) (wiC b wd kd lv)) := by
  cases hg : wiG b wd kd lv
  · exact spec_WitnessOf_bad b wd kd lv w hg
  · obtain ⟨hb, hb2, ⟨n, rfl, hn, hn2, k, rfl, hk⟩, rfl | rfl | rfl⟩ := wiG_parts hg
    · exact spec_WitnessOf_1 b n k w hb hb2 hn hn2 hk
    · exact spec_WitnessOf_2 b n k w hb hb2 hn hn2 hk
    · by_cases h0 : 0 < k
      · exact spec_WitnessOf_3 b n k w hb hb2 hn hn2 hk h0
      · obtain rfl : k = 0 := by omega
        exact spec_WitnessOf_4 b n w hb hb2 hn hn2
theorem laws_toLeverFault (kd lv : Int) (w : World) :
    Calls Try.prog 28 #[.agg #[.int .i64 kd, .int .i64 lv]] w (RetV w (.agg #[.int .i64 kd, .int .i64 lv])) := by
  go_enter Try.func28, Try.ntmps28
  go_wp2_with fail
  refine bodyPost_ret (v := .agg #[.int .i64 kd, .int .i64 lv]) (by simp [results, Try.results28, go_sem]) rfl ?_
  exact ⟨rfl, (((Below.refl _ _).alloc (Nat.le_refl _) _).alloc (by simp) _).alloc (by simp; omega) _⟩
end Go.Proofs.Ytkhjmokjbiepgaa
