/- Walks of the laws on cells and numbers: each returns true. No condition. -/
import Derived.Test.YtaohhfnpjkjdiaaW1
import Derived.Test.YtaohhfnpjkjdiaaR0
set_option linter.unusedSimpArgs false
set_option linter.unusedVariables false
namespace Go.Proofs.Ytaohhfnpjkjdiaa
open Go.RowKit

def clampZ (n a b : Int) : Int := if b < a ∨ n < a then a else if b < n then b else n
theorem clampZ_lo {n a b : Int} (h : a ≤ b) : a ≤ clampZ n a b := by unfold clampZ; split <;> (try split) <;> omega
theorem clampZ_hi {n a b : Int} (h : a ≤ b) : clampZ n a b ≤ b := by unfold clampZ; split <;> (try split) <;> omega
theorem clampZ_in {n a b : Int} (h1 : a ≤ n) (h2 : n ≤ b) : clampZ n a b = n := by unfold clampZ; split <;> (try split) <;> omega
theorem clampZ_bad {n a b : Int} (h1 : b < a) : clampZ n a b = a := by unfold clampZ; rw [if_pos (.inl h1)]
def prodZ (i k : Int) : Int := if inB i 0 7 && inB k 0 7 then (if i < 4 ∧ k < 4 then (i + k) % 4 else if k < 4 then 4 + (i + k) % 4 else if i < 4 then 4 + (k - i + 4) % 4 else (k - i + 4) % 4) else -1



set_option maxHeartbeats 400000 in
theorem spec_ProductOf (i k : Int) (w : World) :
    Calls Try.prog 69 #[.int .i64 i, .int .i64 k] w fun e w' => e = .returned (.int .i64 (prodZ i k)) ∧ w = w' := by
  by_cases hi : 0 ≤ i ∧ i ≤ 7
  · by_cases hk : 0 ≤ k ∧ k ≤ 7
    · obtain ⟨hi1, hi2⟩ := hi
      obtain ⟨hk1, hk2⟩ := hk
      have bi : inB i 0 7 = true := inB_t hi1 hi2
      have bk : inB k 0 7 = true := inB_t hk1 hk2
      go_enter Try.func69, Try.ntmps69
      go_wp2_with (go_at_call 57; refine (spec_l01In _ _ _ _).mono ?_; rintro e w' ⟨rfl, rfl⟩)
      all_goals (go_ret; refine ⟨ret_int ?_, rfl⟩; simp_all [prodZ]; try omega)
    · have bk : inB k 0 7 = false := by simp [inB]; omega
      go_enter Try.func69, Try.ntmps69
      go_wp2_with (go_at_call 57; refine (spec_l01In _ _ _ _).mono ?_; rintro e w' ⟨rfl, rfl⟩)
      all_goals (go_ret; refine ⟨ret_int ?_, rfl⟩; simp_all [prodZ]; try omega)
  · have bi : inB i 0 7 = false := by simp [inB]; omega
    go_enter Try.func69, Try.ntmps69
    go_wp2_with (go_at_call 57; refine (spec_l01In _ _ _ _).mono ?_; rintro e w' ⟨rfl, rfl⟩)
    all_goals (go_ret; refine ⟨ret_int ?_, rfl⟩; simp_all [prodZ]; try omega)

set_option maxHeartbeats 400000 in
theorem impl_ProductOf (i k : Int) (w : World) :
    Calls Try.prog 70 #[.int .i64 i, .int .i64 k] w fun e w' => e = .returned (.int .i64 (prodZ i k)) ∧ w = w' := by
  by_cases hi : 0 ≤ i ∧ i ≤ 7
  · by_cases hk : 0 ≤ k ∧ k ≤ 7
    · obtain ⟨hi1, hi2⟩ := hi
      obtain ⟨hk1, hk2⟩ := hk
      have bi : inB i 0 7 = true := inB_t hi1 hi2
      have bk : inB k 0 7 = true := inB_t hk1 hk2
      go_enter Try.func70, Try.ntmps70
      go_wp2_with (go_at_call 59; refine (impl_within _ _ _ _).mono ?_; rintro e w' ⟨rfl, rfl⟩)
      all_goals (go_ret; refine ⟨ret_int ?_, rfl⟩; simp_all [prodZ]; try omega)
    · have bk : inB k 0 7 = false := by simp [inB]; omega
      go_enter Try.func70, Try.ntmps70
      go_wp2_with (go_at_call 59; refine (impl_within _ _ _ _).mono ?_; rintro e w' ⟨rfl, rfl⟩)
      all_goals (go_ret; refine ⟨ret_int ?_, rfl⟩; simp_all [prodZ]; try omega)
  · have bi : inB i 0 7 = false := by simp [inB]; omega
    go_enter Try.func70, Try.ntmps70
    go_wp2_with (go_at_call 59; refine (impl_within _ _ _ _).mono ?_; rintro e w' ⟨rfl, rfl⟩)
    all_goals (go_ret; refine ⟨ret_int ?_, rfl⟩; simp_all [prodZ]; try omega)











end Go.Proofs.Ytaohhfnpjkjdiaa
