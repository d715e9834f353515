/- Walks of the laws on cells and numbers: each returns true. No condition. -/
import Derived.Test.YtlcllpgbpjdofaaW1
import Derived.Test.YtlcllpgbpjdofaaR0
set_option linter.unusedSimpArgs false
set_option linter.unusedVariables false
set_option maxRecDepth 100000
namespace Go.Proofs.Ytlcllpgbpjdofaa
open Go.RowKit

def clampZ (n a b : Int) : Int := if b < a ∨ n < a then a else if b < n then b else n
theorem clampZ_lo {n a b : Int} (h : a ≤ b) : a ≤ clampZ n a b := by unfold clampZ; split <;> (try split) <;> omega
theorem clampZ_hi {n a b : Int} (h : a ≤ b) : clampZ n a b ≤ b := by unfold clampZ; split <;> (try split) <;> omega
theorem clampZ_in {n a b : Int} (h1 : a ≤ n) (h2 : n ≤ b) : clampZ n a b = n := by unfold clampZ; split <;> (try split) <;> omega
theorem clampZ_bad {n a b : Int} (h1 : b < a) : clampZ n a b = a := by unfold clampZ; rw [if_pos (.inl h1)]
def prodZ (i k : Int) : Int := if inB i 0 7 && inB k 0 7 then (if i < 4 ∧ k < 4 then (i + k) % 4 else if k < 4 then 4 + (i + k) % 4 else if i < 4 then 4 + (k - i + 4) % 4 else (k - i + 4) % 4) else -1


set_option maxHeartbeats 400000 in
theorem impl_Clamp (n a b : Int) (w : World) :
    Calls Try.prog 14 #[.int .i64 n, .int .i64 a, .int .i64 b] w fun e w' => e = .returned (.int .i64 (clampZ n a b)) ∧ w = w' := by
  go_enter Try.func14, Try.ntmps14
  go_wp2
  all_goals (go_ret; refine ⟨ret_int ?_, rfl⟩; simp [clampZ] at *; try omega)













end Go.Proofs.Ytlcllpgbpjdofaa
