/- A row's closed fact 'recurses' where the law calls a function value, or calls itself. -/
import Derived.Test.YtlcllpgbpjdofaaF
set_option linter.unusedVariables false
set_option maxRecDepth 100000
namespace Go.Proofs.Ytlcllpgbpjdofaa
open Go
theorem recurses_unf {P : Program} {A : List (List Nat)} (hA : P.funcs.toList.map (fun g => P.leadsTo g) = A) {f : Nat} (h1 : (true == P.unfollowed f) = true) : (true == P.recurses f) = true := by
  rw [recurses_gen hA]
  have h : P.unfollowed f = true := by
    cases hu : P.unfollowed f with
    | true => rfl
    | false => rw [hu] at h1; cases h1
  rw [h]; rfl
theorem recurses_yes {P : Program} {A : List (List Nat)} (hA : P.funcs.toList.map (fun g => P.leadsTo g) = A) {f : Nat} (h2 : recA A f = true) : (true == P.recurses f) = true := by
  rw [recurses_gen hA, h2, Bool.or_true]; rfl
end Go.Proofs.Ytlcllpgbpjdofaa
