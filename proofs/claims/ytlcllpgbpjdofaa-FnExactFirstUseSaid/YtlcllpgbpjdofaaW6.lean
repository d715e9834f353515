/- Walks of the laws on blocks: each returns true. No condition. -/
import Derived.Test.YtlcllpgbpjdofaaB
import Derived.Test.YtlcllpgbpjdofaaB2
import Derived.Test.YtlcllpgbpjdofaaR1
import Derived.Deep.RegionHeld3
set_option linter.unusedSimpArgs false
set_option linter.unusedVariables false
set_option maxRecDepth 100000
namespace Go.Proofs.Ytlcllpgbpjdofaa
open Go.RowKit

theorem bcellG {W w1 : World} {row : Option Nat} (hg : W.grownBy w1 row) {b : Nat} (h : b < W.heap.size) (hne : row = some b → False) : (∀ o, w1.cell? ⟨b, o, none⟩ = W.cell? ⟨b, o, none⟩) ∧ (∀ o, w1.frozen? ⟨b, o, none⟩ = W.frozen? ⟨b, o, none⟩) ∧ b < w1.heap.size :=
  ⟨fun o => World.cell?_of_block (a := ⟨b, o, none⟩) (hg.block b h (fun e => hne e.symm)), fun o => World.frozen?_of_block (a := ⟨b, o, none⟩) (hg.block b h (fun e => hne e.symm)), Nat.lt_of_lt_of_le h hg.size⟩




end Go.Proofs.Ytlcllpgbpjdofaa
