/- Walks of ExchangeCell, both sides, and of its law. No condition. -/
import Derived.Test.YtlcllpgbpjdofaaQ
import Derived.Test.YtlcllpgbpjdofaaR0
import Derived.StillTailTactics
set_option linter.unusedSimpArgs false
set_option linter.unusedVariables false
set_option maxRecDepth 100000
namespace Go.Proofs.Ytlcllpgbpjdofaa
open Go.RowKit

theorem RdI.below' {w w' : World} {B B' n : Nat} {A : Option Addr} {xs : List Int} (h : RdI w B A n xs) (hb : Below B w w') (hB : B ≤ B') : RdI w' B' A n xs := (h.below hb).more hB




end Go.Proofs.Ytlcllpgbpjdofaa
