/- What the listed variables of a card give the walks: the table of powers of ten; the two errors of the library. No condition. -/
import Derived.Test.YteoddpdjhkbaiaaDoorYf
import Derived.Lib.LaidTab
import Derived.MakeChecks
import Derived.Stop.LaidErr
set_option linter.unusedVariables false
set_option maxRecDepth 100000
namespace Go.Proofs.YteoddpdjhkbaiaaDoor
open Go.RowKit

theorem pow_at {W : World} {x y : String × DataW Unit} {n : String} {r : List (String × DataW Unit)} (hn : n = "internal/strconv.uint64pow10") (hl : ((x :: y :: (n, Lib.tabData .u64 Lib.pow10Tab) :: r).all fun x => x.2.handleName?.isNone) = true)
    (h : laidMetH Tryd.prog (x :: y :: (n, Lib.tabData .u64 Lib.pow10Tab) :: r) W) : Pow W := by
  subst hn
  rw [MakeChecks.laidMetH_plain _ _ _ hl] at h
  obtain ⟨g, hg⟩ := pow_global
  exact Lib.tabIs_of_head (t := 112) (e := 94) (n := 20) hg (by
    have h0 : (Tryd.prog.globalNamed "internal/strconv.uint64pow10").bind (fun g => (Tryd.prog.globals[g]?).map (·.type)) = some 112 := by kernel_rfl
    rw [hg] at h0; exact h0) Tryd.underlying112 Tryd.underlying94 (by kernel_rfl) (by kernel_rfl) h.tail.tail
theorem pow_of {W : World} (h : laidMetH Tryd.prog Rows.fnExactFormatIntRow.laid W) : Pow W := pow_at rfl (by kernel_rfl) h
end Go.Proofs.YteoddpdjhkbaiaaDoor
