/- What the listed variables of a card give the walks: the table of powers of ten; the two errors of the library. No condition. -/
import Derived.Test.YteoddpdjhkbaiaaDoorYf
import Derived.Test.YteoddpdjhkbaiaaDoorYp
import Derived.Lib.LaidTab
import Derived.MakeChecks
import Derived.Stop.LaidErr
import Derived.LaidLaws
set_option linter.unusedVariables false
set_option maxRecDepth 100000
namespace Go.Proofs.YteoddpdjhkbaiaaDoor
open Go.RowKit

theorem pow_at {W : World} {x y : String × DataW Unit} {n : String} {r : List (String × DataW Unit)} (hn : n = "internal/strconv.uint64pow10") (hl : ((x :: y :: (n, Lib.tabData .u64 Lib.pow10Tab) :: r).all fun x => x.2.handleName?.isNone) = true)
    (h : laidMetH Tryd.prog (x :: y :: (n, Lib.tabData .u64 Lib.pow10Tab) :: r) W) : Pow W := by
  subst hn
  rw [MakeChecks.laidMetH_plain _ _ _ hl] at h
  obtain ⟨g, hg⟩ := pow_global
  exact Lib.tabIs_of_head (t := 112) (e := 94) (n := 20) hg (by
    have h0 : (Tryd.prog.globalNamed "internal/strconv.uint64pow10").bind (fun g => (Tryd.prog.globals[g]?).map (·.type)) = some 112 := by kernel_rfl
    rw [hg] at h0; exact h0) Tryd.underlying112 Tryd.underlying94 (by kernel_rfl) (by kernel_rfl) h.tail.tail
theorem pow_of {W : World} (h : laidMetH Tryd.prog Rows.fnExactFormatIntRow.laid W) : Pow W := pow_at rfl (by kernel_rfl) h
theorem pow_of5 {W : World} (h : laidMetH Tryd.prog Rows.fnExactParseUintRow.laid W) : Pow W := pow_at rfl (by kernel_rfl) h
theorem star_es : "*" ++ "errors.errorString" = "*errors.errorString" := by decide
theorem row_es (u : TypeId) (h : Tryd.prog.typeName? 3 u = some "*errors.errorString") : u = 108 :=
  typeName_ptr_named (nm := "errors.errorString") (by rw [star_es]; kernel_rfl) (by kernel_rfl) (by decide) u (by rw [star_es]; exact h)
theorem errs_at {W : World} {x y z : String × DataW Unit} {n1 n2 : String} {t1 t2 : List UInt8} {r : List (String × DataW Unit)} (h1 : n1 = "strconv.ErrRange") (h2 : n2 = "strconv.ErrSyntax")
    (h : laidMet Tryd.prog (x :: y :: z :: (n1, .iface "*errors.errorString" (.ptr (.agg [.lit (.string t1)]))) :: (n2, .iface "*errors.errorString" (.ptr (.agg [.lit (.string t2)]))) :: r) W) : Errs W := by
  subst h1 h2
  obtain ⟨⟨g, hg⟩, ⟨k, hk⟩⟩ := errs_global
  have h3 := laidMet.tail (laidMet.tail (laidMet.tail h))
  have c1 : Tryd.prog.cellsOf 110 = 1 := by kernel_rfl
  have c2 : Tryd.prog.cellsOf 9 = 1 := by kernel_rfl
  obtain ⟨a, _, ha, _⟩ := laid_sentinel h3 hk (ti := 62) (by
    have h0 : (Tryd.prog.globalNamed "strconv.ErrRange").bind (fun g => (Tryd.prog.globals[g]?).map (·.type)) = some 62 := by kernel_rfl
    rw [hk] at h0; exact h0) Tryd.underlying62 row_es Tryd.underlying108 Tryd.underlying110 rfl rfl Tryd.underlying9 c1 c2
  obtain ⟨b, _, hb, _⟩ := laid_sentinel (laidMet.tail h3) hg (ti := 62) (by
    have h0 : (Tryd.prog.globalNamed "strconv.ErrSyntax").bind (fun g => (Tryd.prog.globals[g]?).map (·.type)) = some 62 := by kernel_rfl
    rw [hg] at h0; exact h0) Tryd.underlying62 row_es Tryd.underlying108 Tryd.underlying110 rfl rfl Tryd.underlying9 c1 c2
  exact ⟨_, _, _, _, hb, ha⟩
theorem errs_of5 {W : World} (h : laidMetH Tryd.prog Rows.fnExactParseUintRow.laid W) : Errs W := by
  rw [MakeChecks.laidMetH_plain _ _ _ (by kernel_rfl)] at h
  exact errs_at rfl rfl h
end Go.Proofs.YteoddpdjhkbaiaaDoor
