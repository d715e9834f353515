/- How the arguments of the laws are opened: each value as numbers, strings and rows of cells. No condition. -/
import Derived.Test.YteoddpdjhkbaiaaRows
import Derived.Test.YteoddpdjhkbaiaaI
import Derived.WalkKit
import Derived.ProofKit
import Derived.OpenShut
import Derived.ShutString
import Derived.ChangeOld
import Derived.Below
import Derived.Carry
import Derived.Lib.SmallJoins
import Derived.Deep.Slices
import Derived.Deep.Fields
import Derived.ChangeSame
set_option linter.unusedSimpArgs false
set_option linter.unusedVariables false
set_option maxRecDepth 100000
namespace Go.Proofs.Yteoddpdjhkbaiaa
open Go.ChangeShapes Go.WideShapes Go.ChangeAt Go.RowKit Go.Joins Go.Deep
open Go.ChangeMaps (open_string shut_string)

theorem ownKnobs : ownKnob Try.prog.godebug = none := by kernel_rfl
theorem laidOutP : laidOutB Try.prog = true := by kernel_rfl

/-- a number fits int -/
def I64 (a : Int) : Prop := (Lit.int .i64 a).wf = true

section
variable {H : Type} {enc : TypeId × Value → H} {W : World} {base : Nat} {v : Value} {d : DataW H} {p : List MemPlace}

theorem openInt (hv : Value.okWide Try.prog W .any base 3 v) (h : DataW.Trod enc Try.prog W 0 (fun _ => true) true 3 v d p) : ∃ a, v = .int .i64 a ∧ I64 a := by
  obtain ⟨a, rfl, _, _, wa⟩ := open_int Try.underlying3 hv h
  exact ⟨a, rfl, wa⟩

theorem openStr (hv : Value.okWide Try.prog W .any base 9 v) (h : DataW.Trod enc Try.prog W 0 (fun _ => true) true 9 v d p) : ∃ s, v = .string s ∧ s.size ≤ maxLen := by
  obtain ⟨a, rfl, _, _, wa⟩ := open_string Try.underlying9 hv h
  exact ⟨a, rfl, wa⟩


/-- an argument of the type []int: it reads as the list xs -/
def ArgI (w : World) (A : Option Addr) (n : Nat) (xs : List Int) : Prop := n ≤ maxLen ∧ (n ≤ 2097152 → RdI w w.heap.size A n xs)

theorem at_none {w : World} {x : Addr} {v : Value} (h : w.cell? x = some v) : x = ⟨x.block, x.off, none⟩ := by
  have := World.cell?_spot h
  cases x; simp_all


end
end Go.Proofs.Yteoddpdjhkbaiaa
