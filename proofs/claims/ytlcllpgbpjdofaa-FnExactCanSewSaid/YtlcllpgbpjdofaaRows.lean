/-
  No cell of these rows narrows 'for every input' (looked for: loops, veiled, ifaces, maps, wideKeys, modest, calm, conditions, laid).
  DERIVED. THE GIVEN ROWS OF THIS SEAT. 9 by the template 'for every input the law returns true; each argument reads behind the call as it read before'; 0 by the template 'total and deterministic' (their statements: YtlcllpgbpjdofaaTotals.lean).
  GIVEN WITH THE SEED: the statements are not yours to turn. If you find one false, say at which input.
  Laid BY PROGRAM, IN A SANDBOX (cutbox-rows.mjs): the forced cells as the released guide's own fill.sh prints them over the translation 422dcd142fbab98d… (all of the seat's roots in one cut). By AI agents, Wed Nov 11 2026. No macro, syntax, notation, axiom, sorry.
-/
import Derived.Test.YtlcllpgbpjdofaaChecked
import GoSem.Claim
import GoSem.ClaimJoined
import GoSem.ClaimMapViews
import Derived.JoinedTies
import Derived.KernelRfl
namespace Go.Proofs.Ytlcllpgbpjdofaa
/- THE CELL 'sum', in the pinned program and in every row, IS THE sha256 OF THE DUMP (.gsa) THAT YtlcllpgbpjdofaaProg.lean LOADS. Nothing in Lean hashes anything: it is a label: what it is worth is what the hold of that sum in a sandbox is worth. -/
noncomputable def Try.pinned : Pinned := { name := "ytlcllpgbpjdofaa", sum := "422dcd142fbab98d0cb8e4217458b59d743a75e487063d953145a4a9e3301f8d", checked := Try.checked }
namespace Rows
def none {H : Type} : Left H := { results := [], args := [] }

/-- 'laws.FnClamped': WHATEVER THE INPUT: true; the input reads as it did. -/
def fnClampedSpec : ChangeSpec := { name := "fnClamped", fn := fun _ => fun
  | [d] => { results := [.lit (.bool true)], args := [d] }
  | _ => none }
def fnClampedRow : OpenClaim := { program := "ytlcllpgbpjdofaa", sum := "422dcd142fbab98d0cb8e4217458b59d743a75e487063d953145a4a9e3301f8d", func := "loop.example/g03304/laws.FnClamped", spec := "fnClamped", apart := false }
def FnClampedSaid : Prop := fnClampedRow.holds Try.pinned (OpenSpec.ofChange fnClampedSpec)

/-- ITS FALSE NEIGHBOUR: 'it returns false'. Refute it at one input. -/
def fnClampedWrong : ChangeSpec := { name := "fnClamped", fn := fun _ => fun
  | [d] => { results := [.lit (.bool false)], args := [d] }
  | _ => none }
def FnClampedWrongFalsely : Prop := fnClampedRow.holds Try.pinned (OpenSpec.ofChange fnClampedWrong)

/-- 'laws.FnLayouts': WHATEVER THE INPUT: true; the input reads as it did. -/
def fnLayoutsSpec : ChangeSpec := { name := "fnLayouts", fn := fun _ => fun
  | [d] => { results := [.lit (.bool true)], args := [d] }
  | _ => none }
def fnLayoutsRow : OpenClaim := { program := "ytlcllpgbpjdofaa", sum := "422dcd142fbab98d0cb8e4217458b59d743a75e487063d953145a4a9e3301f8d", func := "loop.example/g03304/laws.FnLayouts", spec := "fnLayouts", apart := false }
def FnLayoutsSaid : Prop := fnLayoutsRow.holds Try.pinned (OpenSpec.ofChange fnLayoutsSpec)

/-- ITS FALSE NEIGHBOUR: 'it returns false'. Refute it at one input. -/
def fnLayoutsWrong : ChangeSpec := { name := "fnLayouts", fn := fun _ => fun
  | [d] => { results := [.lit (.bool false)], args := [d] }
  | _ => none }
def FnLayoutsWrongFalsely : Prop := fnLayoutsRow.holds Try.pinned (OpenSpec.ofChange fnLayoutsWrong)

/-- 'laws.FnAreas': WHATEVER THE INPUT: true; the input reads as it did. -/
def fnAreasSpec : ChangeSpec := { name := "fnAreas", fn := fun _ => fun
  | [d] => { results := [.lit (.bool true)], args := [d] }
  | _ => none }
def fnAreasRow : OpenClaim := { program := "ytlcllpgbpjdofaa", sum := "422dcd142fbab98d0cb8e4217458b59d743a75e487063d953145a4a9e3301f8d", func := "loop.example/g03304/laws.FnAreas", spec := "fnAreas", apart := false }
def FnAreasSaid : Prop := fnAreasRow.holds Try.pinned (OpenSpec.ofChange fnAreasSpec)

/-- ITS FALSE NEIGHBOUR: 'it returns false'. Refute it at one input. -/
def fnAreasWrong : ChangeSpec := { name := "fnAreas", fn := fun _ => fun
  | [d] => { results := [.lit (.bool false)], args := [d] }
  | _ => none }
def FnAreasWrongFalsely : Prop := fnAreasRow.holds Try.pinned (OpenSpec.ofChange fnAreasWrong)

/-- 'laws.FnExactMirrorBlock': WHATEVER THE INPUT: true; the input reads as it did. -/
def fnExactMirrorBlockSpec : ChangeSpec := { name := "fnExactMirrorBlock", fn := fun _ => fun
  | [d] => { results := [.lit (.bool true)], args := [d] }
  | _ => none }
def fnExactMirrorBlockRow : OpenClaim := { program := "ytlcllpgbpjdofaa", sum := "422dcd142fbab98d0cb8e4217458b59d743a75e487063d953145a4a9e3301f8d", func := "loop.example/g03304/laws.FnExactMirrorBlock", spec := "fnExactMirrorBlock", unfollowed := true, recurses := true, apart := false }
def FnExactMirrorBlockSaid : Prop := fnExactMirrorBlockRow.holds Try.pinned (OpenSpec.ofChange fnExactMirrorBlockSpec)

/-- ITS FALSE NEIGHBOUR: 'it returns false'. Refute it at one input. -/
def fnExactMirrorBlockWrong : ChangeSpec := { name := "fnExactMirrorBlock", fn := fun _ => fun
  | [d] => { results := [.lit (.bool false)], args := [d] }
  | _ => none }
def FnExactMirrorBlockWrongFalsely : Prop := fnExactMirrorBlockRow.holds Try.pinned (OpenSpec.ofChange fnExactMirrorBlockWrong)

/-- 'laws.FnExactTurnBlock': WHATEVER THE INPUT: true; the input reads as it did. -/
def fnExactTurnBlockSpec : ChangeSpec := { name := "fnExactTurnBlock", fn := fun _ => fun
  | [d] => { results := [.lit (.bool true)], args := [d] }
  | _ => none }
def fnExactTurnBlockRow : OpenClaim := { program := "ytlcllpgbpjdofaa", sum := "422dcd142fbab98d0cb8e4217458b59d743a75e487063d953145a4a9e3301f8d", func := "loop.example/g03304/laws.FnExactTurnBlock", spec := "fnExactTurnBlock", unfollowed := true, recurses := true, apart := false }
def FnExactTurnBlockSaid : Prop := fnExactTurnBlockRow.holds Try.pinned (OpenSpec.ofChange fnExactTurnBlockSpec)

/-- ITS FALSE NEIGHBOUR: 'it returns false'. Refute it at one input. -/
def fnExactTurnBlockWrong : ChangeSpec := { name := "fnExactTurnBlock", fn := fun _ => fun
  | [d] => { results := [.lit (.bool false)], args := [d] }
  | _ => none }
def FnExactTurnBlockWrongFalsely : Prop := fnExactTurnBlockRow.holds Try.pinned (OpenSpec.ofChange fnExactTurnBlockWrong)

/-- 'laws.FnExactFirstUse': WHATEVER THE INPUT: true; the input reads as it did. -/
def fnExactFirstUseSpec : ChangeSpec := { name := "fnExactFirstUse", fn := fun _ => fun
  | [d] => { results := [.lit (.bool true)], args := [d] }
  | _ => none }
def fnExactFirstUseRow : OpenClaim := { program := "ytlcllpgbpjdofaa", sum := "422dcd142fbab98d0cb8e4217458b59d743a75e487063d953145a4a9e3301f8d", func := "loop.example/g03304/laws.FnExactFirstUse", spec := "fnExactFirstUse", apart := false }
def FnExactFirstUseSaid : Prop := fnExactFirstUseRow.holds Try.pinned (OpenSpec.ofChange fnExactFirstUseSpec)

/-- ITS FALSE NEIGHBOUR: 'it returns false'. Refute it at one input. -/
def fnExactFirstUseWrong : ChangeSpec := { name := "fnExactFirstUse", fn := fun _ => fun
  | [d] => { results := [.lit (.bool false)], args := [d] }
  | _ => none }
def FnExactFirstUseWrongFalsely : Prop := fnExactFirstUseRow.holds Try.pinned (OpenSpec.ofChange fnExactFirstUseWrong)

/-- 'laws.FnExactCutsOf': WHATEVER THE INPUT: true; the input reads as it did. -/
def fnExactCutsOfSpec : ChangeSpec := { name := "fnExactCutsOf", fn := fun _ => fun
  | [d] => { results := [.lit (.bool true)], args := [d] }
  | _ => none }
def fnExactCutsOfRow : OpenClaim := { program := "ytlcllpgbpjdofaa", sum := "422dcd142fbab98d0cb8e4217458b59d743a75e487063d953145a4a9e3301f8d", func := "loop.example/g03304/laws.FnExactCutsOf", spec := "fnExactCutsOf", apart := false }
def FnExactCutsOfSaid : Prop := fnExactCutsOfRow.holds Try.pinned (OpenSpec.ofChange fnExactCutsOfSpec)

/-- ITS FALSE NEIGHBOUR: 'it returns false'. Refute it at one input. -/
def fnExactCutsOfWrong : ChangeSpec := { name := "fnExactCutsOf", fn := fun _ => fun
  | [d] => { results := [.lit (.bool false)], args := [d] }
  | _ => none }
def FnExactCutsOfWrongFalsely : Prop := fnExactCutsOfRow.holds Try.pinned (OpenSpec.ofChange fnExactCutsOfWrong)

/-- 'laws.FnExactCanSew': WHATEVER THE INPUT: true; the input reads as it did. -/
def fnExactCanSewSpec : ChangeSpec := { name := "fnExactCanSew", fn := fun _ => fun
  | [d] => { results := [.lit (.bool true)], args := [d] }
  | _ => none }
def fnExactCanSewRow : OpenClaim := { program := "ytlcllpgbpjdofaa", sum := "422dcd142fbab98d0cb8e4217458b59d743a75e487063d953145a4a9e3301f8d", func := "loop.example/g03304/laws.FnExactCanSew", spec := "fnExactCanSew", recurses := true, apart := false }
def FnExactCanSewSaid : Prop := fnExactCanSewRow.holds Try.pinned (OpenSpec.ofChange fnExactCanSewSpec)

/-- ITS FALSE NEIGHBOUR: 'it returns false'. Refute it at one input. -/
def fnExactCanSewWrong : ChangeSpec := { name := "fnExactCanSew", fn := fun _ => fun
  | [d] => { results := [.lit (.bool false)], args := [d] }
  | _ => none }
def FnExactCanSewWrongFalsely : Prop := fnExactCanSewRow.holds Try.pinned (OpenSpec.ofChange fnExactCanSewWrong)

/-- 'laws.FnExactSplitLayout': WHATEVER THE INPUT: true; the input reads as it did. -/
def fnExactSplitLayoutSpec : ChangeSpec := { name := "fnExactSplitLayout", fn := fun _ => fun
  | [d1, d2] => { results := [.lit (.bool true)], args := [d1, d2] }
  | _ => none }
def fnExactSplitLayoutRow : OpenClaim := { program := "ytlcllpgbpjdofaa", sum := "422dcd142fbab98d0cb8e4217458b59d743a75e487063d953145a4a9e3301f8d", func := "loop.example/g03304/laws.FnExactSplitLayout", spec := "fnExactSplitLayout", apart := false }
def FnExactSplitLayoutSaid : Prop := fnExactSplitLayoutRow.holds Try.pinned (OpenSpec.ofChange fnExactSplitLayoutSpec)

/-- ITS FALSE NEIGHBOUR: 'it returns false'. Refute it at one input. -/
def fnExactSplitLayoutWrong : ChangeSpec := { name := "fnExactSplitLayout", fn := fun _ => fun
  | [d1, d2] => { results := [.lit (.bool false)], args := [d1, d2] }
  | _ => none }
def FnExactSplitLayoutWrongFalsely : Prop := fnExactSplitLayoutRow.holds Try.pinned (OpenSpec.ofChange fnExactSplitLayoutWrong)

/- THE SECOND FORM. 'bulk': how many values and letters a reading holds, each counted each time it is reached (what is shared counts as often as it is met; a slice's spare places count too). A statement '..UptoSaid' is the law's where the arguments, and the package variables that the reading takes, are together of bulk at most 1048576: NARROWER than '..Said'. Prove '..Said' where nothing that the law and all that it calls make is longer than what came in: it says more and counts as full. Else prove '..UptoSaid'. A law counts once. -/
mutual
def uptoBulk {H : Type} : DataW H → Nat
  | .lit (.string bytes) => bytes.length + 1
  | .lit _ => 1
  | .nil => 1
  | .ptr d => uptoBulk d + 1
  | .slice elems spare => uptoBulkAll elems + uptoBulkAll spare + 1
  | .agg parts => uptoBulkAll parts + 1
  | .iface _ d => uptoBulk d + 1
  | .map entries => uptoBulkEntries entries + 1
  | .held _ => 1
def uptoBulkAll {H : Type} : List (DataW H) → Nat
  | [] => 0
  | d :: r => uptoBulk d + uptoBulkAll r
def uptoBulkEntries {H : Type} : List (Lit × DataW H) → Nat
  | [] => 0
  | x :: r => uptoBulkEntry x + uptoBulkEntries r
def uptoBulkEntry {H : Type} : Lit × DataW H → Nat
  | (.string bytes, d) => bytes.length + uptoBulk d + 1
  | (_, d) => uptoBulk d + 1
 end
def uptoSmall : (H : Type) → List (DataW H) → Bool := fun _ ds => decide (uptoBulkAll ds ≤ 1048576)
def OpenSpec.upto (s : _root_.Go.ChangeSpec) : _root_.Go.OpenSpec := { _root_.Go.OpenSpec.ofChange s with cond := some uptoSmall }

/-- 'laws.FnClamped', WHERE WHAT IT READS IS OF BULK AT MOST 1048576: true; the input reads as it did. -/
def fnClampedUptoRow : OpenClaim := { program := "ytlcllpgbpjdofaa", sum := "422dcd142fbab98d0cb8e4217458b59d743a75e487063d953145a4a9e3301f8d", func := "loop.example/g03304/laws.FnClamped", spec := "fnClamped", apart := false, narrowed := true }
def FnClampedUptoSaid : Prop := fnClampedUptoRow.holds Try.pinned (OpenSpec.upto fnClampedSpec)

/-- 'laws.FnLayouts', WHERE WHAT IT READS IS OF BULK AT MOST 1048576: true; the input reads as it did. -/
def fnLayoutsUptoRow : OpenClaim := { program := "ytlcllpgbpjdofaa", sum := "422dcd142fbab98d0cb8e4217458b59d743a75e487063d953145a4a9e3301f8d", func := "loop.example/g03304/laws.FnLayouts", spec := "fnLayouts", apart := false, narrowed := true }
def FnLayoutsUptoSaid : Prop := fnLayoutsUptoRow.holds Try.pinned (OpenSpec.upto fnLayoutsSpec)

/-- 'laws.FnAreas', WHERE WHAT IT READS IS OF BULK AT MOST 1048576: true; the input reads as it did. -/
def fnAreasUptoRow : OpenClaim := { program := "ytlcllpgbpjdofaa", sum := "422dcd142fbab98d0cb8e4217458b59d743a75e487063d953145a4a9e3301f8d", func := "loop.example/g03304/laws.FnAreas", spec := "fnAreas", apart := false, narrowed := true }
def FnAreasUptoSaid : Prop := fnAreasUptoRow.holds Try.pinned (OpenSpec.upto fnAreasSpec)

/-- 'laws.FnExactMirrorBlock', WHERE WHAT IT READS IS OF BULK AT MOST 1048576: true; the input reads as it did. -/
def fnExactMirrorBlockUptoRow : OpenClaim := { program := "ytlcllpgbpjdofaa", sum := "422dcd142fbab98d0cb8e4217458b59d743a75e487063d953145a4a9e3301f8d", func := "loop.example/g03304/laws.FnExactMirrorBlock", spec := "fnExactMirrorBlock", unfollowed := true, recurses := true, apart := false, narrowed := true }
def FnExactMirrorBlockUptoSaid : Prop := fnExactMirrorBlockUptoRow.holds Try.pinned (OpenSpec.upto fnExactMirrorBlockSpec)

/-- 'laws.FnExactTurnBlock', WHERE WHAT IT READS IS OF BULK AT MOST 1048576: true; the input reads as it did. -/
def fnExactTurnBlockUptoRow : OpenClaim := { program := "ytlcllpgbpjdofaa", sum := "422dcd142fbab98d0cb8e4217458b59d743a75e487063d953145a4a9e3301f8d", func := "loop.example/g03304/laws.FnExactTurnBlock", spec := "fnExactTurnBlock", unfollowed := true, recurses := true, apart := false, narrowed := true }
def FnExactTurnBlockUptoSaid : Prop := fnExactTurnBlockUptoRow.holds Try.pinned (OpenSpec.upto fnExactTurnBlockSpec)

/-- 'laws.FnExactFirstUse', WHERE WHAT IT READS IS OF BULK AT MOST 1048576: true; the input reads as it did. -/
def fnExactFirstUseUptoRow : OpenClaim := { program := "ytlcllpgbpjdofaa", sum := "422dcd142fbab98d0cb8e4217458b59d743a75e487063d953145a4a9e3301f8d", func := "loop.example/g03304/laws.FnExactFirstUse", spec := "fnExactFirstUse", apart := false, narrowed := true }
def FnExactFirstUseUptoSaid : Prop := fnExactFirstUseUptoRow.holds Try.pinned (OpenSpec.upto fnExactFirstUseSpec)

/-- 'laws.FnExactCutsOf', WHERE WHAT IT READS IS OF BULK AT MOST 1048576: true; the input reads as it did. -/
def fnExactCutsOfUptoRow : OpenClaim := { program := "ytlcllpgbpjdofaa", sum := "422dcd142fbab98d0cb8e4217458b59d743a75e487063d953145a4a9e3301f8d", func := "loop.example/g03304/laws.FnExactCutsOf", spec := "fnExactCutsOf", apart := false, narrowed := true }
def FnExactCutsOfUptoSaid : Prop := fnExactCutsOfUptoRow.holds Try.pinned (OpenSpec.upto fnExactCutsOfSpec)

/-- 'laws.FnExactCanSew', WHERE WHAT IT READS IS OF BULK AT MOST 1048576: true; the input reads as it did. -/
def fnExactCanSewUptoRow : OpenClaim := { program := "ytlcllpgbpjdofaa", sum := "422dcd142fbab98d0cb8e4217458b59d743a75e487063d953145a4a9e3301f8d", func := "loop.example/g03304/laws.FnExactCanSew", spec := "fnExactCanSew", recurses := true, apart := false, narrowed := true }
def FnExactCanSewUptoSaid : Prop := fnExactCanSewUptoRow.holds Try.pinned (OpenSpec.upto fnExactCanSewSpec)

/-- 'laws.FnExactSplitLayout', WHERE WHAT IT READS IS OF BULK AT MOST 1048576: true; the input reads as it did. -/
def fnExactSplitLayoutUptoRow : OpenClaim := { program := "ytlcllpgbpjdofaa", sum := "422dcd142fbab98d0cb8e4217458b59d743a75e487063d953145a4a9e3301f8d", func := "loop.example/g03304/laws.FnExactSplitLayout", spec := "fnExactSplitLayout", apart := false, narrowed := true }
def FnExactSplitLayoutUptoSaid : Prop := fnExactSplitLayoutUptoRow.holds Try.pinned (OpenSpec.upto fnExactSplitLayoutSpec)

end Rows
end Go.Proofs.Ytlcllpgbpjdofaa
