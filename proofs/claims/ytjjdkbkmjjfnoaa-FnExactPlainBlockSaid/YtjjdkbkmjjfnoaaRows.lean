/-
  No cell of these rows narrows 'for every input' (looked for: loops, veiled, ifaces, maps, wideKeys, modest, calm, conditions, laid).
  DERIVED. THE GIVEN ROWS OF THIS SEAT. 19 by the template 'for every input the law returns true; each argument reads behind the call as it read before'; 0 by the template 'total and deterministic' (their statements: YtjjdkbkmjjfnoaaTotals.lean).
  GIVEN WITH THE SEED: the statements are not yours to turn. If you find one false, say at which input.
  Laid BY PROGRAM, IN A SANDBOX (cutbox-rows.mjs): the forced cells as the released guide's own fill.sh prints them over the translation dc626a43a48657ea… (all of the seat's roots in one cut). By AI agents, Wed Nov 11 2026. No macro, syntax, notation, axiom, sorry.
-/
import Derived.Test.YtjjdkbkmjjfnoaaChecked
import GoSem.Claim
import GoSem.ClaimJoined
import GoSem.ClaimMapViews
import Derived.JoinedTies
import Derived.KernelRfl
namespace Go.Proofs.Ytjjdkbkmjjfnoaa
/- THE CELL 'sum', in the pinned program and in every row, IS THE sha256 OF THE DUMP (.gsa) THAT YtjjdkbkmjjfnoaaProg.lean LOADS. Nothing in Lean hashes anything: it is a label: what it is worth is what the hold of that sum in a sandbox is worth. -/
noncomputable def Try.pinned : Pinned := { name := "ytjjdkbkmjjfnoaa", sum := "dc626a43a48657ead1b33b086a81639ff1267af498aae97a53b4117e1d89a12c", checked := Try.checked }
namespace Rows
def none {H : Type} : Left H := { results := [], args := [] }

/-- 'laws.FnExactSameBlock': WHATEVER THE INPUT: true; the input reads as it did. -/
def fnExactSameBlockSpec : ChangeSpec := { name := "fnExactSameBlock", fn := fun _ => fun
  | [d1, d2] => { results := [.lit (.bool true)], args := [d1, d2] }
  | _ => none }
def fnExactSameBlockRow : OpenClaim := { program := "ytjjdkbkmjjfnoaa", sum := "dc626a43a48657ead1b33b086a81639ff1267af498aae97a53b4117e1d89a12c", func := "loop.example/g03304/laws.FnExactSameBlock", spec := "fnExactSameBlock", apart := false }
def FnExactSameBlockSaid : Prop := fnExactSameBlockRow.holds Try.pinned (OpenSpec.ofChange fnExactSameBlockSpec)

/-- ITS FALSE NEIGHBOUR: 'it returns false'. Refute it at one input. -/
def fnExactSameBlockWrong : ChangeSpec := { name := "fnExactSameBlock", fn := fun _ => fun
  | [d1, d2] => { results := [.lit (.bool false)], args := [d1, d2] }
  | _ => none }
def FnExactSameBlockWrongFalsely : Prop := fnExactSameBlockRow.holds Try.pinned (OpenSpec.ofChange fnExactSameBlockWrong)

/-- 'laws.FnExactBlockOk': WHATEVER THE INPUT: true; the input reads as it did. -/
def fnExactBlockOkSpec : ChangeSpec := { name := "fnExactBlockOk", fn := fun _ => fun
  | [d] => { results := [.lit (.bool true)], args := [d] }
  | _ => none }
def fnExactBlockOkRow : OpenClaim := { program := "ytjjdkbkmjjfnoaa", sum := "dc626a43a48657ead1b33b086a81639ff1267af498aae97a53b4117e1d89a12c", func := "loop.example/g03304/laws.FnExactBlockOk", spec := "fnExactBlockOk", apart := false }
def FnExactBlockOkSaid : Prop := fnExactBlockOkRow.holds Try.pinned (OpenSpec.ofChange fnExactBlockOkSpec)

/-- ITS FALSE NEIGHBOUR: 'it returns false'. Refute it at one input. -/
def fnExactBlockOkWrong : ChangeSpec := { name := "fnExactBlockOk", fn := fun _ => fun
  | [d] => { results := [.lit (.bool false)], args := [d] }
  | _ => none }
def FnExactBlockOkWrongFalsely : Prop := fnExactBlockOkRow.holds Try.pinned (OpenSpec.ofChange fnExactBlockOkWrong)

/-- 'laws.FnExactCellAt': WHATEVER THE INPUT: true; the input reads as it did. -/
def fnExactCellAtSpec : ChangeSpec := { name := "fnExactCellAt", fn := fun _ => fun
  | [d1, d2, d3] => { results := [.lit (.bool true)], args := [d1, d2, d3] }
  | _ => none }
def fnExactCellAtRow : OpenClaim := { program := "ytjjdkbkmjjfnoaa", sum := "dc626a43a48657ead1b33b086a81639ff1267af498aae97a53b4117e1d89a12c", func := "loop.example/g03304/laws.FnExactCellAt", spec := "fnExactCellAt", apart := false }
def FnExactCellAtSaid : Prop := fnExactCellAtRow.holds Try.pinned (OpenSpec.ofChange fnExactCellAtSpec)

/-- ITS FALSE NEIGHBOUR: 'it returns false'. Refute it at one input. -/
def fnExactCellAtWrong : ChangeSpec := { name := "fnExactCellAt", fn := fun _ => fun
  | [d1, d2, d3] => { results := [.lit (.bool false)], args := [d1, d2, d3] }
  | _ => none }
def FnExactCellAtWrongFalsely : Prop := fnExactCellAtRow.holds Try.pinned (OpenSpec.ofChange fnExactCellAtWrong)

/-- 'laws.FnExactPlainBlock': WHATEVER THE INPUT: true; the input reads as it did. -/
def fnExactPlainBlockSpec : ChangeSpec := { name := "fnExactPlainBlock", fn := fun _ => fun
  | [d1, d2] => { results := [.lit (.bool true)], args := [d1, d2] }
  | _ => none }
def fnExactPlainBlockRow : OpenClaim := { program := "ytjjdkbkmjjfnoaa", sum := "dc626a43a48657ead1b33b086a81639ff1267af498aae97a53b4117e1d89a12c", func := "loop.example/g03304/laws.FnExactPlainBlock", spec := "fnExactPlainBlock", unfollowed := true, recurses := true, apart := false }
def FnExactPlainBlockSaid : Prop := fnExactPlainBlockRow.holds Try.pinned (OpenSpec.ofChange fnExactPlainBlockSpec)

/-- ITS FALSE NEIGHBOUR: 'it returns false'. Refute it at one input. -/
def fnExactPlainBlockWrong : ChangeSpec := { name := "fnExactPlainBlock", fn := fun _ => fun
  | [d1, d2] => { results := [.lit (.bool false)], args := [d1, d2] }
  | _ => none }
def FnExactPlainBlockWrongFalsely : Prop := fnExactPlainBlockRow.holds Try.pinned (OpenSpec.ofChange fnExactPlainBlockWrong)

/-- 'laws.FnExactStarBlock': WHATEVER THE INPUT: true; the input reads as it did. -/
def fnExactStarBlockSpec : ChangeSpec := { name := "fnExactStarBlock", fn := fun _ => fun
  | [] => { results := [.lit (.bool true)], args := [] }
  | _ => none }
def fnExactStarBlockRow : OpenClaim := { program := "ytjjdkbkmjjfnoaa", sum := "dc626a43a48657ead1b33b086a81639ff1267af498aae97a53b4117e1d89a12c", func := "loop.example/g03304/laws.FnExactStarBlock", spec := "fnExactStarBlock", apart := false }
def FnExactStarBlockSaid : Prop := fnExactStarBlockRow.holds Try.pinned (OpenSpec.ofChange fnExactStarBlockSpec)

/-- ITS FALSE NEIGHBOUR: 'it returns false'. Refute it at one input. -/
def fnExactStarBlockWrong : ChangeSpec := { name := "fnExactStarBlock", fn := fun _ => fun
  | [] => { results := [.lit (.bool false)], args := [] }
  | _ => none }
def FnExactStarBlockWrongFalsely : Prop := fnExactStarBlockRow.holds Try.pinned (OpenSpec.ofChange fnExactStarBlockWrong)

/-- 'laws.FnExactCountTriangles': WHATEVER THE INPUT: true; the input reads as it did. -/
def fnExactCountTrianglesSpec : ChangeSpec := { name := "fnExactCountTriangles", fn := fun _ => fun
  | [d] => { results := [.lit (.bool true)], args := [d] }
  | _ => none }
def fnExactCountTrianglesRow : OpenClaim := { program := "ytjjdkbkmjjfnoaa", sum := "dc626a43a48657ead1b33b086a81639ff1267af498aae97a53b4117e1d89a12c", func := "loop.example/g03304/laws.FnExactCountTriangles", spec := "fnExactCountTriangles", apart := false }
def FnExactCountTrianglesSaid : Prop := fnExactCountTrianglesRow.holds Try.pinned (OpenSpec.ofChange fnExactCountTrianglesSpec)

/-- ITS FALSE NEIGHBOUR: 'it returns false'. Refute it at one input. -/
def fnExactCountTrianglesWrong : ChangeSpec := { name := "fnExactCountTriangles", fn := fun _ => fun
  | [d] => { results := [.lit (.bool false)], args := [d] }
  | _ => none }
def FnExactCountTrianglesWrongFalsely : Prop := fnExactCountTrianglesRow.holds Try.pinned (OpenSpec.ofChange fnExactCountTrianglesWrong)

/-- 'laws.FnExactAreaOf': WHATEVER THE INPUT: true; the input reads as it did. -/
def fnExactAreaOfSpec : ChangeSpec := { name := "fnExactAreaOf", fn := fun _ => fun
  | [d1, d2] => { results := [.lit (.bool true)], args := [d1, d2] }
  | _ => none }
def fnExactAreaOfRow : OpenClaim := { program := "ytjjdkbkmjjfnoaa", sum := "dc626a43a48657ead1b33b086a81639ff1267af498aae97a53b4117e1d89a12c", func := "loop.example/g03304/laws.FnExactAreaOf", spec := "fnExactAreaOf", apart := false }
def FnExactAreaOfSaid : Prop := fnExactAreaOfRow.holds Try.pinned (OpenSpec.ofChange fnExactAreaOfSpec)

/-- ITS FALSE NEIGHBOUR: 'it returns false'. Refute it at one input. -/
def fnExactAreaOfWrong : ChangeSpec := { name := "fnExactAreaOf", fn := fun _ => fun
  | [d1, d2] => { results := [.lit (.bool false)], args := [d1, d2] }
  | _ => none }
def FnExactAreaOfWrongFalsely : Prop := fnExactAreaOfRow.holds Try.pinned (OpenSpec.ofChange fnExactAreaOfWrong)

/-- 'laws.FnExactAreaTable': WHATEVER THE INPUT: true; the input reads as it did. -/
def fnExactAreaTableSpec : ChangeSpec := { name := "fnExactAreaTable", fn := fun _ => fun
  | [d] => { results := [.lit (.bool true)], args := [d] }
  | _ => none }
def fnExactAreaTableRow : OpenClaim := { program := "ytjjdkbkmjjfnoaa", sum := "dc626a43a48657ead1b33b086a81639ff1267af498aae97a53b4117e1d89a12c", func := "loop.example/g03304/laws.FnExactAreaTable", spec := "fnExactAreaTable", apart := false }
def FnExactAreaTableSaid : Prop := fnExactAreaTableRow.holds Try.pinned (OpenSpec.ofChange fnExactAreaTableSpec)

/-- ITS FALSE NEIGHBOUR: 'it returns false'. Refute it at one input. -/
def fnExactAreaTableWrong : ChangeSpec := { name := "fnExactAreaTable", fn := fun _ => fun
  | [d] => { results := [.lit (.bool false)], args := [d] }
  | _ => none }
def FnExactAreaTableWrongFalsely : Prop := fnExactAreaTableRow.holds Try.pinned (OpenSpec.ofChange fnExactAreaTableWrong)

/-- 'laws.FnExactMainColor': WHATEVER THE INPUT: true; the input reads as it did. -/
def fnExactMainColorSpec : ChangeSpec := { name := "fnExactMainColor", fn := fun _ => fun
  | [d] => { results := [.lit (.bool true)], args := [d] }
  | _ => none }
def fnExactMainColorRow : OpenClaim := { program := "ytjjdkbkmjjfnoaa", sum := "dc626a43a48657ead1b33b086a81639ff1267af498aae97a53b4117e1d89a12c", func := "loop.example/g03304/laws.FnExactMainColor", spec := "fnExactMainColor", apart := false }
def FnExactMainColorSaid : Prop := fnExactMainColorRow.holds Try.pinned (OpenSpec.ofChange fnExactMainColorSpec)

/-- ITS FALSE NEIGHBOUR: 'it returns false'. Refute it at one input. -/
def fnExactMainColorWrong : ChangeSpec := { name := "fnExactMainColor", fn := fun _ => fun
  | [d] => { results := [.lit (.bool false)], args := [d] }
  | _ => none }
def FnExactMainColorWrongFalsely : Prop := fnExactMainColorRow.holds Try.pinned (OpenSpec.ofChange fnExactMainColorWrong)

/-- 'laws.FnExactColorsOf': WHATEVER THE INPUT: true; the input reads as it did. -/
def fnExactColorsOfSpec : ChangeSpec := { name := "fnExactColorsOf", fn := fun _ => fun
  | [d] => { results := [.lit (.bool true)], args := [d] }
  | _ => none }
def fnExactColorsOfRow : OpenClaim := { program := "ytjjdkbkmjjfnoaa", sum := "dc626a43a48657ead1b33b086a81639ff1267af498aae97a53b4117e1d89a12c", func := "loop.example/g03304/laws.FnExactColorsOf", spec := "fnExactColorsOf", apart := false }
def FnExactColorsOfSaid : Prop := fnExactColorsOfRow.holds Try.pinned (OpenSpec.ofChange fnExactColorsOfSpec)

/-- ITS FALSE NEIGHBOUR: 'it returns false'. Refute it at one input. -/
def fnExactColorsOfWrong : ChangeSpec := { name := "fnExactColorsOf", fn := fun _ => fun
  | [d] => { results := [.lit (.bool false)], args := [d] }
  | _ => none }
def FnExactColorsOfWrongFalsely : Prop := fnExactColorsOfRow.holds Try.pinned (OpenSpec.ofChange fnExactColorsOfWrong)

/-- 'laws.FnExactIsBalanced': WHATEVER THE INPUT: true; the input reads as it did. -/
def fnExactIsBalancedSpec : ChangeSpec := { name := "fnExactIsBalanced", fn := fun _ => fun
  | [d] => { results := [.lit (.bool true)], args := [d] }
  | _ => none }
def fnExactIsBalancedRow : OpenClaim := { program := "ytjjdkbkmjjfnoaa", sum := "dc626a43a48657ead1b33b086a81639ff1267af498aae97a53b4117e1d89a12c", func := "loop.example/g03304/laws.FnExactIsBalanced", spec := "fnExactIsBalanced", apart := false }
def FnExactIsBalancedSaid : Prop := fnExactIsBalancedRow.holds Try.pinned (OpenSpec.ofChange fnExactIsBalancedSpec)

/-- ITS FALSE NEIGHBOUR: 'it returns false'. Refute it at one input. -/
def fnExactIsBalancedWrong : ChangeSpec := { name := "fnExactIsBalanced", fn := fun _ => fun
  | [d] => { results := [.lit (.bool false)], args := [d] }
  | _ => none }
def FnExactIsBalancedWrongFalsely : Prop := fnExactIsBalancedRow.holds Try.pinned (OpenSpec.ofChange fnExactIsBalancedWrong)

/-- 'laws.FnExactMirrorBlock': WHATEVER THE INPUT: true; the input reads as it did. -/
def fnExactMirrorBlockSpec : ChangeSpec := { name := "fnExactMirrorBlock", fn := fun _ => fun
  | [d] => { results := [.lit (.bool true)], args := [d] }
  | _ => none }
def fnExactMirrorBlockRow : OpenClaim := { program := "ytjjdkbkmjjfnoaa", sum := "dc626a43a48657ead1b33b086a81639ff1267af498aae97a53b4117e1d89a12c", func := "loop.example/g03304/laws.FnExactMirrorBlock", spec := "fnExactMirrorBlock", unfollowed := true, recurses := true, apart := false }
def FnExactMirrorBlockSaid : Prop := fnExactMirrorBlockRow.holds Try.pinned (OpenSpec.ofChange fnExactMirrorBlockSpec)

/-- ITS FALSE NEIGHBOUR: 'it returns false'. Refute it at one input. -/
def fnExactMirrorBlockWrong : ChangeSpec := { name := "fnExactMirrorBlock", fn := fun _ => fun
  | [d] => { results := [.lit (.bool false)], args := [d] }
  | _ => none }
def FnExactMirrorBlockWrongFalsely : Prop := fnExactMirrorBlockRow.holds Try.pinned (OpenSpec.ofChange fnExactMirrorBlockWrong)

/-- 'laws.FnExactTurnBlock': WHATEVER THE INPUT: true; the input reads as it did. -/
def fnExactTurnBlockSpec : ChangeSpec := { name := "fnExactTurnBlock", fn := fun _ => fun
  | [d] => { results := [.lit (.bool true)], args := [d] }
  | _ => none }
def fnExactTurnBlockRow : OpenClaim := { program := "ytjjdkbkmjjfnoaa", sum := "dc626a43a48657ead1b33b086a81639ff1267af498aae97a53b4117e1d89a12c", func := "loop.example/g03304/laws.FnExactTurnBlock", spec := "fnExactTurnBlock", unfollowed := true, recurses := true, apart := false }
def FnExactTurnBlockSaid : Prop := fnExactTurnBlockRow.holds Try.pinned (OpenSpec.ofChange fnExactTurnBlockSpec)

/-- ITS FALSE NEIGHBOUR: 'it returns false'. Refute it at one input. -/
def fnExactTurnBlockWrong : ChangeSpec := { name := "fnExactTurnBlock", fn := fun _ => fun
  | [d] => { results := [.lit (.bool false)], args := [d] }
  | _ => none }
def FnExactTurnBlockWrongFalsely : Prop := fnExactTurnBlockRow.holds Try.pinned (OpenSpec.ofChange fnExactTurnBlockWrong)

/-- 'laws.FnAreas': WHATEVER THE INPUT: true; the input reads as it did. -/
def fnAreasSpec : ChangeSpec := { name := "fnAreas", fn := fun _ => fun
  | [d] => { results := [.lit (.bool true)], args := [d] }
  | _ => none }
def fnAreasRow : OpenClaim := { program := "ytjjdkbkmjjfnoaa", sum := "dc626a43a48657ead1b33b086a81639ff1267af498aae97a53b4117e1d89a12c", func := "loop.example/g03304/laws.FnAreas", spec := "fnAreas", apart := false }
def FnAreasSaid : Prop := fnAreasRow.holds Try.pinned (OpenSpec.ofChange fnAreasSpec)

/-- ITS FALSE NEIGHBOUR: 'it returns false'. Refute it at one input. -/
def fnAreasWrong : ChangeSpec := { name := "fnAreas", fn := fun _ => fun
  | [d] => { results := [.lit (.bool false)], args := [d] }
  | _ => none }
def FnAreasWrongFalsely : Prop := fnAreasRow.holds Try.pinned (OpenSpec.ofChange fnAreasWrong)

/-- 'laws.FnExactFirstUse': WHATEVER THE INPUT: true; the input reads as it did. -/
def fnExactFirstUseSpec : ChangeSpec := { name := "fnExactFirstUse", fn := fun _ => fun
  | [d] => { results := [.lit (.bool true)], args := [d] }
  | _ => none }
def fnExactFirstUseRow : OpenClaim := { program := "ytjjdkbkmjjfnoaa", sum := "dc626a43a48657ead1b33b086a81639ff1267af498aae97a53b4117e1d89a12c", func := "loop.example/g03304/laws.FnExactFirstUse", spec := "fnExactFirstUse", apart := false }
def FnExactFirstUseSaid : Prop := fnExactFirstUseRow.holds Try.pinned (OpenSpec.ofChange fnExactFirstUseSpec)

/-- ITS FALSE NEIGHBOUR: 'it returns false'. Refute it at one input. -/
def fnExactFirstUseWrong : ChangeSpec := { name := "fnExactFirstUse", fn := fun _ => fun
  | [d] => { results := [.lit (.bool false)], args := [d] }
  | _ => none }
def FnExactFirstUseWrongFalsely : Prop := fnExactFirstUseRow.holds Try.pinned (OpenSpec.ofChange fnExactFirstUseWrong)

/-- 'laws.FnExactUndoList': WHATEVER THE INPUT: true; the input reads as it did. -/
def fnExactUndoListSpec : ChangeSpec := { name := "fnExactUndoList", fn := fun _ => fun
  | [d] => { results := [.lit (.bool true)], args := [d] }
  | _ => none }
def fnExactUndoListRow : OpenClaim := { program := "ytjjdkbkmjjfnoaa", sum := "dc626a43a48657ead1b33b086a81639ff1267af498aae97a53b4117e1d89a12c", func := "loop.example/g03304/laws.FnExactUndoList", spec := "fnExactUndoList", apart := false }
def FnExactUndoListSaid : Prop := fnExactUndoListRow.holds Try.pinned (OpenSpec.ofChange fnExactUndoListSpec)

/-- ITS FALSE NEIGHBOUR: 'it returns false'. Refute it at one input. -/
def fnExactUndoListWrong : ChangeSpec := { name := "fnExactUndoList", fn := fun _ => fun
  | [d] => { results := [.lit (.bool false)], args := [d] }
  | _ => none }
def FnExactUndoListWrongFalsely : Prop := fnExactUndoListRow.holds Try.pinned (OpenSpec.ofChange fnExactUndoListWrong)

/-- 'laws.FnExactIsExchange': WHATEVER THE INPUT: true; the input reads as it did. -/
def fnExactIsExchangeSpec : ChangeSpec := { name := "fnExactIsExchange", fn := fun _ => fun
  | [d] => { results := [.lit (.bool true)], args := [d] }
  | _ => none }
def fnExactIsExchangeRow : OpenClaim := { program := "ytjjdkbkmjjfnoaa", sum := "dc626a43a48657ead1b33b086a81639ff1267af498aae97a53b4117e1d89a12c", func := "loop.example/g03304/laws.FnExactIsExchange", spec := "fnExactIsExchange", apart := false }
def FnExactIsExchangeSaid : Prop := fnExactIsExchangeRow.holds Try.pinned (OpenSpec.ofChange fnExactIsExchangeSpec)

/-- ITS FALSE NEIGHBOUR: 'it returns false'. Refute it at one input. -/
def fnExactIsExchangeWrong : ChangeSpec := { name := "fnExactIsExchange", fn := fun _ => fun
  | [d] => { results := [.lit (.bool false)], args := [d] }
  | _ => none }
def FnExactIsExchangeWrongFalsely : Prop := fnExactIsExchangeRow.holds Try.pinned (OpenSpec.ofChange fnExactIsExchangeWrong)

/-- 'laws.FnExactSwapList': WHATEVER THE INPUT: true; the input reads as it did. -/
def fnExactSwapListSpec : ChangeSpec := { name := "fnExactSwapList", fn := fun _ => fun
  | [d1, d2] => { results := [.lit (.bool true)], args := [d1, d2] }
  | _ => none }
def fnExactSwapListRow : OpenClaim := { program := "ytjjdkbkmjjfnoaa", sum := "dc626a43a48657ead1b33b086a81639ff1267af498aae97a53b4117e1d89a12c", func := "loop.example/g03304/laws.FnExactSwapList", spec := "fnExactSwapList", apart := false }
def FnExactSwapListSaid : Prop := fnExactSwapListRow.holds Try.pinned (OpenSpec.ofChange fnExactSwapListSpec)

/-- ITS FALSE NEIGHBOUR: 'it returns false'. Refute it at one input. -/
def fnExactSwapListWrong : ChangeSpec := { name := "fnExactSwapList", fn := fun _ => fun
  | [d1, d2] => { results := [.lit (.bool false)], args := [d1, d2] }
  | _ => none }
def FnExactSwapListWrongFalsely : Prop := fnExactSwapListRow.holds Try.pinned (OpenSpec.ofChange fnExactSwapListWrong)

/-- 'laws.FnExactExchangeCell': WHATEVER THE INPUT: true; the input reads as it did. -/
def fnExactExchangeCellSpec : ChangeSpec := { name := "fnExactExchangeCell", fn := fun _ => fun
  | [d1, d2] => { results := [.lit (.bool true)], args := [d1, d2] }
  | _ => none }
def fnExactExchangeCellRow : OpenClaim := { program := "ytjjdkbkmjjfnoaa", sum := "dc626a43a48657ead1b33b086a81639ff1267af498aae97a53b4117e1d89a12c", func := "loop.example/g03304/laws.FnExactExchangeCell", spec := "fnExactExchangeCell", apart := false }
def FnExactExchangeCellSaid : Prop := fnExactExchangeCellRow.holds Try.pinned (OpenSpec.ofChange fnExactExchangeCellSpec)

/-- ITS FALSE NEIGHBOUR: 'it returns false'. Refute it at one input. -/
def fnExactExchangeCellWrong : ChangeSpec := { name := "fnExactExchangeCell", fn := fun _ => fun
  | [d1, d2] => { results := [.lit (.bool false)], args := [d1, d2] }
  | _ => none }
def FnExactExchangeCellWrongFalsely : Prop := fnExactExchangeCellRow.holds Try.pinned (OpenSpec.ofChange fnExactExchangeCellWrong)

/- THE SECOND FORM. 'bulk': how many values and letters a reading holds, each counted each time it is reached (what is shared counts as often as it is met; a slice's spare places count too). A statement '..UptoSaid' is the law's where the arguments, and the package variables that the reading takes, are together of bulk at most 1048576: NARROWER than '..Said'. Prove '..Said' where nothing that the law and all that it calls make is longer than what came in: it says more and counts as full. Else prove '..UptoSaid'. A law counts once. -/
mutual
def uptoBulk {H : Type} : DataW H → Nat
  | .lit (.string bytes) => bytes.length + 1
  | .lit _ => 1
  | .nil => 1
  | .ptr d => uptoBulk d + 1
  | .slice elems spare => uptoBulkAll elems + uptoBulkAll spare + 1
  | .agg parts => uptoBulkAll parts + 1
  | .iface _ d => uptoBulk d + 1
  | .map entries => uptoBulkEntries entries + 1
  | .held _ => 1
def uptoBulkAll {H : Type} : List (DataW H) → Nat
  | [] => 0
  | d :: r => uptoBulk d + uptoBulkAll r
def uptoBulkEntries {H : Type} : List (Lit × DataW H) → Nat
  | [] => 0
  | x :: r => uptoBulkEntry x + uptoBulkEntries r
def uptoBulkEntry {H : Type} : Lit × DataW H → Nat
  | (.string bytes, d) => bytes.length + uptoBulk d + 1
  | (_, d) => uptoBulk d + 1
 end
def uptoSmall : (H : Type) → List (DataW H) → Bool := fun _ ds => decide (uptoBulkAll ds ≤ 1048576)
def OpenSpec.upto (s : _root_.Go.ChangeSpec) : _root_.Go.OpenSpec := { _root_.Go.OpenSpec.ofChange s with cond := some uptoSmall }

/-- 'laws.FnExactSameBlock', WHERE WHAT IT READS IS OF BULK AT MOST 1048576: true; the input reads as it did. -/
def fnExactSameBlockUptoRow : OpenClaim := { program := "ytjjdkbkmjjfnoaa", sum := "dc626a43a48657ead1b33b086a81639ff1267af498aae97a53b4117e1d89a12c", func := "loop.example/g03304/laws.FnExactSameBlock", spec := "fnExactSameBlock", apart := false, narrowed := true }
def FnExactSameBlockUptoSaid : Prop := fnExactSameBlockUptoRow.holds Try.pinned (OpenSpec.upto fnExactSameBlockSpec)

/-- 'laws.FnExactBlockOk', WHERE WHAT IT READS IS OF BULK AT MOST 1048576: true; the input reads as it did. -/
def fnExactBlockOkUptoRow : OpenClaim := { program := "ytjjdkbkmjjfnoaa", sum := "dc626a43a48657ead1b33b086a81639ff1267af498aae97a53b4117e1d89a12c", func := "loop.example/g03304/laws.FnExactBlockOk", spec := "fnExactBlockOk", apart := false, narrowed := true }
def FnExactBlockOkUptoSaid : Prop := fnExactBlockOkUptoRow.holds Try.pinned (OpenSpec.upto fnExactBlockOkSpec)

/-- 'laws.FnExactCellAt', WHERE WHAT IT READS IS OF BULK AT MOST 1048576: true; the input reads as it did. -/
def fnExactCellAtUptoRow : OpenClaim := { program := "ytjjdkbkmjjfnoaa", sum := "dc626a43a48657ead1b33b086a81639ff1267af498aae97a53b4117e1d89a12c", func := "loop.example/g03304/laws.FnExactCellAt", spec := "fnExactCellAt", apart := false, narrowed := true }
def FnExactCellAtUptoSaid : Prop := fnExactCellAtUptoRow.holds Try.pinned (OpenSpec.upto fnExactCellAtSpec)

/-- 'laws.FnExactPlainBlock', WHERE WHAT IT READS IS OF BULK AT MOST 1048576: true; the input reads as it did. -/
def fnExactPlainBlockUptoRow : OpenClaim := { program := "ytjjdkbkmjjfnoaa", sum := "dc626a43a48657ead1b33b086a81639ff1267af498aae97a53b4117e1d89a12c", func := "loop.example/g03304/laws.FnExactPlainBlock", spec := "fnExactPlainBlock", unfollowed := true, recurses := true, apart := false, narrowed := true }
def FnExactPlainBlockUptoSaid : Prop := fnExactPlainBlockUptoRow.holds Try.pinned (OpenSpec.upto fnExactPlainBlockSpec)

/-- 'laws.FnExactStarBlock', WHERE WHAT IT READS IS OF BULK AT MOST 1048576: true; the input reads as it did. -/
def fnExactStarBlockUptoRow : OpenClaim := { program := "ytjjdkbkmjjfnoaa", sum := "dc626a43a48657ead1b33b086a81639ff1267af498aae97a53b4117e1d89a12c", func := "loop.example/g03304/laws.FnExactStarBlock", spec := "fnExactStarBlock", apart := false, narrowed := true }
def FnExactStarBlockUptoSaid : Prop := fnExactStarBlockUptoRow.holds Try.pinned (OpenSpec.upto fnExactStarBlockSpec)

/-- 'laws.FnExactCountTriangles', WHERE WHAT IT READS IS OF BULK AT MOST 1048576: true; the input reads as it did. -/
def fnExactCountTrianglesUptoRow : OpenClaim := { program := "ytjjdkbkmjjfnoaa", sum := "dc626a43a48657ead1b33b086a81639ff1267af498aae97a53b4117e1d89a12c", func := "loop.example/g03304/laws.FnExactCountTriangles", spec := "fnExactCountTriangles", apart := false, narrowed := true }
def FnExactCountTrianglesUptoSaid : Prop := fnExactCountTrianglesUptoRow.holds Try.pinned (OpenSpec.upto fnExactCountTrianglesSpec)

/-- 'laws.FnExactAreaOf', WHERE WHAT IT READS IS OF BULK AT MOST 1048576: true; the input reads as it did. -/
def fnExactAreaOfUptoRow : OpenClaim := { program := "ytjjdkbkmjjfnoaa", sum := "dc626a43a48657ead1b33b086a81639ff1267af498aae97a53b4117e1d89a12c", func := "loop.example/g03304/laws.FnExactAreaOf", spec := "fnExactAreaOf", apart := false, narrowed := true }
def FnExactAreaOfUptoSaid : Prop := fnExactAreaOfUptoRow.holds Try.pinned (OpenSpec.upto fnExactAreaOfSpec)

/-- 'laws.FnExactAreaTable', WHERE WHAT IT READS IS OF BULK AT MOST 1048576: true; the input reads as it did. -/
def fnExactAreaTableUptoRow : OpenClaim := { program := "ytjjdkbkmjjfnoaa", sum := "dc626a43a48657ead1b33b086a81639ff1267af498aae97a53b4117e1d89a12c", func := "loop.example/g03304/laws.FnExactAreaTable", spec := "fnExactAreaTable", apart := false, narrowed := true }
def FnExactAreaTableUptoSaid : Prop := fnExactAreaTableUptoRow.holds Try.pinned (OpenSpec.upto fnExactAreaTableSpec)

/-- 'laws.FnExactMainColor', WHERE WHAT IT READS IS OF BULK AT MOST 1048576: true; the input reads as it did. -/
def fnExactMainColorUptoRow : OpenClaim := { program := "ytjjdkbkmjjfnoaa", sum := "dc626a43a48657ead1b33b086a81639ff1267af498aae97a53b4117e1d89a12c", func := "loop.example/g03304/laws.FnExactMainColor", spec := "fnExactMainColor", apart := false, narrowed := true }
def FnExactMainColorUptoSaid : Prop := fnExactMainColorUptoRow.holds Try.pinned (OpenSpec.upto fnExactMainColorSpec)

/-- 'laws.FnExactColorsOf', WHERE WHAT IT READS IS OF BULK AT MOST 1048576: true; the input reads as it did. -/
def fnExactColorsOfUptoRow : OpenClaim := { program := "ytjjdkbkmjjfnoaa", sum := "dc626a43a48657ead1b33b086a81639ff1267af498aae97a53b4117e1d89a12c", func := "loop.example/g03304/laws.FnExactColorsOf", spec := "fnExactColorsOf", apart := false, narrowed := true }
def FnExactColorsOfUptoSaid : Prop := fnExactColorsOfUptoRow.holds Try.pinned (OpenSpec.upto fnExactColorsOfSpec)

/-- 'laws.FnExactIsBalanced', WHERE WHAT IT READS IS OF BULK AT MOST 1048576: true; the input reads as it did. -/
def fnExactIsBalancedUptoRow : OpenClaim := { program := "ytjjdkbkmjjfnoaa", sum := "dc626a43a48657ead1b33b086a81639ff1267af498aae97a53b4117e1d89a12c", func := "loop.example/g03304/laws.FnExactIsBalanced", spec := "fnExactIsBalanced", apart := false, narrowed := true }
def FnExactIsBalancedUptoSaid : Prop := fnExactIsBalancedUptoRow.holds Try.pinned (OpenSpec.upto fnExactIsBalancedSpec)

/-- 'laws.FnExactMirrorBlock', WHERE WHAT IT READS IS OF BULK AT MOST 1048576: true; the input reads as it did. -/
def fnExactMirrorBlockUptoRow : OpenClaim := { program := "ytjjdkbkmjjfnoaa", sum := "dc626a43a48657ead1b33b086a81639ff1267af498aae97a53b4117e1d89a12c", func := "loop.example/g03304/laws.FnExactMirrorBlock", spec := "fnExactMirrorBlock", unfollowed := true, recurses := true, apart := false, narrowed := true }
def FnExactMirrorBlockUptoSaid : Prop := fnExactMirrorBlockUptoRow.holds Try.pinned (OpenSpec.upto fnExactMirrorBlockSpec)

/-- 'laws.FnExactTurnBlock', WHERE WHAT IT READS IS OF BULK AT MOST 1048576: true; the input reads as it did. -/
def fnExactTurnBlockUptoRow : OpenClaim := { program := "ytjjdkbkmjjfnoaa", sum := "dc626a43a48657ead1b33b086a81639ff1267af498aae97a53b4117e1d89a12c", func := "loop.example/g03304/laws.FnExactTurnBlock", spec := "fnExactTurnBlock", unfollowed := true, recurses := true, apart := false, narrowed := true }
def FnExactTurnBlockUptoSaid : Prop := fnExactTurnBlockUptoRow.holds Try.pinned (OpenSpec.upto fnExactTurnBlockSpec)

/-- 'laws.FnAreas', WHERE WHAT IT READS IS OF BULK AT MOST 1048576: true; the input reads as it did. -/
def fnAreasUptoRow : OpenClaim := { program := "ytjjdkbkmjjfnoaa", sum := "dc626a43a48657ead1b33b086a81639ff1267af498aae97a53b4117e1d89a12c", func := "loop.example/g03304/laws.FnAreas", spec := "fnAreas", apart := false, narrowed := true }
def FnAreasUptoSaid : Prop := fnAreasUptoRow.holds Try.pinned (OpenSpec.upto fnAreasSpec)

/-- 'laws.FnExactFirstUse', WHERE WHAT IT READS IS OF BULK AT MOST 1048576: true; the input reads as it did. -/
def fnExactFirstUseUptoRow : OpenClaim := { program := "ytjjdkbkmjjfnoaa", sum := "dc626a43a48657ead1b33b086a81639ff1267af498aae97a53b4117e1d89a12c", func := "loop.example/g03304/laws.FnExactFirstUse", spec := "fnExactFirstUse", apart := false, narrowed := true }
def FnExactFirstUseUptoSaid : Prop := fnExactFirstUseUptoRow.holds Try.pinned (OpenSpec.upto fnExactFirstUseSpec)

/-- 'laws.FnExactUndoList', WHERE WHAT IT READS IS OF BULK AT MOST 1048576: true; the input reads as it did. -/
def fnExactUndoListUptoRow : OpenClaim := { program := "ytjjdkbkmjjfnoaa", sum := "dc626a43a48657ead1b33b086a81639ff1267af498aae97a53b4117e1d89a12c", func := "loop.example/g03304/laws.FnExactUndoList", spec := "fnExactUndoList", apart := false, narrowed := true }
def FnExactUndoListUptoSaid : Prop := fnExactUndoListUptoRow.holds Try.pinned (OpenSpec.upto fnExactUndoListSpec)

/-- 'laws.FnExactIsExchange', WHERE WHAT IT READS IS OF BULK AT MOST 1048576: true; the input reads as it did. -/
def fnExactIsExchangeUptoRow : OpenClaim := { program := "ytjjdkbkmjjfnoaa", sum := "dc626a43a48657ead1b33b086a81639ff1267af498aae97a53b4117e1d89a12c", func := "loop.example/g03304/laws.FnExactIsExchange", spec := "fnExactIsExchange", apart := false, narrowed := true }
def FnExactIsExchangeUptoSaid : Prop := fnExactIsExchangeUptoRow.holds Try.pinned (OpenSpec.upto fnExactIsExchangeSpec)

/-- 'laws.FnExactSwapList', WHERE WHAT IT READS IS OF BULK AT MOST 1048576: true; the input reads as it did. -/
def fnExactSwapListUptoRow : OpenClaim := { program := "ytjjdkbkmjjfnoaa", sum := "dc626a43a48657ead1b33b086a81639ff1267af498aae97a53b4117e1d89a12c", func := "loop.example/g03304/laws.FnExactSwapList", spec := "fnExactSwapList", apart := false, narrowed := true }
def FnExactSwapListUptoSaid : Prop := fnExactSwapListUptoRow.holds Try.pinned (OpenSpec.upto fnExactSwapListSpec)

/-- 'laws.FnExactExchangeCell', WHERE WHAT IT READS IS OF BULK AT MOST 1048576: true; the input reads as it did. -/
def fnExactExchangeCellUptoRow : OpenClaim := { program := "ytjjdkbkmjjfnoaa", sum := "dc626a43a48657ead1b33b086a81639ff1267af498aae97a53b4117e1d89a12c", func := "loop.example/g03304/laws.FnExactExchangeCell", spec := "fnExactExchangeCell", apart := false, narrowed := true }
def FnExactExchangeCellUptoSaid : Prop := fnExactExchangeCellUptoRow.holds Try.pinned (OpenSpec.upto fnExactExchangeCellSpec)

end Rows
end Go.Proofs.Ytjjdkbkmjjfnoaa
