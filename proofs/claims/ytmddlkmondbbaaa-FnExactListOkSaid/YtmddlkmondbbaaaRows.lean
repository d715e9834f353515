/-
  No cell of these rows narrows 'for every input' (looked for: loops, veiled, ifaces, maps, wideKeys, modest, calm, conditions, laid).
  DERIVED. THE GIVEN ROWS OF THIS SEAT. 12 by the template 'for every input the law returns true; each argument reads behind the call as it read before'; 0 by the template 'total and deterministic' (their statements: YtmddlkmondbbaaaTotals.lean).
  GIVEN WITH THE SEED: the statements are not yours to turn. If you find one false, say at which input.
  Laid BY PROGRAM, IN A SANDBOX (cutbox-rows.mjs): the forced cells as the released guide's own fill.sh prints them over the translation 3e3e1933ecc860ff… (all of the seat's roots in one cut). By AI agents, Wed Nov 11 2026. No macro, syntax, notation, axiom, sorry.
-/
import Derived.Test.YtmddlkmondbbaaaChecked
import GoSem.Claim
import GoSem.ClaimJoined
import GoSem.ClaimMapViews
import Derived.JoinedTies
import Derived.KernelRfl
namespace Go.Proofs.Ytmddlkmondbbaaa
/- THE CELL 'sum', in the pinned program and in every row, IS THE sha256 OF THE DUMP (.gsa) THAT YtmddlkmondbbaaaProg.lean LOADS. Nothing in Lean hashes anything: it is a label: what it is worth is what the hold of that sum in a sandbox is worth. -/
noncomputable def Try.pinned : Pinned := { name := "ytmddlkmondbbaaa", sum := "3e3e1933ecc860ff6e9b7a1da7bec20895987d2a96f43a1c3c7f7a200a00b035", checked := Try.checked }
namespace Rows
def none {H : Type} : Left H := { results := [], args := [] }

/-- 'laws.FnExactConstants': WHATEVER THE INPUT: true; the input reads as it did. -/
def fnExactConstantsSpec : ChangeSpec := { name := "fnExactConstants", fn := fun _ => fun
  | [] => { results := [.lit (.bool true)], args := [] }
  | _ => none }
def fnExactConstantsRow : OpenClaim := { program := "ytmddlkmondbbaaa", sum := "3e3e1933ecc860ff6e9b7a1da7bec20895987d2a96f43a1c3c7f7a200a00b035", func := "loop.example/g03304/laws.FnExactConstants", spec := "fnExactConstants", apart := false }
def FnExactConstantsSaid : Prop := fnExactConstantsRow.holds Try.pinned (OpenSpec.ofChange fnExactConstantsSpec)

/-- ITS FALSE NEIGHBOUR: 'it returns false'. Refute it at one input. -/
def fnExactConstantsWrong : ChangeSpec := { name := "fnExactConstants", fn := fun _ => fun
  | [] => { results := [.lit (.bool false)], args := [] }
  | _ => none }
def FnExactConstantsWrongFalsely : Prop := fnExactConstantsRow.holds Try.pinned (OpenSpec.ofChange fnExactConstantsWrong)

/-- 'laws.FnExactClamp': WHATEVER THE INPUT: true; the input reads as it did. -/
def fnExactClampSpec : ChangeSpec := { name := "fnExactClamp", fn := fun _ => fun
  | [d1, d2, d3] => { results := [.lit (.bool true)], args := [d1, d2, d3] }
  | _ => none }
def fnExactClampRow : OpenClaim := { program := "ytmddlkmondbbaaa", sum := "3e3e1933ecc860ff6e9b7a1da7bec20895987d2a96f43a1c3c7f7a200a00b035", func := "loop.example/g03304/laws.FnExactClamp", spec := "fnExactClamp", apart := false }
def FnExactClampSaid : Prop := fnExactClampRow.holds Try.pinned (OpenSpec.ofChange fnExactClampSpec)

/-- ITS FALSE NEIGHBOUR: 'it returns false'. Refute it at one input. -/
def fnExactClampWrong : ChangeSpec := { name := "fnExactClamp", fn := fun _ => fun
  | [d1, d2, d3] => { results := [.lit (.bool false)], args := [d1, d2, d3] }
  | _ => none }
def FnExactClampWrongFalsely : Prop := fnExactClampRow.holds Try.pinned (OpenSpec.ofChange fnExactClampWrong)

/-- 'laws.FnClamped': WHATEVER THE INPUT: true; the input reads as it did. -/
def fnClampedSpec : ChangeSpec := { name := "fnClamped", fn := fun _ => fun
  | [d] => { results := [.lit (.bool true)], args := [d] }
  | _ => none }
def fnClampedRow : OpenClaim := { program := "ytmddlkmondbbaaa", sum := "3e3e1933ecc860ff6e9b7a1da7bec20895987d2a96f43a1c3c7f7a200a00b035", func := "loop.example/g03304/laws.FnClamped", spec := "fnClamped", apart := false }
def FnClampedSaid : Prop := fnClampedRow.holds Try.pinned (OpenSpec.ofChange fnClampedSpec)

/-- ITS FALSE NEIGHBOUR: 'it returns false'. Refute it at one input. -/
def fnClampedWrong : ChangeSpec := { name := "fnClamped", fn := fun _ => fun
  | [d] => { results := [.lit (.bool false)], args := [d] }
  | _ => none }
def FnClampedWrongFalsely : Prop := fnClampedRow.holds Try.pinned (OpenSpec.ofChange fnClampedWrong)

/-- 'laws.FnExactCellOk': WHATEVER THE INPUT: true; the input reads as it did. -/
def fnExactCellOkSpec : ChangeSpec := { name := "fnExactCellOk", fn := fun _ => fun
  | [d] => { results := [.lit (.bool true)], args := [d] }
  | _ => none }
def fnExactCellOkRow : OpenClaim := { program := "ytmddlkmondbbaaa", sum := "3e3e1933ecc860ff6e9b7a1da7bec20895987d2a96f43a1c3c7f7a200a00b035", func := "loop.example/g03304/laws.FnExactCellOk", spec := "fnExactCellOk", apart := false }
def FnExactCellOkSaid : Prop := fnExactCellOkRow.holds Try.pinned (OpenSpec.ofChange fnExactCellOkSpec)

/-- ITS FALSE NEIGHBOUR: 'it returns false'. Refute it at one input. -/
def fnExactCellOkWrong : ChangeSpec := { name := "fnExactCellOk", fn := fun _ => fun
  | [d] => { results := [.lit (.bool false)], args := [d] }
  | _ => none }
def FnExactCellOkWrongFalsely : Prop := fnExactCellOkRow.holds Try.pinned (OpenSpec.ofChange fnExactCellOkWrong)

/-- 'laws.FnExactWholeCell': WHATEVER THE INPUT: true; the input reads as it did. -/
def fnExactWholeCellSpec : ChangeSpec := { name := "fnExactWholeCell", fn := fun _ => fun
  | [d] => { results := [.lit (.bool true)], args := [d] }
  | _ => none }
def fnExactWholeCellRow : OpenClaim := { program := "ytmddlkmondbbaaa", sum := "3e3e1933ecc860ff6e9b7a1da7bec20895987d2a96f43a1c3c7f7a200a00b035", func := "loop.example/g03304/laws.FnExactWholeCell", spec := "fnExactWholeCell", apart := false }
def FnExactWholeCellSaid : Prop := fnExactWholeCellRow.holds Try.pinned (OpenSpec.ofChange fnExactWholeCellSpec)

/-- ITS FALSE NEIGHBOUR: 'it returns false'. Refute it at one input. -/
def fnExactWholeCellWrong : ChangeSpec := { name := "fnExactWholeCell", fn := fun _ => fun
  | [d] => { results := [.lit (.bool false)], args := [d] }
  | _ => none }
def FnExactWholeCellWrongFalsely : Prop := fnExactWholeCellRow.holds Try.pinned (OpenSpec.ofChange fnExactWholeCellWrong)

/-- 'laws.FnExactColorAt': WHATEVER THE INPUT: true; the input reads as it did. -/
def fnExactColorAtSpec : ChangeSpec := { name := "fnExactColorAt", fn := fun _ => fun
  | [d1, d2] => { results := [.lit (.bool true)], args := [d1, d2] }
  | _ => none }
def fnExactColorAtRow : OpenClaim := { program := "ytmddlkmondbbaaa", sum := "3e3e1933ecc860ff6e9b7a1da7bec20895987d2a96f43a1c3c7f7a200a00b035", func := "loop.example/g03304/laws.FnExactColorAt", spec := "fnExactColorAt", apart := false }
def FnExactColorAtSaid : Prop := fnExactColorAtRow.holds Try.pinned (OpenSpec.ofChange fnExactColorAtSpec)

/-- ITS FALSE NEIGHBOUR: 'it returns false'. Refute it at one input. -/
def fnExactColorAtWrong : ChangeSpec := { name := "fnExactColorAt", fn := fun _ => fun
  | [d1, d2] => { results := [.lit (.bool false)], args := [d1, d2] }
  | _ => none }
def FnExactColorAtWrongFalsely : Prop := fnExactColorAtRow.holds Try.pinned (OpenSpec.ofChange fnExactColorAtWrong)

/-- 'laws.FnExactCellArea': WHATEVER THE INPUT: true; the input reads as it did. -/
def fnExactCellAreaSpec : ChangeSpec := { name := "fnExactCellArea", fn := fun _ => fun
  | [d1, d2] => { results := [.lit (.bool true)], args := [d1, d2] }
  | _ => none }
def fnExactCellAreaRow : OpenClaim := { program := "ytmddlkmondbbaaa", sum := "3e3e1933ecc860ff6e9b7a1da7bec20895987d2a96f43a1c3c7f7a200a00b035", func := "loop.example/g03304/laws.FnExactCellArea", spec := "fnExactCellArea", apart := false }
def FnExactCellAreaSaid : Prop := fnExactCellAreaRow.holds Try.pinned (OpenSpec.ofChange fnExactCellAreaSpec)

/-- ITS FALSE NEIGHBOUR: 'it returns false'. Refute it at one input. -/
def fnExactCellAreaWrong : ChangeSpec := { name := "fnExactCellArea", fn := fun _ => fun
  | [d1, d2] => { results := [.lit (.bool false)], args := [d1, d2] }
  | _ => none }
def FnExactCellAreaWrongFalsely : Prop := fnExactCellAreaRow.holds Try.pinned (OpenSpec.ofChange fnExactCellAreaWrong)

/-- 'laws.FnExactMirrorCell': WHATEVER THE INPUT: true; the input reads as it did. -/
def fnExactMirrorCellSpec : ChangeSpec := { name := "fnExactMirrorCell", fn := fun _ => fun
  | [d] => { results := [.lit (.bool true)], args := [d] }
  | _ => none }
def fnExactMirrorCellRow : OpenClaim := { program := "ytmddlkmondbbaaa", sum := "3e3e1933ecc860ff6e9b7a1da7bec20895987d2a96f43a1c3c7f7a200a00b035", func := "loop.example/g03304/laws.FnExactMirrorCell", spec := "fnExactMirrorCell", apart := false }
def FnExactMirrorCellSaid : Prop := fnExactMirrorCellRow.holds Try.pinned (OpenSpec.ofChange fnExactMirrorCellSpec)

/-- ITS FALSE NEIGHBOUR: 'it returns false'. Refute it at one input. -/
def fnExactMirrorCellWrong : ChangeSpec := { name := "fnExactMirrorCell", fn := fun _ => fun
  | [d] => { results := [.lit (.bool false)], args := [d] }
  | _ => none }
def FnExactMirrorCellWrongFalsely : Prop := fnExactMirrorCellRow.holds Try.pinned (OpenSpec.ofChange fnExactMirrorCellWrong)

/-- 'laws.FnExactTurnCell': WHATEVER THE INPUT: true; the input reads as it did. -/
def fnExactTurnCellSpec : ChangeSpec := { name := "fnExactTurnCell", fn := fun _ => fun
  | [d] => { results := [.lit (.bool true)], args := [d] }
  | _ => none }
def fnExactTurnCellRow : OpenClaim := { program := "ytmddlkmondbbaaa", sum := "3e3e1933ecc860ff6e9b7a1da7bec20895987d2a96f43a1c3c7f7a200a00b035", func := "loop.example/g03304/laws.FnExactTurnCell", spec := "fnExactTurnCell", apart := false }
def FnExactTurnCellSaid : Prop := fnExactTurnCellRow.holds Try.pinned (OpenSpec.ofChange fnExactTurnCellSpec)

/-- ITS FALSE NEIGHBOUR: 'it returns false'. Refute it at one input. -/
def fnExactTurnCellWrong : ChangeSpec := { name := "fnExactTurnCell", fn := fun _ => fun
  | [d] => { results := [.lit (.bool false)], args := [d] }
  | _ => none }
def FnExactTurnCellWrongFalsely : Prop := fnExactTurnCellRow.holds Try.pinned (OpenSpec.ofChange fnExactTurnCellWrong)

/-- 'laws.FnExactSplitCell': WHATEVER THE INPUT: true; the input reads as it did. -/
def fnExactSplitCellSpec : ChangeSpec := { name := "fnExactSplitCell", fn := fun _ => fun
  | [d1, d2, d3] => { results := [.lit (.bool true)], args := [d1, d2, d3] }
  | _ => none }
def fnExactSplitCellRow : OpenClaim := { program := "ytmddlkmondbbaaa", sum := "3e3e1933ecc860ff6e9b7a1da7bec20895987d2a96f43a1c3c7f7a200a00b035", func := "loop.example/g03304/laws.FnExactSplitCell", spec := "fnExactSplitCell", apart := false }
def FnExactSplitCellSaid : Prop := fnExactSplitCellRow.holds Try.pinned (OpenSpec.ofChange fnExactSplitCellSpec)

/-- ITS FALSE NEIGHBOUR: 'it returns false'. Refute it at one input. -/
def fnExactSplitCellWrong : ChangeSpec := { name := "fnExactSplitCell", fn := fun _ => fun
  | [d1, d2, d3] => { results := [.lit (.bool false)], args := [d1, d2, d3] }
  | _ => none }
def FnExactSplitCellWrongFalsely : Prop := fnExactSplitCellRow.holds Try.pinned (OpenSpec.ofChange fnExactSplitCellWrong)

/-- 'laws.FnExactListOk': WHATEVER THE INPUT: true; the input reads as it did. -/
def fnExactListOkSpec : ChangeSpec := { name := "fnExactListOk", fn := fun _ => fun
  | [d] => { results := [.lit (.bool true)], args := [d] }
  | _ => none }
def fnExactListOkRow : OpenClaim := { program := "ytmddlkmondbbaaa", sum := "3e3e1933ecc860ff6e9b7a1da7bec20895987d2a96f43a1c3c7f7a200a00b035", func := "loop.example/g03304/laws.FnExactListOk", spec := "fnExactListOk", apart := false }
def FnExactListOkSaid : Prop := fnExactListOkRow.holds Try.pinned (OpenSpec.ofChange fnExactListOkSpec)

/-- ITS FALSE NEIGHBOUR: 'it returns false'. Refute it at one input. -/
def fnExactListOkWrong : ChangeSpec := { name := "fnExactListOk", fn := fun _ => fun
  | [d] => { results := [.lit (.bool false)], args := [d] }
  | _ => none }
def FnExactListOkWrongFalsely : Prop := fnExactListOkRow.holds Try.pinned (OpenSpec.ofChange fnExactListOkWrong)

/-- 'laws.FnExactProductOf': WHATEVER THE INPUT: true; the input reads as it did. -/
def fnExactProductOfSpec : ChangeSpec := { name := "fnExactProductOf", fn := fun _ => fun
  | [d1, d2] => { results := [.lit (.bool true)], args := [d1, d2] }
  | _ => none }
def fnExactProductOfRow : OpenClaim := { program := "ytmddlkmondbbaaa", sum := "3e3e1933ecc860ff6e9b7a1da7bec20895987d2a96f43a1c3c7f7a200a00b035", func := "loop.example/g03304/laws.FnExactProductOf", spec := "fnExactProductOf", apart := false }
def FnExactProductOfSaid : Prop := fnExactProductOfRow.holds Try.pinned (OpenSpec.ofChange fnExactProductOfSpec)

/-- ITS FALSE NEIGHBOUR: 'it returns false'. Refute it at one input. -/
def fnExactProductOfWrong : ChangeSpec := { name := "fnExactProductOf", fn := fun _ => fun
  | [d1, d2] => { results := [.lit (.bool false)], args := [d1, d2] }
  | _ => none }
def FnExactProductOfWrongFalsely : Prop := fnExactProductOfRow.holds Try.pinned (OpenSpec.ofChange fnExactProductOfWrong)

/- THE SECOND FORM. 'bulk': how many values and letters a reading holds, each counted each time it is reached (what is shared counts as often as it is met; a slice's spare places count too). A statement '..UptoSaid' is the law's where the arguments, and the package variables that the reading takes, are together of bulk at most 1048576: NARROWER than '..Said'. Prove '..Said' where nothing that the law and all that it calls make is longer than what came in: it says more and counts as full. Else prove '..UptoSaid'. A law counts once. -/
mutual
def uptoBulk {H : Type} : DataW H → Nat
  | .lit (.string bytes) => bytes.length + 1
  | .lit _ => 1
  | .nil => 1
  | .ptr d => uptoBulk d + 1
  | .slice elems spare => uptoBulkAll elems + uptoBulkAll spare + 1
  | .agg parts => uptoBulkAll parts + 1
  | .iface _ d => uptoBulk d + 1
  | .map entries => uptoBulkEntries entries + 1
  | .held _ => 1
def uptoBulkAll {H : Type} : List (DataW H) → Nat
  | [] => 0
  | d :: r => uptoBulk d + uptoBulkAll r
def uptoBulkEntries {H : Type} : List (Lit × DataW H) → Nat
  | [] => 0
  | x :: r => uptoBulkEntry x + uptoBulkEntries r
def uptoBulkEntry {H : Type} : Lit × DataW H → Nat
  | (.string bytes, d) => bytes.length + uptoBulk d + 1
  | (_, d) => uptoBulk d + 1
 end
def uptoSmall : (H : Type) → List (DataW H) → Bool := fun _ ds => decide (uptoBulkAll ds ≤ 1048576)
def OpenSpec.upto (s : _root_.Go.ChangeSpec) : _root_.Go.OpenSpec := { _root_.Go.OpenSpec.ofChange s with cond := some uptoSmall }

/-- 'laws.FnExactConstants', WHERE WHAT IT READS IS OF BULK AT MOST 1048576: true; the input reads as it did. -/
def fnExactConstantsUptoRow : OpenClaim := { program := "ytmddlkmondbbaaa", sum := "3e3e1933ecc860ff6e9b7a1da7bec20895987d2a96f43a1c3c7f7a200a00b035", func := "loop.example/g03304/laws.FnExactConstants", spec := "fnExactConstants", apart := false, narrowed := true }
def FnExactConstantsUptoSaid : Prop := fnExactConstantsUptoRow.holds Try.pinned (OpenSpec.upto fnExactConstantsSpec)

/-- 'laws.FnExactClamp', WHERE WHAT IT READS IS OF BULK AT MOST 1048576: true; the input reads as it did. -/
def fnExactClampUptoRow : OpenClaim := { program := "ytmddlkmondbbaaa", sum := "3e3e1933ecc860ff6e9b7a1da7bec20895987d2a96f43a1c3c7f7a200a00b035", func := "loop.example/g03304/laws.FnExactClamp", spec := "fnExactClamp", apart := false, narrowed := true }
def FnExactClampUptoSaid : Prop := fnExactClampUptoRow.holds Try.pinned (OpenSpec.upto fnExactClampSpec)

/-- 'laws.FnClamped', WHERE WHAT IT READS IS OF BULK AT MOST 1048576: true; the input reads as it did. -/
def fnClampedUptoRow : OpenClaim := { program := "ytmddlkmondbbaaa", sum := "3e3e1933ecc860ff6e9b7a1da7bec20895987d2a96f43a1c3c7f7a200a00b035", func := "loop.example/g03304/laws.FnClamped", spec := "fnClamped", apart := false, narrowed := true }
def FnClampedUptoSaid : Prop := fnClampedUptoRow.holds Try.pinned (OpenSpec.upto fnClampedSpec)

/-- 'laws.FnExactCellOk', WHERE WHAT IT READS IS OF BULK AT MOST 1048576: true; the input reads as it did. -/
def fnExactCellOkUptoRow : OpenClaim := { program := "ytmddlkmondbbaaa", sum := "3e3e1933ecc860ff6e9b7a1da7bec20895987d2a96f43a1c3c7f7a200a00b035", func := "loop.example/g03304/laws.FnExactCellOk", spec := "fnExactCellOk", apart := false, narrowed := true }
def FnExactCellOkUptoSaid : Prop := fnExactCellOkUptoRow.holds Try.pinned (OpenSpec.upto fnExactCellOkSpec)

/-- 'laws.FnExactWholeCell', WHERE WHAT IT READS IS OF BULK AT MOST 1048576: true; the input reads as it did. -/
def fnExactWholeCellUptoRow : OpenClaim := { program := "ytmddlkmondbbaaa", sum := "3e3e1933ecc860ff6e9b7a1da7bec20895987d2a96f43a1c3c7f7a200a00b035", func := "loop.example/g03304/laws.FnExactWholeCell", spec := "fnExactWholeCell", apart := false, narrowed := true }
def FnExactWholeCellUptoSaid : Prop := fnExactWholeCellUptoRow.holds Try.pinned (OpenSpec.upto fnExactWholeCellSpec)

/-- 'laws.FnExactColorAt', WHERE WHAT IT READS IS OF BULK AT MOST 1048576: true; the input reads as it did. -/
def fnExactColorAtUptoRow : OpenClaim := { program := "ytmddlkmondbbaaa", sum := "3e3e1933ecc860ff6e9b7a1da7bec20895987d2a96f43a1c3c7f7a200a00b035", func := "loop.example/g03304/laws.FnExactColorAt", spec := "fnExactColorAt", apart := false, narrowed := true }
def FnExactColorAtUptoSaid : Prop := fnExactColorAtUptoRow.holds Try.pinned (OpenSpec.upto fnExactColorAtSpec)

/-- 'laws.FnExactCellArea', WHERE WHAT IT READS IS OF BULK AT MOST 1048576: true; the input reads as it did. -/
def fnExactCellAreaUptoRow : OpenClaim := { program := "ytmddlkmondbbaaa", sum := "3e3e1933ecc860ff6e9b7a1da7bec20895987d2a96f43a1c3c7f7a200a00b035", func := "loop.example/g03304/laws.FnExactCellArea", spec := "fnExactCellArea", apart := false, narrowed := true }
def FnExactCellAreaUptoSaid : Prop := fnExactCellAreaUptoRow.holds Try.pinned (OpenSpec.upto fnExactCellAreaSpec)

/-- 'laws.FnExactMirrorCell', WHERE WHAT IT READS IS OF BULK AT MOST 1048576: true; the input reads as it did. -/
def fnExactMirrorCellUptoRow : OpenClaim := { program := "ytmddlkmondbbaaa", sum := "3e3e1933ecc860ff6e9b7a1da7bec20895987d2a96f43a1c3c7f7a200a00b035", func := "loop.example/g03304/laws.FnExactMirrorCell", spec := "fnExactMirrorCell", apart := false, narrowed := true }
def FnExactMirrorCellUptoSaid : Prop := fnExactMirrorCellUptoRow.holds Try.pinned (OpenSpec.upto fnExactMirrorCellSpec)

/-- 'laws.FnExactTurnCell', WHERE WHAT IT READS IS OF BULK AT MOST 1048576: true; the input reads as it did. -/
def fnExactTurnCellUptoRow : OpenClaim := { program := "ytmddlkmondbbaaa", sum := "3e3e1933ecc860ff6e9b7a1da7bec20895987d2a96f43a1c3c7f7a200a00b035", func := "loop.example/g03304/laws.FnExactTurnCell", spec := "fnExactTurnCell", apart := false, narrowed := true }
def FnExactTurnCellUptoSaid : Prop := fnExactTurnCellUptoRow.holds Try.pinned (OpenSpec.upto fnExactTurnCellSpec)

/-- 'laws.FnExactSplitCell', WHERE WHAT IT READS IS OF BULK AT MOST 1048576: true; the input reads as it did. -/
def fnExactSplitCellUptoRow : OpenClaim := { program := "ytmddlkmondbbaaa", sum := "3e3e1933ecc860ff6e9b7a1da7bec20895987d2a96f43a1c3c7f7a200a00b035", func := "loop.example/g03304/laws.FnExactSplitCell", spec := "fnExactSplitCell", apart := false, narrowed := true }
def FnExactSplitCellUptoSaid : Prop := fnExactSplitCellUptoRow.holds Try.pinned (OpenSpec.upto fnExactSplitCellSpec)

/-- 'laws.FnExactListOk', WHERE WHAT IT READS IS OF BULK AT MOST 1048576: true; the input reads as it did. -/
def fnExactListOkUptoRow : OpenClaim := { program := "ytmddlkmondbbaaa", sum := "3e3e1933ecc860ff6e9b7a1da7bec20895987d2a96f43a1c3c7f7a200a00b035", func := "loop.example/g03304/laws.FnExactListOk", spec := "fnExactListOk", apart := false, narrowed := true }
def FnExactListOkUptoSaid : Prop := fnExactListOkUptoRow.holds Try.pinned (OpenSpec.upto fnExactListOkSpec)

/-- 'laws.FnExactProductOf', WHERE WHAT IT READS IS OF BULK AT MOST 1048576: true; the input reads as it did. -/
def fnExactProductOfUptoRow : OpenClaim := { program := "ytmddlkmondbbaaa", sum := "3e3e1933ecc860ff6e9b7a1da7bec20895987d2a96f43a1c3c7f7a200a00b035", func := "loop.example/g03304/laws.FnExactProductOf", spec := "fnExactProductOf", apart := false, narrowed := true }
def FnExactProductOfUptoSaid : Prop := fnExactProductOfUptoRow.holds Try.pinned (OpenSpec.upto fnExactProductOfSpec)

end Rows
end Go.Proofs.Ytmddlkmondbbaaa
