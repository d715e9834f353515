/- Which function of the translation leads to which, as a plain list; what the row's closed facts ask of it. Lean checks the list against the program. -/
import Derived.Test.YtlcllpgbpjdofaaRows
import Derived.JoinedOf
import Derived.ProofKit
set_option linter.unusedVariables false
namespace Go.Proofs.Ytlcllpgbpjdofaa
open Go

def closA (A : List (List Nat)) : Nat → List Nat → List Nat → List Nat
  | 0, _, seen => seen.reverse
  | _, [], seen => seen.reverse
  | n + 1, f :: todo, seen => if seen.contains f then closA A n todo seen else closA A n (A.getD f [] ++ todo) (f :: seen)
def fuelA (A : List (List Nat)) : Nat := 1 + (A.map fun l => l.length + 1).sum
def recA (A : List (List Nat)) (f : Nat) : Bool := (closA A (fuelA A) [f] []).any fun g => (A.getD g []).any fun h => (closA A (fuelA A) [h] []).contains g
section
variable {P : Program} {rest : List (List Char)}
theorem mayEnter_gen (hw : behindMainWord (wordsSigns P.initOrder.toList) = "cut".toList :: rest) (h4 : (stripLifts liftWords ("cut".toList :: rest)).1 = [])
    (h5 : (stripLifts liftWords ("cut".toList :: rest)).2.head? = some "cut".toList) (hl : P.laysLater = false) (hr : P.bearsReflect = false) (hd : P.doorFits [] = true) : P.mayEnter = true := by
  unfold Program.mayEnter
  rw [hw]
  simp only [h4, h5, hl, hr, hd]
  simp
theorem headLifts_gen (hw : behindMainWord (wordsSigns P.initOrder.toList) = "cut".toList :: rest) (h4 : (stripLifts liftWords ("cut".toList :: rest)).1 = []) : P.headLifts = [] := by
  unfold Program.headLifts
  rw [hw]
  simp only [h4]
  split <;> rfl
theorem liftsFinal_gen (hw : behindMainWord (wordsSigns P.initOrder.toList) = "cut".toList :: rest) (h4 : (stripLifts liftWords ("cut".toList :: rest)).1 = []) : P.liftsFinal = false := by
  unfold Program.liftsFinal
  rw [headLifts_gen hw h4, hw]
  simp
theorem make_gen (hw : behindMainWord (wordsSigns P.initOrder.toList) = "cut".toList :: rest) : P.make = some Make.cut := by
  unfold Program.make
  rw [hw]
  simp
theorem head_gen {W : List (List Char)} {c : List Char} (h : W.head? = some c) : ∃ rest, W = c :: rest := by
  cases W with
  | nil => cases h
  | cons d rest => exact ⟨rest, by rw [Option.some.inj h]⟩
theorem toL_gen {s : String} {L : List Char} (h : s = String.ofList L) : s.toList = L := by rw [h, String.toList_ofList]
end
section
variable {P : Program} {A : List (List Nat)}
theorem lead_gen (hA : P.funcs.toList.map (fun g => P.leadsTo g) = A) (f : Nat) : (P.funcs[f]?).elim [] P.leadsTo = A.getD f [] := by
  have h : A[f]? = (P.funcs[f]?).map P.leadsTo := by
    rw [← hA, List.getElem?_map, Array.getElem?_toList]
  rw [List.getD_eq_getElem?_getD, h]
  cases P.funcs[f]? <;> rfl
theorem closA_gen (hA : P.funcs.toList.map (fun g => P.leadsTo g) = A) : ∀ (n : Nat) (todo seen : List Nat), P.closureVia n todo seen = closA A n todo seen
  | 0, _, _ => rfl
  | n + 1, [], seen => rfl
  | n + 1, f :: todo, seen => by
    rw [Program.closureVia, closA]
    split
    · exact closA_gen hA n todo seen
    · rw [lead_gen hA]; exact closA_gen hA n _ _
theorem fuel_gen (hA : P.funcs.toList.map (fun g => P.leadsTo g) = A) : (1 + (P.funcs.toList.map fun g => (P.leadsTo g).length + 1).sum) = fuelA A := by
  subst hA
  rw [fuelA, List.map_map]; rfl
theorem closure_gen (hA : P.funcs.toList.map (fun g => P.leadsTo g) = A) (f : Nat) : P.closure f = closA A (fuelA A) [f] [] := by
  rw [Program.closure, fuel_gen hA, closA_gen hA]
theorem recurses_gen (hA : P.funcs.toList.map (fun g => P.leadsTo g) = A) (f : Nat) : P.recurses f = (P.unfollowed f || recA A f) := by
  rw [Program.recurses, recA, closure_gen hA]
  congr 2
  funext g
  rw [lead_gen hA]
  congr 1
  funext h
  rw [closure_gen hA]
theorem recurses_no (hA : P.funcs.toList.map (fun g => P.leadsTo g) = A) {f : Nat} (h1 : (false == P.unfollowed f) = true) (h2 : recA A f = false) : (false == P.recurses f) = true := by
  rw [recurses_gen hA, h2, Bool.or_false]; exact h1
end

def adj : List (List Nat) := [[], [], [1], [12, 13, 14, 14, 14, 14], [12, 15, 16, 17, 17, 18, 19, 20, 18, 20, 21, 20], [12, 22, 23, 24, 25, 26, 27, 28, 29, 30, 30, 31, 32, 28], [33, 35, 34, 35, 36, 37, 35, 37, 38, 37, 38, 39, 35, 36, 37, 39], [33, 35, 40, 35, 41, 37, 35, 37, 38, 37, 38, 39, 35, 41, 37, 39], [33, 35, 42, 35, 43, 44, 35, 37, 38, 44, 45, 46, 35, 43, 44, 46], [47, 49, 48, 49, 50, 51, 49, 52, 53, 51, 54, 55, 49, 50, 51, 55], [47, 49, 56, 49, 57, 49, 52], [47, 49, 59, 58, 49, 59, 60, 52, 52, 49, 52, 53, 52, 52, 53, 53, 61, 61, 49, 59, 60, 52, 52, 61, 61], [], [62, 63, 64, 64, 64, 65, 65, 65], [], [62, 66], [19, 67], [19, 68, 68, 69, 69], [19], [68, 68, 68, 68, 68, 68, 68, 70, 67], [19], [], [62, 71], [72, 25], [73], [72, 30], [], [72, 25, 25], [72], [72, 74, 25, 25], [75, 75], [], [76, 77, 77, 77, 77], [78], [73, 79], [80], [72, 82, 81], [85], [86], [87], [73, 88], [72, 89, 81], [73], [72, 91, 91, 92], [], [], [], [93], [94, 95], [96], [97], [98], [99], [100], [], [], [94, 48, 58, 56, 56], [101, 19], [95], [], [97, 102], [103], [], [65], [65, 104, 65, 65], [105, 105, 105, 105, 105], [65, 65, 63, 106, 65, 65, 63, 65, 65, 65], [], [], [], [68], [65, 107, 65, 65, 108, 65, 109], [68, 75], [110, 111], [72, 25], [68, 70, 70], [70], [76, 75], [], [111], [112], [], [84, 83], [75], [113], [114], [], [], [111], [84, 90], [75], [], [115], [], [110, 110, 110, 110, 110, 110, 110, 110], [94, 110], [116], [19, 117], [], [118], [], [19, 50, 102, 101, 101], [117], [], [65], [], [], [119], [110, 110, 119], [65, 65, 65, 120], [], [110, 110, 110], [], [72, 68, 68], [], [122, 121], [], [], [], [110], [119, 111], [123], [124], [68], [], [], [], [], [], [], [], [], [], [], [], [], [], [], [], [], []]
theorem mapsRowedP : mapsRowed Try.prog = true := by kernel_rfl
theorem stopsP : (Try.prog.stops == []) = true := by kernel_rfl
theorem knobsP : (Try.prog.stopKnobs == []) = true := by kernel_rfl
def codes : List Nat := [104, 97, 114, 110, 101, 115, 115, 32, 99, 100, 54, 49, 99, 54, 50, 56, 98, 49, 56, 57, 100, 101, 54, 56, 97, 98, 51, 97, 48, 56, 99, 98, 102, 57, 48, 56, 51, 49, 100, 57, 54, 56, 57, 55, 54, 56, 55, 53, 51, 49, 54, 99, 53, 101, 97, 55, 98, 54, 49, 54, 54, 56, 100, 100, 99, 53, 51, 100, 52, 50, 49, 100, 32, 99, 117, 116, 32, 97, 116, 32, 108, 111, 111, 112, 46, 101, 120, 97, 109, 112, 108, 101, 47, 103, 48, 51, 51, 48, 52, 47, 108, 97, 119, 115, 46, 70, 110, 67, 108, 97, 109, 112, 101, 100, 32, 108, 111, 111, 112, 46, 101, 120, 97, 109, 112, 108, 101, 47, 103, 48, 51, 51, 48, 52, 47, 108, 97, 119, 115, 46, 70, 110, 76, 97, 121, 111, 117, 116, 115, 32, 108, 111, 111, 112, 46, 101, 120, 97, 109, 112, 108, 101, 47, 103, 48, 51, 51, 48, 52, 47, 108, 97, 119, 115, 46, 70, 110, 65, 114, 101, 97, 115, 32, 108, 111, 111, 112, 46, 101, 120, 97, 109, 112, 108, 101, 47, 103, 48, 51, 51, 48, 52, 47, 108, 97, 119, 115, 46, 70, 110, 69, 120, 97, 99, 116, 77, 105, 114, 114, 111, 114, 66, 108, 111, 99, 107, 32, 108, 111, 111, 112, 46, 101, 120, 97, 109, 112, 108, 101, 47, 103, 48, 51, 51, 48, 52, 47, 108, 97, 119, 115, 46, 70, 110, 69, 120, 97, 99, 116, 84, 117, 114, 110, 66, 108, 111, 99, 107, 32, 108, 111, 111, 112, 46, 101, 120, 97, 109, 112, 108, 101, 47, 103, 48, 51, 51, 48, 52, 47, 108, 97, 119, 115, 46, 70, 110, 69, 120, 97, 99, 116, 70, 105, 114, 115, 116, 85, 115, 101, 32, 108, 111, 111, 112, 46, 101, 120, 97, 109, 112, 108, 101, 47, 103, 48, 51, 51, 48, 52, 47, 108, 97, 119, 115, 46, 70, 110, 69, 120, 97, 99, 116, 67, 117, 116, 115, 79, 102, 32, 108, 111, 111, 112, 46, 101, 120, 97, 109, 112, 108, 101, 47, 103, 48, 51, 51, 48, 52, 47, 108, 97, 119, 115, 46, 70, 110, 69, 120, 97, 99, 116, 67, 97, 110, 83, 101, 119, 32, 108, 111, 111, 112, 46, 101, 120, 97, 109, 112, 108, 101, 47, 103, 48, 51, 51, 48, 52, 47, 108, 97, 119, 115, 46, 70, 110, 69, 120, 97, 99, 116, 83, 112, 108, 105, 116, 76, 97, 121, 111, 117, 116]
theorem initOrder_eq : Try.prog.initOrder = String.ofList (codes.map Char.ofNat) := by kernel_rfl
theorem laysP : Try.prog.laysLater = false := by kernel_rfl
theorem reflP : Try.prog.bearsReflect = false := by kernel_rfl
theorem doorsP : Try.prog.doorRows = [] := by kernel_rfl
theorem liftsP : (stripLifts liftWords (behindMainWord (wordsSigns (codes.map Char.ofNat)))).1 = [] := by kernel_rfl
theorem cutP : (stripLifts liftWords (behindMainWord (wordsSigns (codes.map Char.ofNat)))).2.head? = some "cut".toList := by kernel_rfl
theorem headP : (behindMainWord (wordsSigns (codes.map Char.ofNat))).head? = some "cut".toList := by kernel_rfl
theorem doorFitsP : Try.prog.doorFits [] = true := by unfold Program.doorFits; rw [doorsP]; rfl
theorem wordsP : ∃ rest, behindMainWord (wordsSigns Try.prog.initOrder.toList) = "cut".toList :: rest ∧ (stripLifts liftWords ("cut".toList :: rest)).1 = [] ∧ (stripLifts liftWords ("cut".toList :: rest)).2.head? = some "cut".toList := by
  obtain ⟨rest, h⟩ := head_gen headP
  exact ⟨rest, by rw [toL_gen initOrder_eq]; exact h, by rw [← h]; exact liftsP, by rw [← h]; exact cutP⟩
theorem mayEnterP : Try.prog.mayEnter = true := by
  obtain ⟨rest, h, h4, h5⟩ := wordsP
  exact mayEnter_gen h h4 h5 laysP reflP doorFitsP
theorem liftsFinalP : (false == Try.prog.liftsFinal) = true := by
  obtain ⟨rest, h, h4, h5⟩ := wordsP
  rw [liftsFinal_gen h h4]; rfl
theorem makeP : (Try.prog.make == some Make.cut) = true := by
  obtain ⟨rest, h, h4, h5⟩ := wordsP
  rw [make_gen h]; rfl
theorem stopsHeardP : Try.prog.stopsHeard = true := by kernel_rfl
theorem plainKeysP : (true == Try.prog.plainKeys) = true := by kernel_rfl
theorem adj_eq : Try.prog.funcs.toList.map (fun g => Try.prog.leadsTo g) = adj := by kernel_rfl
end Go.Proofs.Ytlcllpgbpjdofaa
