/- Which function of the translation leads to which, as a plain list; what the row's closed facts ask of it. Lean checks the list against the program. -/
import Derived.Test.YteoddpdjhkbaiaaDoorRows
import Derived.JoinedOf
import Derived.ProofKit
set_option linter.unusedVariables false
namespace Go.Proofs.YteoddpdjhkbaiaaDoor
open Go

def closA (A : List (List Nat)) : Nat → List Nat → List Nat → List Nat
  | 0, _, seen => seen.reverse
  | _, [], seen => seen.reverse
  | n + 1, f :: todo, seen => if seen.contains f then closA A n todo seen else closA A n (A.getD f [] ++ todo) (f :: seen)
def fuelA (A : List (List Nat)) : Nat := 1 + (A.map fun l => l.length + 1).sum
def recA (A : List (List Nat)) (f : Nat) : Bool := (closA A (fuelA A) [f] []).any fun g => (A.getD g []).any fun h => (closA A (fuelA A) [h] []).contains g
section
variable {P : Program} {rest : List (List Char)}
theorem mayEnter_gen (hw : behindMainWord (wordsSigns P.initOrder.toList) = "cut".toList :: rest) (h4 : (stripLifts liftWords ("cut".toList :: rest)).1 = [])
    (h5 : (stripLifts liftWords ("cut".toList :: rest)).2.head? = some "cut".toList) (hl : P.laysLater = false) (hr : P.bearsReflect = false) (hd : P.doorFits [] = true) : P.mayEnter = true := by
  unfold Program.mayEnter
  rw [hw]
  simp only [h4, h5, hl, hr, hd]
  simp
theorem headLifts_gen (hw : behindMainWord (wordsSigns P.initOrder.toList) = "cut".toList :: rest) (h4 : (stripLifts liftWords ("cut".toList :: rest)).1 = []) : P.headLifts = [] := by
  unfold Program.headLifts
  rw [hw]
  simp only [h4]
  split <;> rfl
theorem liftsFinal_gen (hw : behindMainWord (wordsSigns P.initOrder.toList) = "cut".toList :: rest) (h4 : (stripLifts liftWords ("cut".toList :: rest)).1 = []) : P.liftsFinal = false := by
  unfold Program.liftsFinal
  rw [headLifts_gen hw h4, hw]
  simp
theorem make_gen (hw : behindMainWord (wordsSigns P.initOrder.toList) = "cut".toList :: rest) : P.make = some Make.cut := by
  unfold Program.make
  rw [hw]
  simp
theorem head_gen {W : List (List Char)} {c : List Char} (h : W.head? = some c) : ∃ rest, W = c :: rest := by
  cases W with
  | nil => cases h
  | cons d rest => exact ⟨rest, by rw [Option.some.inj h]⟩
theorem toL_gen {s : String} {L : List Char} (h : s = String.ofList L) : s.toList = L := by rw [h, String.toList_ofList]
end
section
variable {P : Program} {A : List (List Nat)}
theorem lead_gen (hA : P.funcs.toList.map (fun g => P.leadsTo g) = A) (f : Nat) : (P.funcs[f]?).elim [] P.leadsTo = A.getD f [] := by
  have h : A[f]? = (P.funcs[f]?).map P.leadsTo := by
    rw [← hA, List.getElem?_map, Array.getElem?_toList]
  rw [List.getD_eq_getElem?_getD, h]
  cases P.funcs[f]? <;> rfl
theorem closA_gen (hA : P.funcs.toList.map (fun g => P.leadsTo g) = A) : ∀ (n : Nat) (todo seen : List Nat), P.closureVia n todo seen = closA A n todo seen
  | 0, _, _ => rfl
  | n + 1, [], seen => rfl
  | n + 1, f :: todo, seen => by
    rw [Program.closureVia, closA]
    split
    · exact closA_gen hA n todo seen
    · rw [lead_gen hA]; exact closA_gen hA n _ _
theorem fuel_gen (hA : P.funcs.toList.map (fun g => P.leadsTo g) = A) : (1 + (P.funcs.toList.map fun g => (P.leadsTo g).length + 1).sum) = fuelA A := by
  subst hA
  rw [fuelA, List.map_map]; rfl
theorem closure_gen (hA : P.funcs.toList.map (fun g => P.leadsTo g) = A) (f : Nat) : P.closure f = closA A (fuelA A) [f] [] := by
  rw [Program.closure, fuel_gen hA, closA_gen hA]
theorem recurses_gen (hA : P.funcs.toList.map (fun g => P.leadsTo g) = A) (f : Nat) : P.recurses f = (P.unfollowed f || recA A f) := by
  rw [Program.recurses, recA, closure_gen hA]
  congr 2
  funext g
  rw [lead_gen hA]
  congr 1
  funext h
  rw [closure_gen hA]
theorem recurses_no (hA : P.funcs.toList.map (fun g => P.leadsTo g) = A) {f : Nat} (h1 : (false == P.unfollowed f) = true) (h2 : recA A f = false) : (false == P.recurses f) = true := by
  rw [recurses_gen hA, h2, Bool.or_false]; exact h1
end

def adj : List (List Nat) := [[], [], [1], [11, 12], [13, 14], [15, 16, 14, 12], [15, 17, 18, 14, 19], [15, 20, 21, 22, 14, 21, 23], [25, 24, 25, 26], [27, 29, 28, 29, 30, 29, 31], [15, 32, 33, 33, 33, 33, 34, 35, 26, 36, 37, 26], [13], [38, 39, 14], [40], [41], [], [42, 43, 44, 44, 45], [42, 43, 44, 46, 44, 47], [], [48, 48], [42, 44, 43, 44, 43, 44, 44, 46, 44, 44, 44, 49, 44, 46], [], [], [], [50, 13, 13, 13, 13, 13], [], [36, 14, 14, 14], [51], [52, 24], [53], [54, 26], [55], [42, 56], [36, 39], [], [37, 36], [39, 57, 57], [57], [58, 59], [], [], [60], [], [44], [61, 61, 61, 61, 61], [44, 62, 44, 44], [], [61], [63], [44], [64, 64, 64], [], [64, 50], [25], [39, 36], [65], [44, 44, 44, 66], [39], [67], [68, 69, 70, 71], [72], [], [44], [73], [], [], [74, 50], [75], [76], [76], [76, 41, 77], [76, 41, 77], [78, 79, 80, 81], [], [64], [82, 82, 82, 82, 82, 82, 83], [], [], [], [85, 84, 86], [], [87, 88], [], [82, 82, 82, 82, 82, 82], [], [], [], [], [89, 90], [], [], [], [], [], [], [], [], [], [], [], [], [], [], [], [], [], [], [], [], [], [], [], [], [], [], [], [], [], [77, 77]]
theorem mapsRowedP : mapsRowed Tryd.prog = true := by kernel_rfl
theorem stopsP : (Tryd.prog.stops == []) = true := by kernel_rfl
theorem knobsP : (Tryd.prog.stopKnobs == []) = true := by kernel_rfl
def codes : List Nat := [104, 97, 114, 110, 101, 115, 115, 32, 53, 98, 52, 52, 48, 54, 57, 54, 98, 53, 54, 49, 99, 101, 56, 49, 53, 57, 48, 99, 100, 55, 102, 56, 54, 101, 51, 54, 97, 57, 53, 55, 53, 50, 51, 100, 51, 99, 99, 102, 54, 97, 100, 57, 53, 53, 54, 48, 101, 101, 51, 54, 50, 50, 49, 51, 52, 98, 101, 51, 97, 102, 100, 102, 32, 99, 117, 116, 32, 97, 116, 32, 108, 111, 111, 112, 46, 101, 120, 97, 109, 112, 108, 101, 47, 103, 48, 51, 51, 48, 52, 47, 108, 97, 119, 115, 46, 70, 110, 69, 120, 97, 99, 116, 80, 97, 114, 115, 101, 85, 105, 110, 116, 32, 108, 111, 111, 112, 46, 101, 120, 97, 109, 112, 108, 101, 47, 103, 48, 51, 51, 48, 52, 47, 108, 97, 119, 115, 46, 70, 110, 69, 120, 97, 99, 116, 70, 111, 114, 109, 97, 116, 73, 110, 116, 32, 108, 111, 111, 112, 46, 101, 120, 97, 109, 112, 108, 101, 47, 103, 48, 51, 51, 48, 52, 47, 108, 97, 119, 115, 46, 70, 110, 78, 117, 109, 98, 101, 114, 115, 32, 108, 111, 111, 112, 46, 101, 120, 97, 109, 112, 108, 101, 47, 103, 48, 51, 51, 48, 52, 47, 108, 97, 119, 115, 46, 70, 110, 72, 101, 120, 84, 101, 120, 116, 32, 108, 111, 111, 112, 46, 101, 120, 97, 109, 112, 108, 101, 47, 103, 48, 51, 51, 48, 52, 47, 108, 97, 119, 115, 46, 70, 110, 70, 105, 101, 108, 100, 115, 65, 103, 97, 105, 110, 32, 108, 111, 111, 112, 46, 101, 120, 97, 109, 112, 108, 101, 47, 103, 48, 51, 51, 48, 52, 47, 108, 97, 119, 115, 46, 70, 110, 69, 120, 97, 99, 116, 67, 101, 108, 108, 84, 101, 120, 116, 32, 108, 111, 111, 112, 46, 101, 120, 97, 109, 112, 108, 101, 47, 103, 48, 51, 51, 48, 52, 47, 108, 97, 119, 115, 46, 70, 110, 69, 120, 97, 99, 116, 84, 101, 120, 116, 79, 102, 32, 108, 111, 111, 112, 46, 101, 120, 97, 109, 112, 108, 101, 47, 103, 48, 51, 51, 48, 52, 47, 108, 97, 119, 115, 46, 70, 110, 67, 101, 108, 108, 115]
theorem initOrder_eq : Tryd.prog.initOrder = String.ofList (codes.map Char.ofNat) := by kernel_rfl
theorem laysP : Tryd.prog.laysLater = false := by kernel_rfl
theorem reflP : Tryd.prog.bearsReflect = false := by kernel_rfl
theorem liftsP : (stripLifts liftWords (behindMainWord (wordsSigns (codes.map Char.ofNat)))).1 = [] := by kernel_rfl
theorem cutP : (stripLifts liftWords (behindMainWord (wordsSigns (codes.map Char.ofNat)))).2.head? = some "cut".toList := by kernel_rfl
theorem headP : (behindMainWord (wordsSigns (codes.map Char.ofNat))).head? = some "cut".toList := by kernel_rfl
theorem doorFitsP : Tryd.prog.doorFits [] = true := by kernel_rfl
theorem wordsP : ∃ rest, behindMainWord (wordsSigns Tryd.prog.initOrder.toList) = "cut".toList :: rest ∧ (stripLifts liftWords ("cut".toList :: rest)).1 = [] ∧ (stripLifts liftWords ("cut".toList :: rest)).2.head? = some "cut".toList := by
  obtain ⟨rest, h⟩ := head_gen headP
  exact ⟨rest, by rw [toL_gen initOrder_eq]; exact h, by rw [← h]; exact liftsP, by rw [← h]; exact cutP⟩
theorem mayEnterP : Tryd.prog.mayEnter = true := by
  obtain ⟨rest, h, h4, h5⟩ := wordsP
  exact mayEnter_gen h h4 h5 laysP reflP doorFitsP
theorem liftsFinalP : (false == Tryd.prog.liftsFinal) = true := by
  obtain ⟨rest, h, h4, h5⟩ := wordsP
  rw [liftsFinal_gen h h4]; rfl
theorem makeP : (Tryd.prog.make == some Make.cut) = true := by
  obtain ⟨rest, h, h4, h5⟩ := wordsP
  rw [make_gen h]; rfl
theorem stopsHeardP : Tryd.prog.stopsHeard = true := by kernel_rfl
theorem plainKeysP : (true == Tryd.prog.plainKeys) = true := by kernel_rfl
theorem adj_eq : Tryd.prog.funcs.toList.map (fun g => Tryd.prog.leadsTo g) = adj := by kernel_rfl
end Go.Proofs.YteoddpdjhkbaiaaDoor
