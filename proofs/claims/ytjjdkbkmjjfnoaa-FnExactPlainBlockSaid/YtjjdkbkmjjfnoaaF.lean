/- Which function of the translation leads to which, as a plain list; what the row's closed facts ask of it. Lean checks the list against the program. -/
import Derived.Test.YtjjdkbkmjjfnoaaRows
import Derived.JoinedOf
import Derived.ProofKit
set_option linter.unusedVariables false
namespace Go.Proofs.Ytjjdkbkmjjfnoaa
open Go

def closA (A : List (List Nat)) : Nat → List Nat → List Nat → List Nat
  | 0, _, seen => seen.reverse
  | _, [], seen => seen.reverse
  | n + 1, f :: todo, seen => if seen.contains f then closA A n todo seen else closA A n (A.getD f [] ++ todo) (f :: seen)
def fuelA (A : List (List Nat)) : Nat := 1 + (A.map fun l => l.length + 1).sum
def recA (A : List (List Nat)) (f : Nat) : Bool := (closA A (fuelA A) [f] []).any fun g => (A.getD g []).any fun h => (closA A (fuelA A) [h] []).contains g
section
variable {P : Program} {rest : List (List Char)}
theorem mayEnter_gen (hw : behindMainWord (wordsSigns P.initOrder.toList) = "cut".toList :: rest) (h4 : (stripLifts liftWords ("cut".toList :: rest)).1 = [])
    (h5 : (stripLifts liftWords ("cut".toList :: rest)).2.head? = some "cut".toList) (hl : P.laysLater = false) (hr : P.bearsReflect = false) (hd : P.doorFits [] = true) : P.mayEnter = true := by
  unfold Program.mayEnter
  rw [hw]
  simp only [h4, h5, hl, hr, hd]
  simp
theorem headLifts_gen (hw : behindMainWord (wordsSigns P.initOrder.toList) = "cut".toList :: rest) (h4 : (stripLifts liftWords ("cut".toList :: rest)).1 = []) : P.headLifts = [] := by
  unfold Program.headLifts
  rw [hw]
  simp only [h4]
  split <;> rfl
theorem liftsFinal_gen (hw : behindMainWord (wordsSigns P.initOrder.toList) = "cut".toList :: rest) (h4 : (stripLifts liftWords ("cut".toList :: rest)).1 = []) : P.liftsFinal = false := by
  unfold Program.liftsFinal
  rw [headLifts_gen hw h4, hw]
  simp
theorem make_gen (hw : behindMainWord (wordsSigns P.initOrder.toList) = "cut".toList :: rest) : P.make = some Make.cut := by
  unfold Program.make
  rw [hw]
  simp
theorem head_gen {W : List (List Char)} {c : List Char} (h : W.head? = some c) : ∃ rest, W = c :: rest := by
  cases W with
  | nil => cases h
  | cons d rest => exact ⟨rest, by rw [Option.some.inj h]⟩
theorem toL_gen {s : String} {L : List Char} (h : s = String.ofList L) : s.toList = L := by rw [h, String.toList_ofList]
end
section
variable {P : Program} {A : List (List Nat)}
theorem lead_gen (hA : P.funcs.toList.map (fun g => P.leadsTo g) = A) (f : Nat) : (P.funcs[f]?).elim [] P.leadsTo = A.getD f [] := by
  have h : A[f]? = (P.funcs[f]?).map P.leadsTo := by
    rw [← hA, List.getElem?_map, Array.getElem?_toList]
  rw [List.getD_eq_getElem?_getD, h]
  cases P.funcs[f]? <;> rfl
theorem closA_gen (hA : P.funcs.toList.map (fun g => P.leadsTo g) = A) : ∀ (n : Nat) (todo seen : List Nat), P.closureVia n todo seen = closA A n todo seen
  | 0, _, _ => rfl
  | n + 1, [], seen => rfl
  | n + 1, f :: todo, seen => by
    rw [Program.closureVia, closA]
    split
    · exact closA_gen hA n todo seen
    · rw [lead_gen hA]; exact closA_gen hA n _ _
theorem fuel_gen (hA : P.funcs.toList.map (fun g => P.leadsTo g) = A) : (1 + (P.funcs.toList.map fun g => (P.leadsTo g).length + 1).sum) = fuelA A := by
  subst hA
  rw [fuelA, List.map_map]; rfl
theorem closure_gen (hA : P.funcs.toList.map (fun g => P.leadsTo g) = A) (f : Nat) : P.closure f = closA A (fuelA A) [f] [] := by
  rw [Program.closure, fuel_gen hA, closA_gen hA]
theorem recurses_gen (hA : P.funcs.toList.map (fun g => P.leadsTo g) = A) (f : Nat) : P.recurses f = (P.unfollowed f || recA A f) := by
  rw [Program.recurses, recA, closure_gen hA]
  congr 2
  funext g
  rw [lead_gen hA]
  congr 1
  funext h
  rw [closure_gen hA]
theorem recurses_no (hA : P.funcs.toList.map (fun g => P.leadsTo g) = A) {f : Nat} (h1 : (false == P.unfollowed f) = true) (h2 : recA A f = false) : (false == P.recurses f) = true := by
  rw [recurses_gen hA, h2, Bool.or_false]; exact h1
end

def adj : List (List Nat) := [[], [], [1], [22, 22, 24, 24, 23, 24, 24, 25, 24, 26, 24, 26], [22, 24, 27, 24, 28, 24, 26], [22, 24, 29, 24, 30, 31, 24, 26], [32, 33, 26, 34, 35, 33, 26, 35], [36, 37, 26, 34, 35, 37, 26, 35], [22, 24, 38, 24, 39, 24, 26], [22, 24, 40, 24, 41, 24, 26], [22, 24, 42, 24, 43, 44, 24, 26, 34, 44, 45, 46, 24, 43, 44, 46], [22, 24, 47, 24, 48, 24, 26], [22, 24, 49, 24, 50, 44, 24, 26, 34, 44, 45, 46, 24, 50, 44, 46], [22, 24, 51, 24, 52, 24, 26], [22, 24, 53, 24, 54, 26, 24, 26, 34, 26, 34, 35, 24, 54, 26, 35], [22, 24, 55, 24, 56, 26, 24, 26, 34, 26, 34, 35, 24, 56, 26, 35], [57, 58, 43, 49, 41, 59, 48, 39, 52, 60, 60, 61, 37, 39], [22, 24, 62, 24, 63, 44, 24, 26, 34, 44, 45, 46, 24, 63, 44, 46], [65, 64, 65, 66, 44, 65, 44, 45, 44, 45, 46, 65, 66, 44, 46], [65, 67, 65, 68, 65, 44], [69, 70, 44, 45, 46, 70, 44, 46], [72, 65, 71, 65, 72, 73, 31, 65, 44], [74], [], [75], [], [76], [77, 78], [79, 80], [27, 77, 77], [81], [], [77, 77, 82], [79, 83, 85, 84], [87], [88], [82], [86, 89, 89, 89, 89], [27], [28], [27, 90], [28, 60], [27, 40], [28, 41], [], [], [], [42], [28, 41, 41], [27], [28, 41], [49, 40, 40], [28, 50, 41, 41], [27, 91], [28, 92, 84], [27, 94], [28, 95, 84], [], [98, 97], [], [80, 80], [], [27], [28, 99, 99, 66], [67], [], [68], [100], [102, 101], [77, 77, 103], [83, 83], [78, 100, 104], [], [80, 105, 89], [], [72], [31], [], [77, 77, 77], [], [79, 83, 83], [28, 79, 79], [77], [79], [], [86], [83], [], [], [86, 80], [78], [78], [30, 93], [80], [78], [30, 96], [80], [106, 36, 106, 106, 32, 106, 107], [], [], [77], [108], [109], [], [82, 78], [108], [110, 110, 110, 110, 110], [106, 106, 106, 104], [79], [], [], [], [], [], [], [], [], [], [], [], [], [], [], [], [], [], []]
theorem mapsRowedP : mapsRowed Try.prog = true := by kernel_rfl
theorem stopsP : (Try.prog.stops == []) = true := by kernel_rfl
theorem knobsP : (Try.prog.stopKnobs == []) = true := by kernel_rfl
def codes : List Nat := [104, 97, 114, 110, 101, 115, 115, 32, 49, 50, 98, 50, 100, 102, 53, 54, 101, 97, 101, 98, 48, 101, 52, 49, 98, 51, 49, 52, 51, 54, 54, 102, 101, 101, 99, 101, 54, 49, 56, 54, 54, 54, 53, 54, 49, 50, 102, 51, 51, 51, 102, 101, 99, 100, 99, 51, 51, 49, 56, 50, 54, 102, 98, 50, 54, 102, 55, 102, 50, 98, 100, 48, 32, 99, 117, 116, 32, 97, 116, 32, 108, 111, 111, 112, 46, 101, 120, 97, 109, 112, 108, 101, 47, 103, 48, 51, 51, 48, 52, 47, 108, 97, 119, 115, 46, 70, 110, 69, 120, 97, 99, 116, 83, 97, 109, 101, 66, 108, 111, 99, 107, 32, 108, 111, 111, 112, 46, 101, 120, 97, 109, 112, 108, 101, 47, 103, 48, 51, 51, 48, 52, 47, 108, 97, 119, 115, 46, 70, 110, 69, 120, 97, 99, 116, 66, 108, 111, 99, 107, 79, 107, 32, 108, 111, 111, 112, 46, 101, 120, 97, 109, 112, 108, 101, 47, 103, 48, 51, 51, 48, 52, 47, 108, 97, 119, 115, 46, 70, 110, 69, 120, 97, 99, 116, 67, 101, 108, 108, 65, 116, 32, 108, 111, 111, 112, 46, 101, 120, 97, 109, 112, 108, 101, 47, 103, 48, 51, 51, 48, 52, 47, 108, 97, 119, 115, 46, 70, 110, 69, 120, 97, 99, 116, 80, 108, 97, 105, 110, 66, 108, 111, 99, 107, 32, 108, 111, 111, 112, 46, 101, 120, 97, 109, 112, 108, 101, 47, 103, 48, 51, 51, 48, 52, 47, 108, 97, 119, 115, 46, 70, 110, 69, 120, 97, 99, 116, 83, 116, 97, 114, 66, 108, 111, 99, 107, 32, 108, 111, 111, 112, 46, 101, 120, 97, 109, 112, 108, 101, 47, 103, 48, 51, 51, 48, 52, 47, 108, 97, 119, 115, 46, 70, 110, 69, 120, 97, 99, 116, 67, 111, 117, 110, 116, 84, 114, 105, 97, 110, 103, 108, 101, 115, 32, 108, 111, 111, 112, 46, 101, 120, 97, 109, 112, 108, 101, 47, 103, 48, 51, 51, 48, 52, 47, 108, 97, 119, 115, 46, 70, 110, 69, 120, 97, 99, 116, 65, 114, 101, 97, 79, 102, 32, 108, 111, 111, 112, 46, 101, 120, 97, 109, 112, 108, 101, 47, 103, 48, 51, 51, 48, 52, 47, 108, 97, 119, 115, 46, 70, 110, 69, 120, 97, 99, 116, 65, 114, 101, 97, 84, 97, 98, 108, 101, 32, 108, 111, 111, 112, 46, 101, 120, 97, 109, 112, 108, 101, 47, 103, 48, 51, 51, 48, 52, 47, 108, 97, 119, 115, 46, 70, 110, 69, 120, 97, 99, 116, 77, 97, 105, 110, 67, 111, 108, 111, 114, 32, 108, 111, 111, 112, 46, 101, 120, 97, 109, 112, 108, 101, 47, 103, 48, 51, 51, 48, 52, 47, 108, 97, 119, 115, 46, 70, 110, 69, 120, 97, 99, 116, 67, 111, 108, 111, 114, 115, 79, 102, 32, 108, 111, 111, 112, 46, 101, 120, 97, 109, 112, 108, 101, 47, 103, 48, 51, 51, 48, 52, 47, 108, 97, 119, 115, 46, 70, 110, 69, 120, 97, 99, 116, 73, 115, 66, 97, 108, 97, 110, 99, 101, 100, 32, 108, 111, 111, 112, 46, 101, 120, 97, 109, 112, 108, 101, 47, 103, 48, 51, 51, 48, 52, 47, 108, 97, 119, 115, 46, 70, 110, 69, 120, 97, 99, 116, 77, 105, 114, 114, 111, 114, 66, 108, 111, 99, 107, 32, 108, 111, 111, 112, 46, 101, 120, 97, 109, 112, 108, 101, 47, 103, 48, 51, 51, 48, 52, 47, 108, 97, 119, 115, 46, 70, 110, 69, 120, 97, 99, 116, 84, 117, 114, 110, 66, 108, 111, 99, 107, 32, 108, 111, 111, 112, 46, 101, 120, 97, 109, 112, 108, 101, 47, 103, 48, 51, 51, 48, 52, 47, 108, 97, 119, 115, 46, 70, 110, 65, 114, 101, 97, 115, 32, 108, 111, 111, 112, 46, 101, 120, 97, 109, 112, 108, 101, 47, 103, 48, 51, 51, 48, 52, 47, 108, 97, 119, 115, 46, 70, 110, 69, 120, 97, 99, 116, 70, 105, 114, 115, 116, 85, 115, 101, 32, 108, 111, 111, 112, 46, 101, 120, 97, 109, 112, 108, 101, 47, 103, 48, 51, 51, 48, 52, 47, 108, 97, 119, 115, 46, 70, 110, 69, 120, 97, 99, 116, 85, 110, 100, 111, 76, 105, 115, 116, 32, 108, 111, 111, 112, 46, 101, 120, 97, 109, 112, 108, 101, 47, 103, 48, 51, 51, 48, 52, 47, 108, 97, 119, 115, 46, 70, 110, 69, 120, 97, 99, 116, 73, 115, 69, 120, 99, 104, 97, 110, 103, 101, 32, 108, 111, 111, 112, 46, 101, 120, 97, 109, 112, 108, 101, 47, 103, 48, 51, 51, 48, 52, 47, 108, 97, 119, 115, 46, 70, 110, 69, 120, 97, 99, 116, 83, 119, 97, 112, 76, 105, 115, 116, 32, 108, 111, 111, 112, 46, 101, 120, 97, 109, 112, 108, 101, 47, 103, 48, 51, 51, 48, 52, 47, 108, 97, 119, 115, 46, 70, 110, 69, 120, 97, 99, 116, 69, 120, 99, 104, 97, 110, 103, 101, 67, 101, 108, 108]
theorem initOrder_eq : Try.prog.initOrder = String.ofList (codes.map Char.ofNat) := by kernel_rfl
theorem laysP : Try.prog.laysLater = false := by kernel_rfl
theorem reflP : Try.prog.bearsReflect = false := by kernel_rfl
theorem doorsP : Try.prog.doorRows = [] := by kernel_rfl
theorem liftsP : (stripLifts liftWords (behindMainWord (wordsSigns (codes.map Char.ofNat)))).1 = [] := by kernel_rfl
theorem cutP : (stripLifts liftWords (behindMainWord (wordsSigns (codes.map Char.ofNat)))).2.head? = some "cut".toList := by kernel_rfl
theorem headP : (behindMainWord (wordsSigns (codes.map Char.ofNat))).head? = some "cut".toList := by kernel_rfl
theorem doorFitsP : Try.prog.doorFits [] = true := by unfold Program.doorFits; rw [doorsP]; rfl
theorem wordsP : ∃ rest, behindMainWord (wordsSigns Try.prog.initOrder.toList) = "cut".toList :: rest ∧ (stripLifts liftWords ("cut".toList :: rest)).1 = [] ∧ (stripLifts liftWords ("cut".toList :: rest)).2.head? = some "cut".toList := by
  obtain ⟨rest, h⟩ := head_gen headP
  exact ⟨rest, by rw [toL_gen initOrder_eq]; exact h, by rw [← h]; exact liftsP, by rw [← h]; exact cutP⟩
theorem mayEnterP : Try.prog.mayEnter = true := by
  obtain ⟨rest, h, h4, h5⟩ := wordsP
  exact mayEnter_gen h h4 h5 laysP reflP doorFitsP
theorem liftsFinalP : (false == Try.prog.liftsFinal) = true := by
  obtain ⟨rest, h, h4, h5⟩ := wordsP
  rw [liftsFinal_gen h h4]; rfl
theorem makeP : (Try.prog.make == some Make.cut) = true := by
  obtain ⟨rest, h, h4, h5⟩ := wordsP
  rw [make_gen h]; rfl
theorem stopsHeardP : Try.prog.stopsHeard = true := by kernel_rfl
theorem plainKeysP : (true == Try.prog.plainKeys) = true := by kernel_rfl
theorem adj_eq : Try.prog.funcs.toList.map (fun g => Try.prog.leadsTo g) = adj := by kernel_rfl
end Go.Proofs.Ytjjdkbkmjjfnoaa
