/- Which function of the translation leads to which, as a plain list; what the row's closed facts ask of it. Lean checks the list against the program. -/
import Derived.Test.YteoddpdjhkbaiaaRows
import Derived.JoinedOf
import Derived.ProofKit
set_option linter.unusedVariables false
namespace Go.Proofs.Yteoddpdjhkbaiaa
open Go

def closA (A : List (List Nat)) : Nat → List Nat → List Nat → List Nat
  | 0, _, seen => seen.reverse
  | _, [], seen => seen.reverse
  | n + 1, f :: todo, seen => if seen.contains f then closA A n todo seen else closA A n (A.getD f [] ++ todo) (f :: seen)
def fuelA (A : List (List Nat)) : Nat := 1 + (A.map fun l => l.length + 1).sum
def recA (A : List (List Nat)) (f : Nat) : Bool := (closA A (fuelA A) [f] []).any fun g => (A.getD g []).any fun h => (closA A (fuelA A) [h] []).contains g
section
variable {P : Program} {rest : List (List Char)}
theorem mayEnter_gen (hw : behindMainWord (wordsSigns P.initOrder.toList) = "cut".toList :: rest) (h4 : (stripLifts liftWords ("cut".toList :: rest)).1 = [])
    (h5 : (stripLifts liftWords ("cut".toList :: rest)).2.head? = some "cut".toList) (hl : P.laysLater = false) (hr : P.bearsReflect = false) (hd : P.doorFits [] = true) : P.mayEnter = true := by
  unfold Program.mayEnter
  rw [hw]
  simp only [h4, h5, hl, hr, hd]
  simp
theorem headLifts_gen (hw : behindMainWord (wordsSigns P.initOrder.toList) = "cut".toList :: rest) (h4 : (stripLifts liftWords ("cut".toList :: rest)).1 = []) : P.headLifts = [] := by
  unfold Program.headLifts
  rw [hw]
  simp only [h4]
  split <;> rfl
theorem liftsFinal_gen (hw : behindMainWord (wordsSigns P.initOrder.toList) = "cut".toList :: rest) (h4 : (stripLifts liftWords ("cut".toList :: rest)).1 = []) : P.liftsFinal = false := by
  unfold Program.liftsFinal
  rw [headLifts_gen hw h4, hw]
  simp
theorem make_gen (hw : behindMainWord (wordsSigns P.initOrder.toList) = "cut".toList :: rest) : P.make = some Make.cut := by
  unfold Program.make
  rw [hw]
  simp
theorem head_gen {W : List (List Char)} {c : List Char} (h : W.head? = some c) : ∃ rest, W = c :: rest := by
  cases W with
  | nil => cases h
  | cons d rest => exact ⟨rest, by rw [Option.some.inj h]⟩
theorem toL_gen {s : String} {L : List Char} (h : s = String.ofList L) : s.toList = L := by rw [h, String.toList_ofList]
end
section
variable {P : Program} {A : List (List Nat)}
theorem lead_gen (hA : P.funcs.toList.map (fun g => P.leadsTo g) = A) (f : Nat) : (P.funcs[f]?).elim [] P.leadsTo = A.getD f [] := by
  have h : A[f]? = (P.funcs[f]?).map P.leadsTo := by
    rw [← hA, List.getElem?_map, Array.getElem?_toList]
  rw [List.getD_eq_getElem?_getD, h]
  cases P.funcs[f]? <;> rfl
theorem closA_gen (hA : P.funcs.toList.map (fun g => P.leadsTo g) = A) : ∀ (n : Nat) (todo seen : List Nat), P.closureVia n todo seen = closA A n todo seen
  | 0, _, _ => rfl
  | n + 1, [], seen => rfl
  | n + 1, f :: todo, seen => by
    rw [Program.closureVia, closA]
    split
    · exact closA_gen hA n todo seen
    · rw [lead_gen hA]; exact closA_gen hA n _ _
theorem fuel_gen (hA : P.funcs.toList.map (fun g => P.leadsTo g) = A) : (1 + (P.funcs.toList.map fun g => (P.leadsTo g).length + 1).sum) = fuelA A := by
  subst hA
  rw [fuelA, List.map_map]; rfl
theorem closure_gen (hA : P.funcs.toList.map (fun g => P.leadsTo g) = A) (f : Nat) : P.closure f = closA A (fuelA A) [f] [] := by
  rw [Program.closure, fuel_gen hA, closA_gen hA]
theorem recurses_gen (hA : P.funcs.toList.map (fun g => P.leadsTo g) = A) (f : Nat) : P.recurses f = (P.unfollowed f || recA A f) := by
  rw [Program.recurses, recA, closure_gen hA]
  congr 2
  funext g
  rw [lead_gen hA]
  congr 1
  funext h
  rw [closure_gen hA]
theorem recurses_no (hA : P.funcs.toList.map (fun g => P.leadsTo g) = A) {f : Nat} (h1 : (false == P.unfollowed f) = true) (h2 : recA A f = false) : (false == P.recurses f) = true := by
  rw [recurses_gen hA, h2, Bool.or_false]; exact h1
end

def adj : List (List Nat) := [[], [], [1], [6, 7], [8, 9], [10, 11, 12, 13, 14, 11, 12, 14], [15, 15], [], [16, 16], [17, 17], [], [], [], [18], [18], [], [], [19], [], [20], [], [], [], [], [], [], [], [], [], [], [], [], [], [], [], [], []]
theorem mapsRowedP : mapsRowed Try.prog = true := by kernel_rfl
theorem stopsP : (Try.prog.stops == []) = true := by kernel_rfl
theorem knobsP : (Try.prog.stopKnobs == []) = true := by kernel_rfl
def codes : List Nat := [104, 97, 114, 110, 101, 115, 115, 32, 55, 98, 51, 97, 101, 97, 101, 48, 54, 99, 49, 99, 52, 97, 52, 102, 56, 52, 49, 101, 102, 99, 102, 101, 48, 100, 54, 51, 52, 101, 53, 98, 54, 57, 99, 99, 55, 56, 50, 49, 56, 57, 97, 52, 55, 56, 54, 51, 55, 53, 102, 100, 52, 102, 50, 51, 50, 55, 53, 97, 57, 55, 99, 49, 32, 99, 117, 116, 32, 97, 116, 32, 108, 111, 111, 112, 46, 101, 120, 97, 109, 112, 108, 101, 47, 103, 48, 51, 51, 48, 52, 47, 108, 97, 119, 115, 46, 70, 110, 69, 120, 97, 99, 116, 69, 110, 99, 111, 100, 101, 72, 101, 120, 32, 108, 111, 111, 112, 46, 101, 120, 97, 109, 112, 108, 101, 47, 103, 48, 51, 51, 48, 52, 47, 108, 97, 119, 115, 46, 70, 110, 69, 120, 97, 99, 116, 68, 101, 99, 111, 100, 101, 72, 101, 120, 32, 108, 111, 111, 112, 46, 101, 120, 97, 109, 112, 108, 101, 47, 103, 48, 51, 51, 48, 52, 47, 108, 97, 119, 115, 46, 70, 110, 69, 120, 97, 99, 116, 83, 112, 108, 105, 116, 70, 105, 101, 108, 100, 115]
theorem initOrder_eq : Try.prog.initOrder = String.ofList (codes.map Char.ofNat) := by kernel_rfl
theorem laysP : Try.prog.laysLater = false := by kernel_rfl
theorem reflP : Try.prog.bearsReflect = false := by kernel_rfl
theorem doorsP : Try.prog.doorRows = [] := by kernel_rfl
theorem liftsP : (stripLifts liftWords (behindMainWord (wordsSigns (codes.map Char.ofNat)))).1 = [] := by kernel_rfl
theorem cutP : (stripLifts liftWords (behindMainWord (wordsSigns (codes.map Char.ofNat)))).2.head? = some "cut".toList := by kernel_rfl
theorem headP : (behindMainWord (wordsSigns (codes.map Char.ofNat))).head? = some "cut".toList := by kernel_rfl
theorem doorFitsP : Try.prog.doorFits [] = true := by unfold Program.doorFits; rw [doorsP]; rfl
theorem wordsP : ∃ rest, behindMainWord (wordsSigns Try.prog.initOrder.toList) = "cut".toList :: rest ∧ (stripLifts liftWords ("cut".toList :: rest)).1 = [] ∧ (stripLifts liftWords ("cut".toList :: rest)).2.head? = some "cut".toList := by
  obtain ⟨rest, h⟩ := head_gen headP
  exact ⟨rest, by rw [toL_gen initOrder_eq]; exact h, by rw [← h]; exact liftsP, by rw [← h]; exact cutP⟩
theorem mayEnterP : Try.prog.mayEnter = true := by
  obtain ⟨rest, h, h4, h5⟩ := wordsP
  exact mayEnter_gen h h4 h5 laysP reflP doorFitsP
theorem liftsFinalP : (false == Try.prog.liftsFinal) = true := by
  obtain ⟨rest, h, h4, h5⟩ := wordsP
  rw [liftsFinal_gen h h4]; rfl
theorem makeP : (Try.prog.make == some Make.cut) = true := by
  obtain ⟨rest, h, h4, h5⟩ := wordsP
  rw [make_gen h]; rfl
theorem stopsHeardP : Try.prog.stopsHeard = true := by kernel_rfl
theorem plainKeysP : (true == Try.prog.plainKeys) = true := by kernel_rfl
theorem adj_eq : Try.prog.funcs.toList.map (fun g => Try.prog.leadsTo g) = adj := by kernel_rfl
end Go.Proofs.Yteoddpdjhkbaiaa
