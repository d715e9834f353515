/- Walks of the small functions on cells: what each returns, said of plain numbers. No conditions but the types' own. -/
import Derived.Test.YteoddpdjhkbaiaaRows
import Derived.WalkKit
import Derived.WalkSpells
import Derived.WalkLawsBesides
import Derived.Deep.QuietTactic
import Derived.BigQuiet
import Derived.Handy
import Derived.Deep.Light
set_option linter.unusedSimpArgs false
set_option linter.unusedVariables false
namespace Go.Proofs.Yteoddpdjhkbaiaa
open Go.RowKit

theorem bcell {W w1 : World} (hb : Below W.heap.size W w1) {b : Nat} (h : b < W.heap.size) : (∀ o, w1.cell? ⟨b, o, none⟩ = W.cell? ⟨b, o, none⟩) ∧ (∀ o, w1.frozen? ⟨b, o, none⟩ = W.frozen? ⟨b, o, none⟩) ∧ b < w1.heap.size :=
  ⟨fun o => hb.cell (p := ⟨b, o, none⟩) h, fun o => hb.frozen (p := ⟨b, o, none⟩) h, Nat.lt_of_lt_of_le h hb.size⟩
theorem bsize {W w1 : World} (hb : Below W.heap.size W w1) : W.heap.size ≤ w1.heap.size := hb.size
theorem lt2 (n : Nat) : n < n + 1 + 1 := by omega
theorem lt3 (n : Nat) : n < n + 1 + 1 + 1 := by omega

def inB (x a b : Int) : Bool := decide (a ≤ x ∧ x ≤ b)
theorem inB_t {x a b : Int} (h1 : a ≤ x) (h2 : x ≤ b) : inB x a b = true := by simp [inB, h1, h2]
theorem inB_f1 {x a b : Int} (h1 : x < a) : inB x a b = false := by simp [inB]; omega
theorem inB_f2 {x a b : Int} (h1 : b < x) : inB x a b = false := by simp [inB]; omega

theorem ret_bool {a b : Bool} (h : a = b) : Ending.returned (.bool a) = .returned (.bool b) := by rw [h]
theorem ret_int {k : IntKind} {a b : Int} (h : a = b) : Ending.returned (.int k a) = .returned (.int k b) := by rw [h]




/-- a cell is one -/
def cOk (s a b : Int) : Bool := inB s 0 2 && inB a 0 5 && inB b 0 5 && ((s == 0) == (a == b))

theorem cOk_t {s a b : Int} (h : cOk s a b = true) : 0 ≤ s ∧ s ≤ 2 ∧ 0 ≤ a ∧ a ≤ 5 ∧ 0 ≤ b ∧ b ≤ 5 ∧ (s = 0 ↔ a = b) := by
  simp only [cOk, inB, Bool.and_eq_true, decide_eq_true_eq, beq_iff_eq] at h
  obtain ⟨⟨⟨⟨h1, h2⟩, h3, h4⟩, h5, h6⟩, h7⟩ := h
  refine ⟨h1, h2, h3, h4, h5, h6, ?_⟩
  rw [Bool.eq_iff_iff] at h7
  simpa using h7

/-- a cell -/
structure C where
  s : Int
  a : Int
  b : Int

def wholeC (a : Int) : C := if inB a 0 5 then ⟨0, a, a⟩ else ⟨0, 0, 0⟩
def splitC (s a b : Int) : C := if a = b then wholeC a else if cOk s a b then ⟨s, a, b⟩ else ⟨0, 0, 0⟩
def colorC (s a b k : Int) : Int := if cOk s a b && inB k 0 3 then (if k = 0 ∨ (k = 1 ∧ s = 1) ∨ (k = 3 ∧ s = 2) then a else b) else -1
def areaC (s a b k : Int) : Int := if cOk s a b then (if a = k then 2 else 0) + (if b = k then 2 else 0) else 0
def mirrorC (s a b : Int) : C := if cOk s a b then (if s = 0 then ⟨s, a, b⟩ else ⟨3 - s, b, a⟩) else ⟨0, 0, 0⟩
def turnC (s a b : Int) : C := if cOk s a b then (if s = 1 then ⟨2, b, a⟩ else if s = 2 then ⟨1, a, b⟩ else ⟨s, a, b⟩) else ⟨0, 0, 0⟩
def cEq (s a b s' a' b' : Int) : Bool := s == s' && a == a' && b == b'

theorem ret_cell {x y z : Int} {c : C} (h : (⟨x, y, z⟩ : C) = c) : Ending.returned (.agg #[.int .i64 x, .int .i64 y, .int .i64 z]) = .returned (.agg #[.int .i64 c.s, .int .i64 c.a, .int .i64 c.b]) := by subst h; rfl









theorem mirror_fin {s a b : Int} (h1 : (!cOk s a b) = false) (h2 : (s == 0) = false) : (⟨wrap64 (3 - s), b, a⟩ : C) = mirrorC s a b := by
  have h3 : cOk s a b = true := by simpa using h1
  have h4 := cOk_t h3
  rw [IntWalk.wrap64_in (3 - s) (by omega)]
  simp_all [mirrorC]











end Go.Proofs.Yteoddpdjhkbaiaa
