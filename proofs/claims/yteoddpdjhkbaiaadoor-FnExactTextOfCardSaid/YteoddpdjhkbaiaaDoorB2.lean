/- Walks of the functions on blocks, both sides. -/
import Derived.Test.YteoddpdjhkbaiaaDoorB
import Derived.Test.YteoddpdjhkbaiaaDoorC
import Derived.Test.YteoddpdjhkbaiaaDoorR0
set_option linter.unusedSimpArgs false
set_option linter.unusedVariables false
set_option maxRecDepth 100000
namespace Go.Proofs.YteoddpdjhkbaiaaDoor
open Go.RowKit


/-- the sum of f over the first k cells -/
def sumTo (f : C → Int) (cs : List C) (k : Nat) : Int := ((cs.take k).map f).sum
theorem sumTo_succ (f : C → Int) (cs : List C) (k : Nat) (h : k < cs.length) : sumTo f cs (k + 1) = sumTo f cs k + f (cith cs k) := by
  unfold sumTo
  rw [List.take_succ_eq_append_getElem h, List.map_append, List.sum_append, cith_get h]; simp
theorem sumTo_zero (f : C → Int) (cs : List C) : sumTo f cs 0 = 0 := by simp [sumTo]
def triF (c : C) : Int := if c.s = 0 then 0 else 2
def areaF (a : Int) (c : C) : Int := areaC c.s c.a c.b a
theorem areaC_bd (s a b k : Int) : 0 ≤ areaC s a b k ∧ areaC s a b k ≤ 4 := by unfold areaC; split <;> (try split) <;> (try split) <;> omega
def triB (z : Int) (xs : List C) : Int := if bOk z xs then sumTo triF xs xs.length else -1
def areaB (z : Int) (xs : List C) (a : Int) : Int := if bOk z xs then sumTo (areaF a) xs xs.length else 0
theorem bOk_len {z : Int} {xs : List C} {n : Nat} (h : bOk z xs = true) (hn : xs.length = n) : n ≤ 16 := by
  obtain ⟨h1, h2, h3, _⟩ := bOk_size h
  have hz : z = 1 ∨ z = 2 ∨ z = 3 ∨ z = 4 := by omega
  rw [hn] at h3
  rcases hz with rfl | rfl | rfl | rfl <;> omega




end Go.Proofs.YteoddpdjhkbaiaaDoor
