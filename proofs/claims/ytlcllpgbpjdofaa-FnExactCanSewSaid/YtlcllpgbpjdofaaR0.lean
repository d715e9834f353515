/- How the arguments of the laws are opened: each value as numbers, strings and rows of cells. No condition. -/
import Derived.Test.YtlcllpgbpjdofaaRows
import Derived.Test.YtlcllpgbpjdofaaI
import Derived.WalkKit
import Derived.ProofKit
import Derived.OpenShut
import Derived.ShutString
import Derived.ChangeOld
import Derived.Below
import Derived.Carry
import Derived.Lib.SmallJoins
import Derived.Deep.Slices
import Derived.Deep.Fields
import Derived.ChangeSame
set_option linter.unusedSimpArgs false
set_option linter.unusedVariables false
set_option maxRecDepth 100000
namespace Go.Proofs.Ytlcllpgbpjdofaa
open Go.ChangeShapes Go.WideShapes Go.ChangeAt Go.RowKit Go.Joins Go.Deep
open Go.ChangeMaps (open_string shut_string)

theorem ownKnobs : ownKnob Try.prog.godebug = none := by kernel_rfl
theorem laidOutP : laidOutB Try.prog = true := by kernel_rfl

/-- a number fits int -/
def I64 (a : Int) : Prop := (Lit.int .i64 a).wf = true

section
variable {H : Type} {enc : TypeId × Value → H} {W : World} {base : Nat} {v : Value} {d : DataW H} {p : List MemPlace}

theorem openInt (hv : Value.okWide Try.prog W .any base 3 v) (h : DataW.Trod enc Try.prog W 0 (fun _ => true) true 3 v d p) : ∃ a, v = .int .i64 a ∧ I64 a := by
  obtain ⟨a, rfl, _, _, wa⟩ := open_int Try.underlying3 hv h
  exact ⟨a, rfl, wa⟩

theorem openStr (hv : Value.okWide Try.prog W .any base 9 v) (h : DataW.Trod enc Try.prog W 0 (fun _ => true) true 9 v d p) : ∃ s, v = .string s ∧ s.size ≤ maxLen := by
  obtain ⟨a, rfl, _, _, wa⟩ := open_string Try.underlying9 hv h
  exact ⟨a, rfl, wa⟩

theorem openCell (hv : Value.okWide Try.prog W .any base 126 v) (h : DataW.Trod enc Try.prog W 0 (fun _ => true) true 126 v d p) : ∃ s a b, v = .agg #[.int .i64 s, .int .i64 a, .int .i64 b] ∧ I64 s ∧ I64 a ∧ I64 b := by
  obtain ⟨c0, c1, c2, y0, y1, y2, m, rfl, _, _, hy0, hy1, hy2⟩ := open_agg3 Try.underlying126 (by kernel_rfl) (by kernel_rfl) hv h
  obtain ⟨a0, e0, _, wa0⟩ := DataW.trod_int Try.underlying3 hy0
  obtain ⟨a1, e1, _, wa1⟩ := DataW.trod_int Try.underlying3 hy1
  obtain ⟨a2, e2, _, wa2⟩ := DataW.trod_int Try.underlying3 hy2
  simp only [List.cons.injEq, and_true] at e0 e1 e2
  subst e0 e1 e2
  exact ⟨a0, a1, a2, rfl, wa0, wa1, wa2⟩

/-- an argument of the type []int: it reads as the list xs -/
def ArgI (w : World) (A : Option Addr) (n : Nat) (xs : List Int) : Prop := n ≤ maxLen ∧ (n ≤ 2097152 → RdI w w.heap.size A n xs)

theorem at_none {w : World} {x : Addr} {v : Value} (h : w.cell? x = some v) : x = ⟨x.block, x.off, none⟩ := by
  have := World.cell?_spot h
  cases x; simp_all

theorem openInts (hv : Value.okWide Try.prog W .any base 31 v) (h : DataW.Trod enc Try.prog W 0 (fun _ => true) true 31 v d p) : ∃ A n c xs, v = .slice A n c ∧ ArgI W A n xs := by
  obtain ⟨a0, len, cap, rfl⟩ := okWide_slice Try.underlying31 hv
  obtain ⟨fuel, hf⟩ := h
  rcases open_ints Try.underlying31 Try.underlying3 (by kernel_rfl) hf with ⟨hcs, _⟩ | ⟨x, l, c, zs, hcs, _, hl, hm, hz, _, hcell, hwz⟩
  · simp [Value.cells] at hcs
    obtain ⟨rfl, rfl, rfl⟩ := hcs
    exact ⟨none, 0, 0, [], rfl, by unfold maxLen; omega, fun _ => ⟨rfl, by omega, fun h => absurd h (by omega)⟩⟩
  · simp [Value.cells] at hcs
    obtain ⟨rfl, rfl, rfl⟩ := hcs
    refine ⟨some x, len, cap, zs.take len, rfl, by omega, fun hn => ⟨by simp at hz; simp; omega, hn, fun h0 => ?_⟩⟩
    have hz' : zs.length = cap := by simpa using hz
    have hc0 := hcell 0 (by omega)
    rw [show x.add 0 = x from by simp [Addr.add]] at hc0
    have hx := at_none hc0
    refine ⟨x.block, x.off, congrArg some hx, World.block_lt_of_cell? W x hc0, fun k hk => ?_⟩
    have hc := hcell k (by omega)
    have he : x.add k = ⟨x.block, x.off + k, none⟩ := by
      rw [hx]
      unfold Addr.add
      by_cases h0 : k = 0 <;> simp [h0]
    rw [he] at hc
    rw [hc, ith_get (by simp; omega)]
    simp [List.getD, List.getElem?_eq_getElem (show k < zs.length by omega)]

end
end Go.Proofs.Ytlcllpgbpjdofaa
