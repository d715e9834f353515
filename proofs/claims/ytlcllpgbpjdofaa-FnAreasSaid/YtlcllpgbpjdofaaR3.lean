/- How arguments that are slices of bytes are opened. No condition. -/
import Derived.Test.YtlcllpgbpjdofaaD
import Derived.Test.YtlcllpgbpjdofaaR0
import Derived.OpenShut
set_option linter.unusedSimpArgs false
set_option linter.unusedVariables false
set_option maxRecDepth 100000
namespace Go.Proofs.Ytlcllpgbpjdofaa
open Go.ChangeShapes Go.WideShapes Go.ChangeAt Go.RowKit Go.Joins Go.Deep
section
variable {H : Type} {enc : TypeId × Value → H} {W : World} {base : Nat} {v : Value} {d : DataW H} {p : List MemPlace}
/-- an argument of the type []byte -/
def ArgB (w : World) (A : Option Addr) (n : Nat) : Prop := n ≤ maxLen ∧ (n ≤ 2097152 → RdB w w.heap.size A n)
theorem openBytes (hv : Value.okWide Try.prog W .any base 22 v) (h : DataW.Trod enc Try.prog W 0 (fun _ => true) true 22 v d p) : ∃ A n c, v = .slice A n c ∧ ArgB W A n := by
  obtain ⟨a0, len, cap, rfl⟩ := okWide_slice Try.underlying22 hv
  obtain ⟨fuel, hf⟩ := h
  rcases open_ints Try.underlying22 Try.underlying5 (by kernel_rfl) hf with ⟨hcs, _⟩ | ⟨x, l, c, zs, hcs, _, hl, hm, hz, _, hcell, hwz⟩
  · simp [Value.cells] at hcs
    obtain ⟨rfl, rfl, rfl⟩ := hcs
    exact ⟨none, 0, 0, rfl, by unfold maxLen; omega, fun _ => ⟨by omega, fun h => absurd h (by omega)⟩⟩
  · simp [Value.cells] at hcs
    obtain ⟨rfl, rfl, rfl⟩ := hcs
    refine ⟨some x, len, cap, rfl, by omega, fun hn => ⟨hn, fun h0 => ?_⟩⟩
    have hz' : zs.length = cap := by simpa using hz
    have hc0 := hcell 0 (by omega)
    rw [show x.add 0 = x from by simp [Addr.add]] at hc0
    have hx := at_none hc0
    refine ⟨x.block, x.off, congrArg some hx, World.block_lt_of_cell? W x hc0, fun k hk => ?_⟩
    have hc := hcell k (by omega)
    have he : x.add k = ⟨x.block, x.off + k, none⟩ := by
      rw [hx]
      unfold Addr.add
      by_cases h0 : k = 0 <;> simp [h0]
    rw [he] at hc
    have hb := bounds_u8 (hwz (zs.getD k 0) (by simp [List.getD, List.getElem?_eq_getElem (show k < zs.length by omega)]))
    exact ⟨_, hb.1, by omega, hc⟩
end
end Go.Proofs.Ytlcllpgbpjdofaa
