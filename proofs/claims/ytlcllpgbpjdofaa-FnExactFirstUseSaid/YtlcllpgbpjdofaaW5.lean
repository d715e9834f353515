/- InverseOf and IsClosed: walks of both sides and of the laws. No condition. -/
import Derived.Test.YtlcllpgbpjdofaaQ
import Derived.Test.YtlcllpgbpjdofaaW2
set_option linter.unusedSimpArgs false
set_option linter.unusedVariables false
set_option maxRecDepth 100000
namespace Go.Proofs.Ytlcllpgbpjdofaa
open Go.RowKit

def invZ (k : Int) : Int := match (List.range 8).find? (fun (m : Nat) => prodZ k m == 0) with | some m => (m : Int) | none => -1
theorem invZ_hit {k : Int} {m : Nat} (hm : m < 8) (h1 : ∀ j, j < m → prodZ k j ≠ 0) (h2 : prodZ k m = 0) : invZ k = m := by
  unfold invZ
  have e : (List.range 8).find? (fun (m : Nat) => prodZ k m == 0) = some m := by
    rw [List.find?_range_eq_some]
    refine ⟨by simpa using h2, by simpa using hm, fun j hj => ?_⟩
    simpa using h1 j hj
  rw [e]
theorem invZ_none {k : Int} (h1 : ∀ j, j < 8 → prodZ k (j : Nat) ≠ 0) : invZ k = -1 := by
  unfold invZ
  have e : (List.range 8).find? (fun (m : Nat) => prodZ k m == 0) = none := by
    rw [List.find?_range_eq_none]
    intro j hj
    simpa using h1 j hj
  rw [e]





def idxI (xs : List Int) (y : Int) : Int := match (List.range xs.length).find? (fun (m : Nat) => ith xs m == y) with | some m => (m : Int) | none => -1
theorem idxI_hit {xs : List Int} {y : Int} {m : Nat} (hm : m < xs.length) (h1 : ∀ j, j < m → ith xs j ≠ y) (h2 : ith xs m = y) : idxI xs y = m := by
  unfold idxI
  have e : (List.range xs.length).find? (fun (m : Nat) => ith xs m == y) = some m := by
    rw [List.find?_range_eq_some]
    refine ⟨by simpa using h2, by simpa using hm, fun j hj => ?_⟩
    simpa using h1 j hj
  rw [e]
theorem idxI_none {xs : List Int} {y : Int} (h1 : ∀ j, j < xs.length → ith xs j ≠ y) : idxI xs y = -1 := by
  unfold idxI
  have e : (List.range xs.length).find? (fun (m : Nat) => ith xs m == y) = none := by
    rw [List.find?_range_eq_none]
    intro j hj
    simpa using h1 j hj
  rw [e]
theorem idxI_neg {xs : List Int} {y : Int} : idxI xs y < 0 ↔ ∀ j, j < xs.length → ith xs j ≠ y := by
  constructor
  · intro h j hj e
    unfold idxI at h
    cases hf : (List.range xs.length).find? (fun (m : Nat) => ith xs m == y) with
    | none =>
      rw [List.find?_range_eq_none] at hf
      have := hf j hj
      simp at this
      exact this e
    | some m => rw [hf] at h; simp at h; omega
  · intro h; rw [idxI_none h]; omega
set_option maxHeartbeats 400000 in
theorem impl_indexOf (A : Option Addr) (n c : Nat) (xs : List Int) (y : Int) (w : World) (h : RdI w w.heap.size A n xs) :
    Calls Try.prog 91 #[.slice A n c, .int .i64 y] w fun e w' => e = .returned (.int .i64 (idxI xs y)) ∧ w = w' := by
  have hle := h.le
  have H := Lib.hid h
  clear h
  go_enter Try.func91, Try.ntmps91
  go_wp2
  go_loop [9] (fun i => ∃ k : Nat, k ≤ n ∧ i = .int .i64 k ∧ Hid (∀ j, j < k → ith xs j ≠ y)) (fun i => n - (intOf i).toNat)
  case atStart => exact ⟨0, Nat.zero_le _, rfl, fun j hj => absurd hj (by omega)⟩
  case round =>
    obtain ⟨k, hk, rfl, hp⟩ := hrel
    by_cases hlt : k < n
    · obtain ⟨g, off, rfl, hc⟩ := H.out.at_ hlt
      by_cases hz : ith xs k = y
      · have HZ := Lib.hid hz
        have hq : (ith xs k == y) = true := by simpa using hz
        clear hz
        go_wp2
        go_ret
        exact ⟨ret_int (idxI_hit (by rw [H.out.1]; exact hlt) hp.out HZ.out).symm, rfl⟩
      · have HZ := Lib.hid hz
        have hq : (ith xs k == y) = false := by simpa using hz
        clear hz
        go_wp2
        go_round
        case rel => exact ⟨k + 1, by omega, by go_num, step_all hp.out HZ.out⟩
        case measure => simp [intOf]; omega
    · go_wp2
      go_ret
      exact ⟨ret_int (idxI_none (fun j hj => hp.out j (by rw [H.out.1] at hj; omega))).symm, rfl⟩




end Go.Proofs.Ytlcllpgbpjdofaa
