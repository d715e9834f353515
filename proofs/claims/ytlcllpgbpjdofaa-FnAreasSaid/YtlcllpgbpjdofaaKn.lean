/- What the reference's drawn numbers are; the laws' look whether an input is too great. No condition. -/
import Derived.Test.YtlcllpgbpjdofaaD
set_option linter.unusedSimpArgs false
set_option linter.unusedVariables false
set_option maxRecDepth 100000
namespace Go.Proofs.Ytlcllpgbpjdofaa
open Go.RowKit

theorem cells_at (w : World) (cs : Array Value) (T : TypeId) {k : Nat} {v : Value} (h : cs[k]? = some v) : (w.alloc (.cells cs T)).cell? ⟨w.heap.size, 0 + k, none⟩ = some v := by
  rw [Nat.zero_add, World.cell?_alloc_new]; exact h
theorem ten_cells (w : World) (xs : List Int) (T : TypeId) (hl : xs.length = 10 := by rfl) : ∀ k, k < 10 → ∃ v, (w.alloc (.cells (xs.map (Value.int .i64)).toArray T)).cell? ⟨w.heap.size, 0 + k, none⟩ = some (.int .i64 v) := by
  intro k hk
  exact ⟨xs[k]'(by omega), cells_at w _ T (by simp [hl, hk])⟩
theorem ten_bound (w : World) (xs : List Int) (T : TypeId) (y : Int) {k : Nat} (hk : k < 10) (h : (w.alloc (.cells (xs.map (Value.int .i64)).toArray T)).cell? ⟨w.heap.size, 0 + k, none⟩ = some (.int .i64 y)) (hb : ∀ x ∈ xs, -9223372036854775808 ≤ x ∧ x ≤ 9223372036854775807) : I64q y := by
  rw [Nat.zero_add, World.cell?_alloc_new] at h
  have h1 : (xs.map (Value.int .i64))[k]? = some (.int .i64 y) := by simpa using h
  rw [List.getElem?_map] at h1
  cases hx : xs[k]? with
  | none => rw [hx] at h1; cases h1
  | some x =>
    rw [hx] at h1
    simp only [Option.map_some, Option.some.injEq, Value.int.injEq, true_and] at h1
    subst h1
    exact hb _ (List.mem_of_getElem? hx)
set_option maxHeartbeats 1000000 in
theorem spec_l01Number (B g : Nat) (A : Option Addr) (n c : Nat) (w : World) (h : Cur w B g A n c) :
    Calls Try.prog 64 #[.pointer (some ⟨g, 0, none⟩)] w (Drawn w B g A n c I64q) := by
  have HC := Lib.hid h
  clear h
  go_enter Try.func64, Try.ntmps64
  go_wp2_with fail
  refine (spec_l01Below _ _ _ _ _ _ _ HC.out).mono ?_
  rintro e w1 ⟨x, p_x, rfl, hc1, hg1⟩
  have H1 := Lib.hid hc1
  have G1 := Lib.hid (hg1)
  clear hc1 hg1
  obtain ⟨l_x, u_x⟩ := p_x.2 (by omega)
  clear p_x
  by_cases h0 : x = 0
  · subst h0
    go_wp2_with fail
    have hgw := H1.out.2.1
    refine (spec_l01PickInt B g A n c w1.heap.size 0 10 10 _ (H1.out.next ((Below.refl _ _).alloc (Nat.le_refl _) _)) (by omega) (by simp) (by omega) (by omega) (ten_cells w1 [-1, 0, 127, 128, 16383, 16384, 1000000000, 1000000001, 9223372036854775807, -9223372036854775808] _)).mono ?_
    rintro e w2 ⟨y, ⟨k1, hk1, hy1⟩, rfl, hc2, hg2⟩
    have HY := Lib.hid (ten_bound w1 [-1, 0, 127, 128, 16383, 16384, 1000000000, 1000000001, 9223372036854775807, -9223372036854775808] _ y hk1 hy1 (by decide))
    clear hy1
    have H2 := Lib.hid hc2
    have G2 := Lib.hid (grown_tr (gG_alloc G1.out _) hg2)
    clear hc2 hg2
    go_wp2
    go_ret
    exact ⟨_, HY.out, rfl, H2.out, G2.out⟩
  · by_cases h1 : x = 1
    · subst h1
      have q0 : ((1 : Int) == 0) = false := by decide
      go_wp2_with fail
      refine (spec_l01Below _ _ _ _ _ _ _ H1.out).mono ?_
      rintro e w2 ⟨y, py, rfl, hc2, hg2⟩
      have HY := Lib.hid (py.2 (by omega))
      clear py
      have H2 := Lib.hid hc2
      have G2 := Lib.hid (grown_tr G1.out hg2)
      clear hc2 hg2
      go_wp2
      go_ret
      exact ⟨_, ⟨by have := HY.out; omega, by have := HY.out; omega⟩, rfl, H2.out, G2.out⟩
    · have q0 : (x == 0) = false := by simpa using h0
      have q1 : (x == 1) = false := by simpa using h1
      go_wp2_with fail
      refine (spec_l01Below _ _ _ _ _ _ _ H1.out).mono ?_
      rintro e w2 ⟨y, py, rfl, hc2, hg2⟩
      have HY := Lib.hid (py.2 (by omega))
      clear py
      have H2 := Lib.hid hc2
      have G2 := Lib.hid (grown_tr G1.out hg2)
      clear hc2 hg2
      go_wp2
      go_ret
      exact ⟨_, ⟨by have := HY.out; omega, by have := HY.out; omega⟩, rfl, H2.out, G2.out⟩
set_option maxHeartbeats 1000000 in
theorem laws_big (A : Option Addr) (n c : Nat) (w : World) (h : n ≤ maxLen) :
    Calls Try.prog 12 #[.slice A n c] w fun e w' => e = .returned (.bool (decide (1048576 < n))) ∧ w = w' := by
  unfold maxLen at h
  by_cases hlt : 1048576 < n
  · have h1 : decide ((1048576 : Int) < (n : Int)) = true := by simp; omega
    have H := Lib.hid (show decide (1048576 < n) = true by simpa using hlt)
    go_enter Try.func12, Try.ntmps12
    go_wp2
    go_ret
    exact ⟨by rw [H.out]; rfl, rfl⟩
  · have h1 : decide ((1048576 : Int) < (n : Int)) = false := by simp; omega
    have H := Lib.hid (show decide (1048576 < n) = false by simpa using hlt)
    go_enter Try.func12, Try.ntmps12
    go_wp2
    go_ret
    exact ⟨by rw [H.out]; rfl, rfl⟩
end Go.Proofs.Ytlcllpgbpjdofaa
