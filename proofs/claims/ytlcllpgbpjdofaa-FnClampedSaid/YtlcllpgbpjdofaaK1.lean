/- Walks of the law FnClamped: it returns true. No condition. -/
import Derived.Test.YtlcllpgbpjdofaaR3
import Derived.Test.YtlcllpgbpjdofaaW2
set_option linter.unusedSimpArgs false
set_option linter.unusedVariables false
set_option maxRecDepth 100000
namespace Go.Proofs.Ytlcllpgbpjdofaa
open Go.RowKit

theorem cells_at (w : World) (cs : Array Value) (T : TypeId) {k : Nat} {v : Value} (h : cs[k]? = some v) : (w.alloc (.cells cs T)).cell? ⟨w.heap.size, 0 + k, none⟩ = some v := by
  rw [Nat.zero_add, World.cell?_alloc_new]; exact h
theorem ten_cells (w : World) (xs : List Int) (T : TypeId) (hl : xs.length = 10 := by rfl) : ∀ k, k < 10 → ∃ v, (w.alloc (.cells (xs.map (Value.int .i64)).toArray T)).cell? ⟨w.heap.size, 0 + k, none⟩ = some (.int .i64 v) := by
  intro k hk
  exact ⟨xs[k]'(by omega), cells_at w _ T (by simp [hl, hk])⟩
set_option maxHeartbeats 1000000 in
theorem spec_l01Number (B g : Nat) (A : Option Addr) (n c : Nat) (w : World) (h : Cur w B g A n c) :
    Calls Try.prog 64 #[.pointer (some ⟨g, 0, none⟩)] w (Drawn w B g A n c (fun x => True)) := by
  have HC := Lib.hid h
  clear h
  go_enter Try.func64, Try.ntmps64
  go_wp2_with fail
  refine (spec_l01Below _ _ _ _ _ _ _ HC.out).mono ?_
  rintro e w1 ⟨x, p_x, rfl, hc1, hg1⟩
  have H1 := Lib.hid hc1
  have G1 := Lib.hid (hg1)
  clear hc1 hg1
  obtain ⟨l_x, u_x⟩ := p_x.2 (by omega)
  clear p_x
  by_cases h0 : x = 0
  · subst h0
    go_wp2_with fail
    have hgw := H1.out.2.1
    refine (spec_l01PickInt B g A n c w1.heap.size 0 10 10 _ (H1.out.next ((Below.refl _ _).alloc (Nat.le_refl _) _)) (by omega) (by simp) (by omega) (by omega) (ten_cells w1 [-1, 0, 127, 128, 16383, 16384, 1000000000, 1000000001, 9223372036854775807, -9223372036854775808] _)).mono ?_
    rintro e w2 ⟨y, _, rfl, hc2, hg2⟩
    have H2 := Lib.hid hc2
    have G2 := Lib.hid (grown_tr (gG_alloc G1.out _) hg2)
    clear hc2 hg2
    go_wp2
    go_ret
    exact ⟨_, trivial, rfl, H2.out, G2.out⟩
  · by_cases h1 : x = 1
    · subst h1
      have q0 : ((1 : Int) == 0) = false := by decide
      go_wp2_with fail
      refine (spec_l01Below _ _ _ _ _ _ _ H1.out).mono ?_
      rintro e w2 ⟨y, _, rfl, hc2, hg2⟩
      have H2 := Lib.hid hc2
      have G2 := Lib.hid (grown_tr G1.out hg2)
      clear hc2 hg2
      go_wp2
      go_ret
      exact ⟨_, trivial, rfl, H2.out, G2.out⟩
    · have q0 : (x == 0) = false := by simpa using h0
      have q1 : (x == 1) = false := by simpa using h1
      go_wp2_with fail
      refine (spec_l01Below _ _ _ _ _ _ _ H1.out).mono ?_
      rintro e w2 ⟨y, _, rfl, hc2, hg2⟩
      have H2 := Lib.hid hc2
      have G2 := Lib.hid (grown_tr G1.out hg2)
      clear hc2 hg2
      go_wp2
      go_ret
      exact ⟨_, trivial, rfl, H2.out, G2.out⟩

set_option maxHeartbeats 1000000 in
theorem spec_DrawClamp (A : Option Addr) (n c : Nat) (w : World) (h : RdB w w.heap.size A n) :
    Calls Try.prog 13 #[.slice A n c] w fun e w' => ∃ x y z : Int, e = .returned (.tuple #[.int .i64 x, .int .i64 y, .int .i64 z]) ∧ Below w.heap.size w w' := by
  have H := Lib.hid h
  clear h
  go_enter Try.func13, Try.ntmps13
  go_wp2_with fail
  refine (spec_l01New _ _ _ _ _ (Nat.le_refl _) H.out).mono ?_
  rintro e w0 ⟨g, rfl, hg, hc, hb⟩
  have HC := Lib.hid hc
  have HB := Lib.hid hb
  clear hc hb
  go_wp2_with fail
  refine (spec_l01Once _ _ _ _ _ _ _ HC.out).mono ?_
  rintro e w1 ⟨b, rfl, hc1, hg1⟩
  have H1 := Lib.hid hc1
  have G1 := Lib.hid hg1
  clear hc1 hg1
  have KB : ∀ w', w0.grownBy w' (some g) → Below w.heap.size w w' := fun w' hg' => HB.out.grown hg' HB.out.size (fun k e => by cases e; exact hg)
  have HK := Lib.hid KB
  clear KB
  cases b with
  | true =>
    go_wp2_with fail
    refine (spec_l01Number _ _ _ _ _ _ H1.out).mono ?_
    rintro e w2 ⟨x, _, rfl, hc2, hg2⟩
    have H2 := Lib.hid hc2
    have G2 := Lib.hid (grown_tr G1.out hg2)
    clear hc2 hg2
    go_wp2_with fail
    refine (spec_l01Number _ _ _ _ _ _ H2.out).mono ?_
    rintro e w3 ⟨y, _, rfl, hc3, hg3⟩
    have H3 := Lib.hid hc3
    have G3 := Lib.hid (grown_tr G2.out hg3)
    clear hc3 hg3
    go_wp2_with fail
    refine (spec_l01Number _ _ _ _ _ _ H3.out).mono ?_
    rintro e w4 ⟨z, _, rfl, hc4, hg4⟩
    have H4 := Lib.hid hc4
    have G4 := Lib.hid (grown_tr G3.out hg4)
    clear hc4 hg4
    go_wp2
    go_ret3
    exact ⟨x, y, z, rfl, HK.out _ G4.out⟩
  | false =>
    go_wp2_with fail
    refine (spec_l01Below _ _ _ _ _ _ _ H1.out).mono ?_
    rintro e w2 ⟨x, p_x, rfl, hc2, hg2⟩
    have H2 := Lib.hid hc2
    have G2 := Lib.hid (grown_tr G1.out hg2)
    clear hc2 hg2
    obtain ⟨l_x, u_x⟩ := p_x.2 (by omega)
    clear p_x
    go_wp2_with fail
    refine (spec_l01Below _ _ _ _ _ _ _ H2.out).mono ?_
    rintro e w3 ⟨y, p_y, rfl, hc3, hg3⟩
    have H3 := Lib.hid hc3
    have G3 := Lib.hid (grown_tr G2.out hg3)
    clear hc3 hg3
    obtain ⟨l_y, u_y⟩ := p_y.2 (by omega)
    clear p_y
    go_wp2_with fail
    refine (spec_l01Below _ _ _ _ _ _ _ H3.out).mono ?_
    rintro e w4 ⟨z, p_z, rfl, hc4, hg4⟩
    have H4 := Lib.hid hc4
    have G4 := Lib.hid (grown_tr G3.out hg4)
    clear hc4 hg4
    obtain ⟨l_z, u_z⟩ := p_z.2 (by omega)
    clear p_z
    go_wp2
    go_ret3
    exact ⟨_, _, _, rfl, HK.out _ G4.out⟩

set_option maxHeartbeats 1000000 in
theorem laws_big (A : Option Addr) (n c : Nat) (w : World) (h : n ≤ maxLen) :
    Calls Try.prog 12 #[.slice A n c] w fun e w' => e = .returned (.bool (decide (1048576 < n))) ∧ w = w' := by
  unfold maxLen at h
  by_cases hlt : 1048576 < n
  · have h1 : decide ((1048576 : Int) < (n : Int)) = true := by simp; omega
    have H := Lib.hid (show decide (1048576 < n) = true by simpa using hlt)
    go_enter Try.func12, Try.ntmps12
    go_wp2
    go_ret
    exact ⟨by rw [H.out]; rfl, rfl⟩
  · have h1 : decide ((1048576 : Int) < (n : Int)) = false := by simp; omega
    have H := Lib.hid (show decide (1048576 < n) = false by simpa using hlt)
    go_enter Try.func12, Try.ntmps12
    go_wp2
    go_ret
    exact ⟨by rw [H.out]; rfl, rfl⟩

set_option maxHeartbeats 1000000 in
theorem walk_FnClamped (A : Option Addr) (n c : Nat) (w : World) (h : ArgB w A n) :
    Calls Try.prog 3 #[.slice A n c] w fun e w' => e = .returned (.bool true) ∧ Below w.heap.size w w' := by
  have HA := Lib.hid h
  clear h
  by_cases hn : 1048576 < n
  · have e1 : decide (1048576 < n) = true := by simpa using hn
    have E1 := Lib.hid e1
    clear e1
    go_enter Try.func3, Try.ntmps3
    go_wp2_with fail
    refine (laws_big _ _ _ _ HA.out.1).mono ?_
    rintro e w' ⟨rfl, rfl⟩
    rw [E1.out]
    go_wp2
    go_ret
    exact ⟨rfl, Below.refl _ _⟩
  · have e1 : decide (1048576 < n) = false := by simpa using hn
    have E1 := Lib.hid e1
    clear e1
    go_enter Try.func3, Try.ntmps3
    go_wp2_with fail
    refine (laws_big _ _ _ _ HA.out.1).mono ?_
    rintro e w' ⟨rfl, rfl⟩
    rw [E1.out]
    go_wp2_with fail
    refine (spec_DrawClamp _ _ _ _ (HA.out.2 (by omega))).mono ?_
    rintro e w1 ⟨x, y, z, rfl, hb⟩
    have HB := Lib.hid hb
    clear hb
    have s735 : clampZ 7 3 5 = 5 := by decide
    by_cases hzy : z < y
    · have e2 := clampZ_bad (n := x) hzy
      go_wp2_with (go_at_call 14; refine (impl_Clamp _ _ _ _).mono ?_; rintro e w' ⟨rfl, rfl⟩)
      go_ret
      exact ⟨rfl, HB.out⟩
    · have hyz : y ≤ z := by omega
      have L1 := clampZ_lo (n := x) hyz
      have L2 := clampZ_hi (n := x) hyz
      have L3 : clampZ (clampZ x y z) y z = clampZ x y z := clampZ_in L1 L2
      by_cases hx : y ≤ x ∧ x ≤ z
      · have e2 : clampZ x y z = x := clampZ_in hx.1 hx.2
        have h1 := hx.1
        have h2 := hx.2
        clear hx
        rw [e2] at L1 L2 L3
        go_wp2_with (go_at_call 14; refine (impl_Clamp _ _ _ _).mono ?_; rintro e w' ⟨rfl, rfl⟩)
        go_ret
        exact ⟨rfl, HB.out⟩
      · by_cases h1 : x < y
        · clear hx
          go_wp2_with (go_at_call 14; refine (impl_Clamp _ _ _ _).mono ?_; rintro e w' ⟨rfl, rfl⟩)
          go_ret
          exact ⟨rfl, HB.out⟩
        · have h2 : z < x := by omega
          clear hx
          go_wp2_with (go_at_call 14; refine (impl_Clamp _ _ _ _).mono ?_; rintro e w' ⟨rfl, rfl⟩)
          go_ret
          exact ⟨rfl, HB.out⟩
end Go.Proofs.Ytlcllpgbpjdofaa
