/- FnAreas: the plain law, and the law's helpers. No condition. -/
import Derived.Test.YtlcllpgbpjdofaaAr
import Derived.Test.YtlcllpgbpjdofaaT
import Derived.Test.YtlcllpgbpjdofaaM
import Derived.Test.YtlcllpgbpjdofaaCo
import Derived.Test.YtlcllpgbpjdofaaB2
import Derived.Deep.DeepCutAuto
import Derived.Deep.RegionHeld3
set_option linter.unusedSimpArgs false
set_option linter.unusedVariables false
set_option maxRecDepth 100000
namespace Go.Proofs.Ytlcllpgbpjdofaa
open Go.RowKit

/-- the areas of the colors ahead of k, together -/
def arS (z : Int) (xs : List C) : Nat → Int
  | 0 => 0
  | k + 1 => arS z xs k + areaB z xs (k : Int)
theorem six_one {a : Int} (h1 : 0 ≤ a) (h2 : a ≤ 5) : (if a = 0 then (2 : Int) else 0) + (if a = 1 then 2 else 0) + (if a = 2 then 2 else 0) + (if a = 3 then 2 else 0) + (if a = 4 then 2 else 0) + (if a = 5 then 2 else 0) = 2 := by
  have : a = 0 ∨ a = 1 ∨ a = 2 ∨ a = 3 ∨ a = 4 ∨ a = 5 := by omega
  rcases this with rfl | rfl | rfl | rfl | rfl | rfl <;> decide
theorem cOk_parts {s a b : Int} (h : cOk s a b = true) : 0 ≤ a ∧ a ≤ 5 ∧ 0 ≤ b ∧ b ≤ 5 := by
  simp [cOk, inB] at h
  omega
theorem cell_six {s a b : Int} (h : cOk s a b = true) : areaC s a b 0 + areaC s a b 1 + areaC s a b 2 + areaC s a b 3 + areaC s a b 4 + areaC s a b 5 = 4 := by
  obtain ⟨h1, h2, h3, h4⟩ := cOk_parts h
  have e1 := six_one h1 h2
  have e2 := six_one h3 h4
  unfold areaC
  simp only [h, if_true]
  omega
theorem six_areas {xs : List C} (h : allOkC xs = true) : ∀ k, k ≤ xs.length → sumTo (areaF 0) xs k + sumTo (areaF 1) xs k + sumTo (areaF 2) xs k + sumTo (areaF 3) xs k + sumTo (areaF 4) xs k + sumTo (areaF 5) xs k = 4 * k := by
  intro k
  induction k with
  | zero => intro _; simp [sumTo_zero]
  | succ k ih =>
    intro hk
    have h1 := ih (by omega)
    have h2 := cell_six (allOkC_at h (show k < xs.length by omega))
    simp only [sumTo_succ _ _ k (show k < xs.length by omega), areaF]
    omega
theorem areaB_pos {z : Int} {xs : List C} (hb : bOk z xs = true) (a : Int) : areaB z xs a = sumTo (areaF a) xs xs.length := by rw [areaB, if_pos hb]
theorem arS_six {z : Int} {xs : List C} (hb : bOk z xs = true) : arS z xs 6 = 4 * z * z := by
  have h := six_areas (bOk_size hb).2.2.2 xs.length (Nat.le_refl _)
  have hl := (bOk_size hb).2.2.1
  have e : (4 : Int) * z * z = 4 * (z * z) := Int.mul_assoc _ _ _
  simp only [arS, areaB_pos hb]
  rw [e, ← hl]
  have c0 : ((0 : Nat) : Int) = 0 := rfl
  have c1 : ((1 : Nat) : Int) = 1 := rfl
  have c2 : ((2 : Nat) : Int) = 2 := rfl
  have c3 : ((3 : Nat) : Int) = 3 := rfl
  have c4 : ((4 : Nat) : Int) = 4 := rfl
  have c5 : ((5 : Nat) : Int) = 5 := rfl
  rw [c0, c1, c2, c3, c4, c5]
  omega
theorem sumTo_bd {f : C → Int} {m : Int} (xs : List C) (hf : ∀ c, 0 ≤ f c ∧ f c ≤ m) : ∀ k, k ≤ xs.length → 0 ≤ sumTo f xs k ∧ sumTo f xs k ≤ m * k := by
  intro k
  induction k with
  | zero => intro _; simp [sumTo_zero]
  | succ k ih =>
    intro hk
    have h1 := ih (by omega)
    have h2 := hf (cith xs k)
    rw [sumTo_succ _ _ k (show k < xs.length by omega)]
    have e : m * ((k + 1 : Nat) : Int) = m * (k : Int) + m := by rw [Int.natCast_add, Int.mul_add]; simp
    rw [e]
    omega
theorem areaB_bd {z : Int} {xs : List C} (hb : bOk z xs = true) (a : Int) : 0 ≤ areaB z xs a ∧ areaB z xs a ≤ 64 := by
  have h := sumTo_bd (f := areaF a) (m := 4) xs (fun c => areaC_bd c.s c.a c.b a) xs.length (Nat.le_refl _)
  have hl := bOk_len hb rfl
  rw [areaB_pos hb]
  omega
theorem arS_bd {z : Int} {xs : List C} (hb : bOk z xs = true) : ∀ k, 0 ≤ arS z xs k ∧ arS z xs k ≤ 64 * k := by
  intro k
  induction k with
  | zero => exact ⟨Int.le_refl _, Int.le_refl _⟩
  | succ k ih => have := areaB_bd hb (k : Int); simp only [arS]; omega
theorem tri_bd {z : Int} {xs : List C} {n : Nat} (hb : bOk z xs = true) (hn : xs.length = n) : 0 ≤ triB z xs ∧ triB z xs ≤ 2 * (n : Int) := by
  have h := sumTo_bd (f := triF) (m := 2) xs (fun c => by unfold triF; split <;> omega) xs.length (Nat.le_refl _)
  rw [triB, if_pos hb, ← hn]
  exact h
theorem tri_star : triB 3 starL = 8 := by decide
theorem bestTo_max (f : Nat → Int) (k : Nat) : ∀ j, j < k → f j ≤ f (bestTo f k) := by
  induction k with
  | zero => intro j h; omega
  | succ k ih =>
    intro j hj
    unfold bestTo
    by_cases hjk : j = k
    · subst hjk
      split <;> omega
    · have := ih j (by omega)
      split <;> omega
theorem has_col {z : Int} {xs : List C} (hb : bOk z xs = true) {k : Nat} (hk : k < 6) : decide ((k : Int) ∈ colB z xs) = decide (0 < areaB z xs (k : Int)) := by
  rw [decide_eq_decide, colB, if_pos hb, colTo_mem]
  constructor
  · rintro ⟨j, h1, h2, h3⟩
    have : k = j := by omega
    subst this
    exact h2
  · intro h
    exact ⟨k, hk, h, rfl⟩
theorem col_at {z : Int} {xs : List C} (hb : bOk z xs = true) {j : Nat} (hj : j < (colB z xs).length) : ∃ q : Nat, q < 6 ∧ ith (colB z xs) j = (q : Int) := by
  have hm : ith (colB z xs) j ∈ colB z xs := by
    rw [ith_get hj]
    exact List.getElem_mem hj
  generalize ith (colB z xs) j = v at hm
  rw [colB, if_pos hb, colTo_mem] at hm
  obtain ⟨q, h1, _, h3⟩ := hm
  exact ⟨q, h1, h3⟩
/-- the first k colors' areas are equal -/
def balTo (z : Int) (xs : List C) (k : Nat) : Bool := (List.range k).all (fun j => decide (areaB z xs (ith (colB z xs) j) = areaB z xs (ith (colB z xs) 0)))
theorem balTo_succ (z : Int) (xs : List C) (k : Nat) : balTo z xs (k + 1) = (balTo z xs k && decide (areaB z xs (ith (colB z xs) k) = areaB z xs (ith (colB z xs) 0))) := by
  simp [balTo, List.range_succ]
theorem balB_eq {z : Int} {xs : List C} (hb : bOk z xs = true) : balB z xs = balTo z xs (colB z xs).length := by rw [balB, hb]; rfl
theorem area_same {s a : Int} (h : cOk s a a = true) : areaC s a a a = 4 := by
  unfold areaC; rw [if_pos h]; simp
theorem area_apart {s a b : Int} (h : cOk s a b = true) (hab : a ≠ b) : areaC s a b a = 2 ∧ areaC s a b b = 2 := by
  unfold areaC
  rw [if_pos h, if_pos h]
  have hba : b ≠ a := fun e => hab e.symm
  simp [hab, hba]

set_option maxHeartbeats 400000 in
theorem laws_has (A : Option Addr) (n c : Nat) (xs : List Int) (k : Int) (w : World) (h : RdI w w.heap.size A n xs) :
    Calls Try.prog 26 #[.slice A n c, .int .i64 k] w fun e w' => e = .returned (.bool (decide (k ∈ xs))) ∧ w = w' := by
  have hle := h.le
  have hl := h.1
  have H := Lib.hid h
  clear h
  go_enter Try.func26, Try.ntmps26
  go_wp2_with fail
  go_loop [5] (fun i => ∃ (j : Nat), j ≤ n ∧ i = .int .i64 j ∧ Hid (∀ q, q < j → ith xs q ≠ k)) (fun i => n - (intOf i).toNat)
  case atStart => exact ⟨0, Nat.zero_le _, rfl, fun q hq => absurd hq (by omega)⟩
  case round =>
    obtain ⟨j, hj, rfl, hp⟩ := hrel
    by_cases hlt : j < n
    · obtain ⟨g, off, rfl, hc⟩ := H.out.at_ hlt
      have d1 : (j : Int) < (n : Int) := by omega
      by_cases he : ith xs j = k
      · have HF := Lib.hid (show decide (k ∈ xs) = true from decide_eq_true (by rw [← he, ith_get (by omega)]; exact List.getElem_mem _))
        go_wp2
        go_ret
        exact ⟨ret_bool HF.out.symm, rfl⟩
      · have HP := Lib.hid (show ∀ q, q < j + 1 → ith xs q ≠ k from fun q hq => by
          by_cases hqj : q = j
          · rw [hqj]; exact he
          · exact hp.out q (by omega))
        go_wp2
        go_round
        case rel => exact ⟨j + 1, by omega, by go_num, HP⟩
        case measure => simp [intOf]; omega
    · have HF := Lib.hid (show decide (k ∈ xs) = false from decide_eq_false (fun hm => by
        obtain ⟨q, hq, e⟩ := List.getElem_of_mem hm
        exact hp.out q (by omega) (by rw [ith_get hq]; exact e)))
      go_wp2
      go_ret
      exact ⟨ret_bool HF.out.symm, rfl⟩
theorem laws_btoi (b : Bool) (w : World) :
    Calls Try.prog 31 #[.bool b] w fun e w' => e = .returned (.int .i64 (if b then 1 else 0)) ∧ w = w' := by
  cases b
  · go_enter Try.func31, Try.ntmps31
    go_wp2
    go_ret
    exact ⟨rfl, rfl⟩
  · go_enter Try.func31, Try.ntmps31
    go_wp2
    go_ret
    exact ⟨rfl, rfl⟩

end Go.Proofs.Ytlcllpgbpjdofaa
