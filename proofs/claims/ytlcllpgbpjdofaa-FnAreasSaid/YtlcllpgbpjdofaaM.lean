/- Walks of MainColor, both sides. -/
import Derived.Test.YtlcllpgbpjdofaaT
import Derived.Deep.RegionHeld3
set_option linter.unusedSimpArgs false
set_option linter.unusedVariables false
set_option maxRecDepth 100000
namespace Go.Proofs.Ytlcllpgbpjdofaa
open Go.RowKit

/-- the first of the places 0 .. k - 1 with the greatest value (0 for k = 0) -/
def bestTo (f : Nat → Int) : Nat → Nat
  | 0 => 0
  | k + 1 => if f (bestTo f k) < f k then k else bestTo f k
theorem bestTo_le (f : Nat → Int) (k : Nat) : bestTo f k ≤ k := by
  induction k with
  | zero => exact Nat.le_refl _
  | succ k ih => unfold bestTo; split <;> omega
theorem bestTo_lt (f : Nat → Int) (k : Nat) (h : 0 < k) : bestTo f k < k := by
  cases k with
  | zero => omega
  | succ k => have := bestTo_le f k; unfold bestTo; split <;> omega
def areaN (z : Int) (xs : List C) (a : Nat) : Int := areaB z xs (a : Int)
def mainB (z : Int) (xs : List C) : Int := if bOk z xs then (bestTo (areaN z xs) 6 : Int) else -1
theorem tabTo_len (z : Int) (xs : List C) (k : Nat) : (tabTo z xs k).length = k := by simp [tabTo]
theorem ith_tab {z : Int} {xs : List C} {k j : Nat} (h : j < k) : ith (tabTo z xs k) j = areaN z xs j := by
  rw [ith_get (by rw [tabTo_len]; exact h)]; simp [tabTo, areaN]

set_option maxRecDepth 100000 in
set_option maxHeartbeats 1000000 in
theorem impl_MainColor_yes (z : Int) (A : Option Addr) (n c : Nat) (xs : List C) (w : World) (h : RdC w w.heap.size A n xs) (hbk : bOk z xs = true) :
    Calls Try.prog 27 #[.agg #[.int .i64 z, .slice A n c]] w fun e w' => e = .returned (.int .i64 (mainB z xs)) ∧ Below w.heap.size w w' := by
  have hs := lt2
  have H := Lib.hid h
  clear h
  go_enter Try.func27, Try.ntmps27
  go_wp2_with (go_at_call 72; refine (impl_BlockOk _ _ _ _ _ _ (H.out.below' (by (repeat' (first | (with_reducible exact Below.refl _ _) | (with_reducible refine Below.setCell ?_ ?_ _) | (with_reducible refine Below.alloc ?_ ?_ _) | (with_reducible refine Below.drew ?_) | (with_reducible refine Below.drewN ?_ _) | (with_reducible refine Below.trans ?_ (Below.mono (by with_reducible assumption) ?_)) | go_size | (dsimp only; omega)))) (by go_size))).mono ?_; rintro e w1 ⟨rfl, hb1⟩; obtain ⟨hc1, hf1, hz1⟩ := bcell hb1 (b := w.heap.size) (by go_size))
  have HW := Lib.hid (show Below w.heap.size w w1 by (repeat' (first | (with_reducible exact Below.refl _ _) | (with_reducible refine Below.setCell ?_ ?_ _) | (with_reducible refine Below.alloc ?_ ?_ _) | (with_reducible refine Below.drew ?_) | (with_reducible refine Below.drewN ?_ _) | (with_reducible refine Below.trans ?_ (Below.mono (by with_reducible assumption) ?_)) | go_size | (dsimp only; omega))))
  have H1 := Lib.hid (H.out.next HW.out)
  clear hb1
  go_loopw [3, 8] (fun v i wr => ∃ (k b : Nat), k ≤ 6 ∧ b ≤ 6 ∧ i = .int .i64 k ∧ v = .int .i64 b ∧ Hid (b = bestTo (areaN z xs) k) ∧ Hid (Below w1.heap.size w1 wr)) (fun _ i _ => 6 - (intOf i).toNat)
  case atStart => exact ⟨0, 0, by omega, by omega, rfl, rfl, rfl, Below.refl _ _⟩
  case round =>
    obtain ⟨k, b, hk, hb6, rfl, rfl, hbe, hb⟩ := hrel
    obtain ⟨bc, bf, bz⟩ := bcell hb.out (b := w.heap.size) hz1
    have hcz : ∀ o, wr.cell? ⟨w.heap.size, o, none⟩ = (w.alloc (.cells #[.int .i64 z, .slice A n c] 42)).cell? ⟨w.heap.size, o, none⟩ := fun o => (bc o).trans (hc1 o)
    have p0 : wr.cell? ⟨w.heap.size, 0, none⟩ = some (.int .i64 z) := (hcz 0).trans (by rw [World.cell?_alloc_new]; rfl)
    have p1 : wr.cell? ⟨w.heap.size, 1, none⟩ = some (.slice A n c) := (hcz 1).trans (by rw [World.cell?_alloc_new]; rfl)
    clear bc bf hcz
    have hy := hb.out.size
    have hbo : Below w1.heap.size w1 wr := hb.out
    by_cases hlt : k < 6
    · have hst : bestTo (areaN z xs) (k + 1) = if areaN z xs (bestTo (areaN z xs) k) < areaN z xs k then k else bestTo (areaN z xs) k := rfl
      rw [← hbe.out] at hst
      by_cases hq : areaB z xs (b : Int) < areaB z xs (k : Int)
      · have HE := Lib.hid (show k = bestTo (areaN z xs) (k + 1) by rw [hst]; exact (if_pos hq).symm)
        have hd : decide (areaB z xs (b : Int) < areaB z xs (k : Int)) = true := decide_eq_true hq
        clear hst
        go_wp2_with fail
        go_region_held3 (fun w' => w'.cell? ⟨w.heap.size, 0, none⟩ = some (.int .i64 z) ∧ w'.cell? ⟨w.heap.size, 1, none⟩ = some (.slice A n c)) (go_keep) (first
          | (go_at_call 25; refine (impl_AreaOf _ _ _ _ _ _ _ (H1.out.below' (by (repeat' (first | (with_reducible exact Below.refl _ _) | (with_reducible refine Below.setCell ?_ ?_ _) | (with_reducible refine Below.alloc ?_ ?_ _) | (with_reducible refine Below.drew ?_) | (with_reducible refine Below.drewN ?_ _) | (with_reducible refine Below.trans ?_ (Below.mono (by with_reducible assumption) ?_)) | go_size | (dsimp only; omega)))) (by go_size))).mono ?_; rintro e w3 ⟨rfl, hb3⟩; obtain ⟨bc3, bf3, bz3⟩ := bcell hb3 (b := w.heap.size) (by go_size); have hx3 := bsize hb3; (try simp at hx3)))
        have HB3 := Lib.hid (show Below w1.heap.size w1 w3 by (repeat' (first | (with_reducible exact Below.refl _ _) | (with_reducible refine Below.setCell ?_ ?_ _) | (with_reducible refine Below.alloc ?_ ?_ _) | (with_reducible refine Below.drew ?_) | (with_reducible refine Below.drewN ?_ _) | (with_reducible refine Below.trans ?_ (Below.mono (by with_reducible assumption) ?_)) | go_size | (dsimp only; omega))))
        go_wp2
        go_roundw
        case rel => exact ⟨k + 1, k, by omega, by omega, by go_num, rfl, HE.out, HB3.out⟩
        case measure => simp [intOf]; omega
      · have HE := Lib.hid (show b = bestTo (areaN z xs) (k + 1) by rw [hst]; exact (if_neg hq).symm)
        have hd : decide (areaB z xs (b : Int) < areaB z xs (k : Int)) = false := decide_eq_false hq
        clear hst
        go_wp2_with fail
        go_region_held3 (fun w' => w'.cell? ⟨w.heap.size, 0, none⟩ = some (.int .i64 z) ∧ w'.cell? ⟨w.heap.size, 1, none⟩ = some (.slice A n c)) (go_keep) (first
          | (go_at_call 25; refine (impl_AreaOf _ _ _ _ _ _ _ (H1.out.below' (by (repeat' (first | (with_reducible exact Below.refl _ _) | (with_reducible refine Below.setCell ?_ ?_ _) | (with_reducible refine Below.alloc ?_ ?_ _) | (with_reducible refine Below.drew ?_) | (with_reducible refine Below.drewN ?_ _) | (with_reducible refine Below.trans ?_ (Below.mono (by with_reducible assumption) ?_)) | go_size | (dsimp only; omega)))) (by go_size))).mono ?_; rintro e w3 ⟨rfl, hb3⟩; obtain ⟨bc3, bf3, bz3⟩ := bcell hb3 (b := w.heap.size) (by go_size); have hx3 := bsize hb3; (try simp at hx3)))
        have HB3 := Lib.hid (show Below w1.heap.size w1 w3 by (repeat' (first | (with_reducible exact Below.refl _ _) | (with_reducible refine Below.setCell ?_ ?_ _) | (with_reducible refine Below.alloc ?_ ?_ _) | (with_reducible refine Below.drew ?_) | (with_reducible refine Below.drewN ?_ _) | (with_reducible refine Below.trans ?_ (Below.mono (by with_reducible assumption) ?_)) | go_size | (dsimp only; omega))))
        go_wp2
        go_roundw
        case rel => exact ⟨k + 1, b, by omega, by omega, by go_num, rfl, HE.out, HB3.out⟩
        case measure => simp [intOf]; omega
    · go_wp2
      go_ret
      obtain rfl : k = 6 := by omega
      exact ⟨ret_int (by rw [mainB, if_pos hbk, ← hbe.out]), HW.out.trans (hb.out.mono HW.out.size)⟩
set_option maxHeartbeats 1000000 in
theorem impl_MainColor_no (z : Int) (A : Option Addr) (n c : Nat) (xs : List C) (w : World) (h : RdC w w.heap.size A n xs) (hbk : bOk z xs = false) :
    Calls Try.prog 27 #[.agg #[.int .i64 z, .slice A n c]] w fun e w' => e = .returned (.int .i64 (mainB z xs)) ∧ Below w.heap.size w w' := by
  have hs := lt2
  have H := Lib.hid h
  clear h
  have HE := Lib.hid (show mainB z xs = -1 by rw [mainB, hbk]; rfl)
  go_enter Try.func27, Try.ntmps27
  go_wp2_with (go_at_call 72; refine (impl_BlockOk _ _ _ _ _ _ (H.out.below' (by (repeat' (first | (with_reducible exact Below.refl _ _) | (with_reducible refine Below.setCell ?_ ?_ _) | (with_reducible refine Below.alloc ?_ ?_ _) | (with_reducible refine Below.drew ?_) | (with_reducible refine Below.drewN ?_ _) | (with_reducible refine Below.trans ?_ (Below.mono (by with_reducible assumption) ?_)) | go_size | (dsimp only; omega)))) (by go_size))).mono ?_; rintro e w1 ⟨rfl, hb1⟩)
  go_ret
  exact ⟨ret_int HE.out.symm, by (repeat' (first | (with_reducible exact Below.refl _ _) | (with_reducible refine Below.setCell ?_ ?_ _) | (with_reducible refine Below.alloc ?_ ?_ _) | (with_reducible refine Below.drew ?_) | (with_reducible refine Below.drewN ?_ _) | (with_reducible refine Below.trans ?_ (Below.mono (by with_reducible assumption) ?_)) | go_size | (dsimp only; omega)))⟩
theorem impl_MainColor (z : Int) (A : Option Addr) (n c : Nat) (xs : List C) (w : World) (h : RdC w w.heap.size A n xs) :
    Calls Try.prog 27 #[.agg #[.int .i64 z, .slice A n c]] w fun e w' => e = .returned (.int .i64 (mainB z xs)) ∧ Below w.heap.size w w' := by
  cases hp : bOk z xs with
  | true => exact impl_MainColor_yes z A n c xs w h hp
  | false => exact impl_MainColor_no z A n c xs w h hp


end Go.Proofs.Ytlcllpgbpjdofaa
