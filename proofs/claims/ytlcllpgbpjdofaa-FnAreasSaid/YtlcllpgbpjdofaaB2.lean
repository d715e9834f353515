/- Walks of the functions on blocks, both sides. -/
import Derived.Test.YtlcllpgbpjdofaaB
import Derived.Test.YtlcllpgbpjdofaaC
import Derived.Test.YtlcllpgbpjdofaaR0
set_option linter.unusedSimpArgs false
set_option linter.unusedVariables false
set_option maxRecDepth 100000
namespace Go.Proofs.Ytlcllpgbpjdofaa
open Go.RowKit


/-- the sum of f over the first k cells -/
def sumTo (f : C → Int) (cs : List C) (k : Nat) : Int := ((cs.take k).map f).sum
theorem sumTo_succ (f : C → Int) (cs : List C) (k : Nat) (h : k < cs.length) : sumTo f cs (k + 1) = sumTo f cs k + f (cith cs k) := by
  unfold sumTo
  rw [List.take_succ_eq_append_getElem h, List.map_append, List.sum_append, cith_get h]; simp
theorem sumTo_zero (f : C → Int) (cs : List C) : sumTo f cs 0 = 0 := by simp [sumTo]
def triF (c : C) : Int := if c.s = 0 then 0 else 2
def areaF (a : Int) (c : C) : Int := areaC c.s c.a c.b a
theorem areaC_bd (s a b k : Int) : 0 ≤ areaC s a b k ∧ areaC s a b k ≤ 4 := by unfold areaC; split <;> (try split) <;> (try split) <;> omega
def triB (z : Int) (xs : List C) : Int := if bOk z xs then sumTo triF xs xs.length else -1
def areaB (z : Int) (xs : List C) (a : Int) : Int := if bOk z xs then sumTo (areaF a) xs xs.length else 0
theorem bOk_len {z : Int} {xs : List C} {n : Nat} (h : bOk z xs = true) (hn : xs.length = n) : n ≤ 16 := by
  obtain ⟨h1, h2, h3, _⟩ := bOk_size h
  have hz : z = 1 ∨ z = 2 ∨ z = 3 ∨ z = 4 := by omega
  rw [hn] at h3
  rcases hz with rfl | rfl | rfl | rfl <;> omega

set_option maxHeartbeats 1000000 in
theorem impl_CountTriangles (z : Int) (A : Option Addr) (n c : Nat) (xs : List C) (w : World) (h : RdC w w.heap.size A n xs) :
    Calls Try.prog 28 #[.agg #[.int .i64 z, .slice A n c]] w fun e w' => e = .returned (.int .i64 (triB z xs)) ∧ Below w.heap.size w w' := by
  have hs := lt2
  have H := Lib.hid h
  clear h
  by_cases hb : bOk z xs = true
  · have hle := bOk_len hb H.out.1
    have HBK := Lib.hid hb
    go_enter Try.func28, Try.ntmps28
    go_wp2_with (go_at_call 72; refine (impl_BlockOk _ _ _ _ _ _ (H.out.below' (by go_grown) (by go_size))).mono ?_; rintro e w1 ⟨rfl, hb1⟩; obtain ⟨hc1, hf1, hz1⟩ := bcell hb1 (b := w.heap.size) (by go_size); have HB1 := Lib.hid hb1; clear hb1)
    have HW := Lib.hid (show Below w.heap.size w w1 by have hb1 := HB1.out; (repeat' (first | (with_reducible exact Below.refl _ _) | (with_reducible refine Below.setCell ?_ ?_ _) | (with_reducible refine Below.alloc ?_ ?_ _) | (with_reducible refine Below.drew ?_) | (with_reducible refine Below.drewN ?_ _) | (with_reducible refine Below.trans ?_ (Below.mono (by with_reducible assumption) ?_)) | go_size | (dsimp only; omega))))
    have H1 := Lib.hid (H.out.next HW.out)
    clear hb
    go_loopw [3, 12] (fun q i wr => ∃ (k : Nat) (p : Int), k ≤ n ∧ 0 ≤ p ∧ p ≤ 4 * k ∧ i = .int .i64 k ∧ q = .int .i64 p ∧ Hid (p = sumTo (triF) xs k) ∧ Hid (Below w1.heap.size w1 wr)) (fun _ i _ => n - (intOf i).toNat)
    case atStart => exact ⟨0, 0, Nat.zero_le _, by omega, by omega, rfl, rfl, (sumTo_zero _ _).symm, Below.refl _ _⟩
    case round =>
      obtain ⟨k, p, hk, hp0, hp1, rfl, rfl, hp, hb⟩ := hrel
      obtain ⟨bc, bf, bz⟩ := bcell hb.out (b := w.heap.size) hz1
      have hcz : ∀ o, wr.cell? ⟨w.heap.size, o, none⟩ = (w.alloc (.cells #[.int .i64 z, .slice A n c] 42)).cell? ⟨w.heap.size, o, none⟩ := fun o => (bc o).trans (hc1 o)
      have HCZ := Lib.hid hcz
      clear bc bf hcz
      have p0 : wr.cell? ⟨w.heap.size, 0, none⟩ = some (.int .i64 z) := (HCZ.out 0).trans (by rw [World.cell?_alloc_new]; rfl)
      have p1 : wr.cell? ⟨w.heap.size, 1, none⟩ = some (.slice A n c) := (HCZ.out 1).trans (by rw [World.cell?_alloc_new]; rfl)
      by_cases hlt : k < n
      · have hsum := sumTo_succ (triF) xs k (by rw [H.out.1]; exact hlt)
        have HS := Lib.hid hsum
        clear hsum
        obtain ⟨g, off, rfl, hc0, hc1', hc2⟩ := (H1.out.below hb.out).at_ hlt
        by_cases hz0 : (cith xs k).s = 0
        · have HZ := Lib.hid hz0
          have hq : ((cith xs k).s != 0) = false := by simpa using hz0
          clear hz0
          go_wp2
          go_roundw
          case rel => exact ⟨k + 1, p, by omega, by omega, by omega, by go_num, rfl, by have h2 := hp.out; have h3 := HS.out; rw [← h2] at h3; simp [triF, HZ.out] at h3; exact h3.symm, (hb.out.alloc hb.out.size _)⟩
          case measure => simp [intOf]; omega
        · have HZ := Lib.hid hz0
          have hq : ((cith xs k).s != 0) = true := by simpa using hz0
          clear hz0
          go_wp2
          go_roundw
          case rel => exact ⟨k + 1, p + 2, by omega, by omega, by omega, by go_num, by go_num, by have h2 := hp.out; have h3 := HS.out; rw [← h2] at h3; simp [triF, HZ.out] at h3; exact h3.symm, (hb.out.alloc hb.out.size _)⟩
          case measure => simp [intOf]; omega
      · go_wp2
        go_ret
        have ek : k = n := by omega
        refine ⟨ret_int ?_, HW.out.trans (hb.out.mono HW.out.size)⟩
        have h2 := hp.out
        have h3 : (triB z xs) = sumTo (triF) xs xs.length := if_pos HBK.out
        rw [h3, H.out.1, ← ek]; exact h2
  · have hb' : bOk z xs = false := by simpa using hb
    clear hb
    go_enter Try.func28, Try.ntmps28
    go_wp2_with (go_at_call 72; refine (impl_BlockOk _ _ _ _ _ _ (H.out.below' (by go_grown) (by go_size))).mono ?_; rintro e w1 ⟨rfl, hb1⟩)
    go_ret
    refine ⟨ret_int ?_, ?_⟩
    · exact (if_neg (by rw [hb']; simp)).symm
    · (repeat' (first | (with_reducible exact Below.refl _ _) | (with_reducible refine Below.setCell ?_ ?_ _) | (with_reducible refine Below.alloc ?_ ?_ _) | (with_reducible refine Below.drew ?_) | (with_reducible refine Below.drewN ?_ _) | (with_reducible refine Below.trans ?_ (Below.mono (by with_reducible assumption) ?_)) | go_size | (dsimp only; omega)))


set_option maxHeartbeats 1000000 in
theorem impl_AreaOf (z : Int) (A : Option Addr) (n c : Nat) (xs : List C) (a : Int) (w : World) (h : RdC w w.heap.size A n xs) :
    Calls Try.prog 25 #[.agg #[.int .i64 z, .slice A n c], .int .i64 a] w fun e w' => e = .returned (.int .i64 (areaB z xs a)) ∧ Below w.heap.size w w' := by
  have hs := lt2
  have H := Lib.hid h
  clear h
  by_cases hb : bOk z xs = true
  · have hle := bOk_len hb H.out.1
    have HBK := Lib.hid hb
    go_enter Try.func25, Try.ntmps25
    go_wp2_with (go_at_call 72; refine (impl_BlockOk _ _ _ _ _ _ (H.out.below' (by go_grown) (by go_size))).mono ?_; rintro e w1 ⟨rfl, hb1⟩; obtain ⟨hc1, hf1, hz1⟩ := bcell hb1 (b := w.heap.size) (by go_size); have HB1 := Lib.hid hb1; clear hb1)
    have HW := Lib.hid (show Below w.heap.size w w1 by have hb1 := HB1.out; (repeat' (first | (with_reducible exact Below.refl _ _) | (with_reducible refine Below.setCell ?_ ?_ _) | (with_reducible refine Below.alloc ?_ ?_ _) | (with_reducible refine Below.drew ?_) | (with_reducible refine Below.drewN ?_ _) | (with_reducible refine Below.trans ?_ (Below.mono (by with_reducible assumption) ?_)) | go_size | (dsimp only; omega))))
    have H1 := Lib.hid (H.out.next HW.out)
    clear hb
    go_loopw [5, 14] (fun q i wr => ∃ (k : Nat) (p : Int), k ≤ n ∧ 0 ≤ p ∧ p ≤ 4 * k ∧ i = .int .i64 k ∧ q = .int .i64 p ∧ Hid (p = sumTo (areaF a) xs k) ∧ Hid (Below w1.heap.size w1 wr)) (fun _ i _ => n - (intOf i).toNat)
    case atStart => exact ⟨0, 0, Nat.zero_le _, by omega, by omega, rfl, rfl, (sumTo_zero _ _).symm, Below.refl _ _⟩
    case round =>
      obtain ⟨k, p, hk, hp0, hp1, rfl, rfl, hp, hb⟩ := hrel
      obtain ⟨bc, bf, bz⟩ := bcell hb.out (b := w.heap.size) hz1
      have hcz : ∀ o, wr.cell? ⟨w.heap.size, o, none⟩ = (w.alloc (.cells #[.int .i64 z, .slice A n c] 42)).cell? ⟨w.heap.size, o, none⟩ := fun o => (bc o).trans (hc1 o)
      have HCZ := Lib.hid hcz
      clear bc bf hcz
      have p0 : wr.cell? ⟨w.heap.size, 0, none⟩ = some (.int .i64 z) := (HCZ.out 0).trans (by rw [World.cell?_alloc_new]; rfl)
      have p1 : wr.cell? ⟨w.heap.size, 1, none⟩ = some (.slice A n c) := (HCZ.out 1).trans (by rw [World.cell?_alloc_new]; rfl)
      by_cases hlt : k < n
      · have hsum := sumTo_succ (areaF a) xs k (by rw [H.out.1]; exact hlt)
        have HS := Lib.hid hsum
        clear hsum
        obtain ⟨g, off, rfl, hc0, hc1', hc2⟩ := (H1.out.below hb.out).at_ hlt
        obtain ⟨ab0, ab1⟩ := areaC_bd (cith xs k).s (cith xs k).a (cith xs k).b a
        go_wp2_with (go_at_call 30; refine (impl_CellArea _ _ _ _ _).mono ?_; rintro e w2 ⟨rfl, hb2⟩; have HB2 := Lib.hid hb2; clear hb2)
        go_roundw
        case rel => exact ⟨k + 1, p + areaC (cith xs k).s (cith xs k).a (cith xs k).b a, by omega, by omega, by omega, by go_num, by go_num, by rw [HS.out, hp.out]; rfl, (hb.out.alloc hb.out.size _).trans (HB2.out.mono (by have := hb.out.size; go_size))⟩
        case measure => simp [intOf]; omega
      · go_wp2
        go_ret
        have ek : k = n := by omega
        refine ⟨ret_int ?_, HW.out.trans (hb.out.mono HW.out.size)⟩
        have h2 := hp.out
        have h3 : (areaB z xs a) = sumTo (areaF a) xs xs.length := if_pos HBK.out
        rw [h3, H.out.1, ← ek]; exact h2
  · have hb' : bOk z xs = false := by simpa using hb
    clear hb
    go_enter Try.func25, Try.ntmps25
    go_wp2_with (go_at_call 72; refine (impl_BlockOk _ _ _ _ _ _ (H.out.below' (by go_grown) (by go_size))).mono ?_; rintro e w1 ⟨rfl, hb1⟩)
    go_ret
    refine ⟨ret_int ?_, ?_⟩
    · exact (if_neg (by rw [hb']; simp)).symm
    · (repeat' (first | (with_reducible exact Below.refl _ _) | (with_reducible refine Below.setCell ?_ ?_ _) | (with_reducible refine Below.alloc ?_ ?_ _) | (with_reducible refine Below.drew ?_) | (with_reducible refine Below.drewN ?_ _) | (with_reducible refine Below.trans ?_ (Below.mono (by with_reducible assumption) ?_)) | go_size | (dsimp only; omega)))

end Go.Proofs.Ytlcllpgbpjdofaa
