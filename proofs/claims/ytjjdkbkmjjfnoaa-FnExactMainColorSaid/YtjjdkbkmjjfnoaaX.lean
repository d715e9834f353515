/- Walks of ExchangeCell, both sides, and of its law. No condition. -/
import Derived.Test.YtjjdkbkmjjfnoaaQ
import Derived.Test.YtjjdkbkmjjfnoaaR0
import Derived.StillTailTactics
set_option linter.unusedSimpArgs false
set_option linter.unusedVariables false
namespace Go.Proofs.Ytjjdkbkmjjfnoaa
open Go.RowKit

theorem RdI.below' {w w' : World} {B B' n : Nat} {A : Option Addr} {xs : List Int} (h : RdI w B A n xs) (hb : Below B w w') (hB : B ≤ B') : RdI w' B' A n xs := (h.below hb).more hB
def exC (s a b : Int) (l : List Int) : C := if cOk s a b && listOkI l then splitC s (ith l a.toNat) (ith l b.toNat) else ⟨0, 0, 0⟩
theorem listOkI_t {l : List Int} (h : listOkI l = true) : l.length = 6 := by
  simp only [listOkI, Bool.and_eq_true, beq_iff_eq] at h; exact h.1

set_option maxHeartbeats 1000000 in
theorem spec_ExchangeCell (s a b : Int) (A : Option Addr) (n c : Nat) (l : List Int) (w : World) (h : RdI w w.heap.size A n l) :
    Calls Try.prog 71 #[.agg #[.int .i64 s, .int .i64 a, .int .i64 b], .slice A n c] w fun e w' => e = .returned (.agg #[.int .i64 (exC s a b l).s, .int .i64 (exC s a b l).a, .int .i64 (exC s a b l).b]) ∧ Below w.heap.size w w' := by
  have hs := lt2
  have H := Lib.hid h
  clear h
  by_cases hc : cOk s a b = true
  · by_cases hl : listOkI l = true
    · have hc' := cOk_t hc
      obtain ⟨_, _, ha0, ha1, hb0, hb1', _⟩ := hc'
      have hn : n = 6 := by rw [← H.out.1]; exact listOkI_t hl
      subst hn
      obtain ⟨a', rfl⟩ := Int.eq_ofNat_of_zero_le ha0
      obtain ⟨b', rfl⟩ := Int.eq_ofNat_of_zero_le hb0
      have HR := Lib.hid (show exC s a' b' l = splitC s (ith l a') (ith l b') by simp [exC, hc, hl])
      go_enter Try.func71, Try.ntmps71
      go_wp2_with (first
      | (go_at_call 78; refine (spec_CellOk _ _ _ _).mono ?_; rintro e w1 ⟨rfl, hb1⟩; obtain ⟨bc0, bf0, bz0⟩ := bcell hb1 (b := w.heap.size) (by go_size); obtain ⟨bc1, bf1, bz1⟩ := bcell hb1 (b := w.heap.size + 1) (by go_size); have HB := Lib.hid (show Below w.heap.size w w1 by (repeat' (first | (with_reducible exact Below.refl _ _) | (with_reducible refine Below.setCell ?_ ?_ _) | (with_reducible refine Below.alloc ?_ ?_ _) | (with_reducible refine Below.drew ?_) | (with_reducible refine Below.drewN ?_ _) | (with_reducible refine Below.trans ?_ (Below.mono (by with_reducible assumption) ?_)) | go_size | (dsimp only; omega)))); clear hb1)
      | (go_at_call 100; refine (spec_ListOk _ _ _ _ _ (H.out.next HB.out)).mono ?_; rintro e w' ⟨rfl, rfl⟩))
      obtain ⟨g, off, rfl, d0⟩ := (H.out.next HB.out).at_ (k := a') (by omega)
      obtain ⟨g', off', e', d1⟩ := (H.out.next HB.out).at_ (k := b') (by omega)
      simp only [Option.some.injEq, Addr.mk.injEq, and_true] at e'
      obtain ⟨rfl, rfl⟩ := e'
      have i1 : (a' : Int) < 6 := by omega
      have i2 : (b' : Int) < 6 := by omega
      have i3 : a' < 6 := by omega
      have i4 : b' < 6 := by omega
      have i5 : decide ((a' : Int) < 6) = true := decide_eq_true i1
      have i6 : decide ((b' : Int) < 6) = true := decide_eq_true i2
      go_still_tail 12, (by kernel_rfl)
      go_wp2_with (go_at_call 104; refine (spec_SplitCell _ _ _ _).mono ?_; rintro e w2 ⟨rfl, hb2⟩; obtain ⟨cc1, cf1, cz1⟩ := bcell hb2 (b := w.heap.size + 1) (by go_size); have HB2 := Lib.hid hb2; clear hb2)
      refine bodyPost_ret (by simp [results, Try.results71, go_sem, *]; try rfl) rfl ?_
      have hbA := HB.out
      have hbB := HB2.out
      refine ⟨by rw [HR.out], ?_⟩
      (repeat' (first | (with_reducible exact Below.refl _ _) | (with_reducible refine Below.setCell ?_ ?_ _) | (with_reducible refine Below.alloc ?_ ?_ _) | (with_reducible refine Below.drew ?_) | (with_reducible refine Below.drewN ?_ _) | (with_reducible refine Below.trans ?_ (Below.mono (by with_reducible assumption) ?_)) | go_size | (dsimp only; omega)))
    · have hl' : listOkI l = false := by simpa using hl
      clear hl
      have HR := Lib.hid (show exC s a b l = ⟨0, 0, 0⟩ by simp [exC, hl'])
      go_enter Try.func71, Try.ntmps71
      go_wp2_with (first
      | (go_at_call 78; refine (spec_CellOk _ _ _ _).mono ?_; rintro e w1 ⟨rfl, hb1⟩; obtain ⟨bc0, bf0, bz0⟩ := bcell hb1 (b := w.heap.size) (by go_size); obtain ⟨bc1, bf1, bz1⟩ := bcell hb1 (b := w.heap.size + 1) (by go_size); have HB := Lib.hid (show Below w.heap.size w w1 by (repeat' (first | (with_reducible exact Below.refl _ _) | (with_reducible refine Below.setCell ?_ ?_ _) | (with_reducible refine Below.alloc ?_ ?_ _) | (with_reducible refine Below.drew ?_) | (with_reducible refine Below.drewN ?_ _) | (with_reducible refine Below.trans ?_ (Below.mono (by with_reducible assumption) ?_)) | go_size | (dsimp only; omega)))); clear hb1)
      | (go_at_call 100; refine (spec_ListOk _ _ _ _ _ (H.out.next HB.out)).mono ?_; rintro e w' ⟨rfl, rfl⟩))
      refine bodyPost_ret (by simp [results, Try.results71, go_sem, *]; try rfl) rfl ?_
      have hbA := HB.out
      refine ⟨by rw [HR.out], ?_⟩
      (repeat' (first | (with_reducible exact Below.refl _ _) | (with_reducible refine Below.setCell ?_ ?_ _) | (with_reducible refine Below.alloc ?_ ?_ _) | (with_reducible refine Below.drew ?_) | (with_reducible refine Below.drewN ?_ _) | (with_reducible refine Below.trans ?_ (Below.mono (by with_reducible assumption) ?_)) | go_size | (dsimp only; omega)))
  · have hc' : cOk s a b = false := by simpa using hc
    clear hc
    have HR := Lib.hid (show exC s a b l = ⟨0, 0, 0⟩ by simp [exC, hc'])
    go_enter Try.func71, Try.ntmps71
    go_wp2_with (first
      | (go_at_call 78; refine (spec_CellOk _ _ _ _).mono ?_; rintro e w1 ⟨rfl, hb1⟩; obtain ⟨bc0, bf0, bz0⟩ := bcell hb1 (b := w.heap.size) (by go_size); obtain ⟨bc1, bf1, bz1⟩ := bcell hb1 (b := w.heap.size + 1) (by go_size); have HB := Lib.hid (show Below w.heap.size w w1 by (repeat' (first | (with_reducible exact Below.refl _ _) | (with_reducible refine Below.setCell ?_ ?_ _) | (with_reducible refine Below.alloc ?_ ?_ _) | (with_reducible refine Below.drew ?_) | (with_reducible refine Below.drewN ?_ _) | (with_reducible refine Below.trans ?_ (Below.mono (by with_reducible assumption) ?_)) | go_size | (dsimp only; omega)))); clear hb1)
      | (go_at_call 100; refine (spec_ListOk _ _ _ _ _ (H.out.next HB.out)).mono ?_; rintro e w' ⟨rfl, rfl⟩))
    refine bodyPost_ret (by simp [results, Try.results71, go_sem, *]; try rfl) rfl ?_
    have hbA := HB.out
    refine ⟨by rw [HR.out], ?_⟩
    (repeat' (first | (with_reducible exact Below.refl _ _) | (with_reducible refine Below.setCell ?_ ?_ _) | (with_reducible refine Below.alloc ?_ ?_ _) | (with_reducible refine Below.drew ?_) | (with_reducible refine Below.drewN ?_ _) | (with_reducible refine Below.trans ?_ (Below.mono (by with_reducible assumption) ?_)) | go_size | (dsimp only; omega)))

set_option maxHeartbeats 1000000 in
theorem impl_ExchangeCell (s a b : Int) (A : Option Addr) (n c : Nat) (l : List Int) (w : World) (h : RdI w w.heap.size A n l) :
    Calls Try.prog 73 #[.agg #[.int .i64 s, .int .i64 a, .int .i64 b], .slice A n c] w fun e w' => e = .returned (.agg #[.int .i64 (exC s a b l).s, .int .i64 (exC s a b l).a, .int .i64 (exC s a b l).b]) ∧ Below w.heap.size w w' := by
  have hs := lt2
  have H := Lib.hid h
  clear h
  by_cases hc : cOk s a b = true
  · by_cases hl : listOkI l = true
    · have hc' := cOk_t hc
      obtain ⟨_, _, ha0, ha1, hb0, hb1', _⟩ := hc'
      have hn : n = 6 := by rw [← H.out.1]; exact listOkI_t hl
      subst hn
      obtain ⟨a', rfl⟩ := Int.eq_ofNat_of_zero_le ha0
      obtain ⟨b', rfl⟩ := Int.eq_ofNat_of_zero_le hb0
      have HR := Lib.hid (show exC s a' b' l = splitC s (ith l a') (ith l b') by simp [exC, hc, hl])
      go_enter Try.func73, Try.ntmps73
      go_wp2_with (first
      | (go_at_call 80; refine (impl_CellOk _ _ _ _).mono ?_; rintro e w1 ⟨rfl, hb1⟩; obtain ⟨bc0, bf0, bz0⟩ := bcell hb1 (b := w.heap.size) (by go_size); obtain ⟨bc1, bf1, bz1⟩ := bcell hb1 (b := w.heap.size + 1) (by go_size); have HB := Lib.hid (show Below w.heap.size w w1 by (repeat' (first | (with_reducible exact Below.refl _ _) | (with_reducible refine Below.setCell ?_ ?_ _) | (with_reducible refine Below.alloc ?_ ?_ _) | (with_reducible refine Below.drew ?_) | (with_reducible refine Below.drewN ?_ _) | (with_reducible refine Below.trans ?_ (Below.mono (by with_reducible assumption) ?_)) | go_size | (dsimp only; omega)))); clear hb1)
      | (go_at_call 105; refine (impl_ListOk _ _ _ _ _ (H.out.next HB.out)).mono ?_; rintro e w' ⟨rfl, rfl⟩))
      obtain ⟨g, off, rfl, d0⟩ := (H.out.next HB.out).at_ (k := a') (by omega)
      obtain ⟨g', off', e', d1⟩ := (H.out.next HB.out).at_ (k := b') (by omega)
      simp only [Option.some.injEq, Addr.mk.injEq, and_true] at e'
      obtain ⟨rfl, rfl⟩ := e'
      have i1 : (a' : Int) < 6 := by omega
      have i2 : (b' : Int) < 6 := by omega
      have i3 : a' < 6 := by omega
      have i4 : b' < 6 := by omega
      have i5 : decide ((a' : Int) < 6) = true := decide_eq_true i1
      have i6 : decide ((b' : Int) < 6) = true := decide_eq_true i2
      go_still_tail 12, (by kernel_rfl)
      go_wp2_with (go_at_call 89; refine (impl_SplitCell _ _ _ _).mono ?_; rintro e w2 ⟨rfl, hb2⟩; obtain ⟨cc1, cf1, cz1⟩ := bcell hb2 (b := w.heap.size + 1) (by go_size); have HB2 := Lib.hid hb2; clear hb2)
      refine bodyPost_ret (by simp [results, Try.results73, go_sem, *]; try rfl) rfl ?_
      have hbA := HB.out
      have hbB := HB2.out
      refine ⟨by rw [HR.out], ?_⟩
      (repeat' (first | (with_reducible exact Below.refl _ _) | (with_reducible refine Below.setCell ?_ ?_ _) | (with_reducible refine Below.alloc ?_ ?_ _) | (with_reducible refine Below.drew ?_) | (with_reducible refine Below.drewN ?_ _) | (with_reducible refine Below.trans ?_ (Below.mono (by with_reducible assumption) ?_)) | go_size | (dsimp only; omega)))
    · have hl' : listOkI l = false := by simpa using hl
      clear hl
      have HR := Lib.hid (show exC s a b l = ⟨0, 0, 0⟩ by simp [exC, hl'])
      go_enter Try.func73, Try.ntmps73
      go_wp2_with (first
      | (go_at_call 80; refine (impl_CellOk _ _ _ _).mono ?_; rintro e w1 ⟨rfl, hb1⟩; obtain ⟨bc0, bf0, bz0⟩ := bcell hb1 (b := w.heap.size) (by go_size); obtain ⟨bc1, bf1, bz1⟩ := bcell hb1 (b := w.heap.size + 1) (by go_size); have HB := Lib.hid (show Below w.heap.size w w1 by (repeat' (first | (with_reducible exact Below.refl _ _) | (with_reducible refine Below.setCell ?_ ?_ _) | (with_reducible refine Below.alloc ?_ ?_ _) | (with_reducible refine Below.drew ?_) | (with_reducible refine Below.drewN ?_ _) | (with_reducible refine Below.trans ?_ (Below.mono (by with_reducible assumption) ?_)) | go_size | (dsimp only; omega)))); clear hb1)
      | (go_at_call 105; refine (impl_ListOk _ _ _ _ _ (H.out.next HB.out)).mono ?_; rintro e w' ⟨rfl, rfl⟩))
      refine bodyPost_ret (by simp [results, Try.results73, go_sem, *]; try rfl) rfl ?_
      have hbA := HB.out
      refine ⟨by rw [HR.out], ?_⟩
      (repeat' (first | (with_reducible exact Below.refl _ _) | (with_reducible refine Below.setCell ?_ ?_ _) | (with_reducible refine Below.alloc ?_ ?_ _) | (with_reducible refine Below.drew ?_) | (with_reducible refine Below.drewN ?_ _) | (with_reducible refine Below.trans ?_ (Below.mono (by with_reducible assumption) ?_)) | go_size | (dsimp only; omega)))
  · have hc' : cOk s a b = false := by simpa using hc
    clear hc
    have HR := Lib.hid (show exC s a b l = ⟨0, 0, 0⟩ by simp [exC, hc'])
    go_enter Try.func73, Try.ntmps73
    go_wp2_with (first
      | (go_at_call 80; refine (impl_CellOk _ _ _ _).mono ?_; rintro e w1 ⟨rfl, hb1⟩; obtain ⟨bc0, bf0, bz0⟩ := bcell hb1 (b := w.heap.size) (by go_size); obtain ⟨bc1, bf1, bz1⟩ := bcell hb1 (b := w.heap.size + 1) (by go_size); have HB := Lib.hid (show Below w.heap.size w w1 by (repeat' (first | (with_reducible exact Below.refl _ _) | (with_reducible refine Below.setCell ?_ ?_ _) | (with_reducible refine Below.alloc ?_ ?_ _) | (with_reducible refine Below.drew ?_) | (with_reducible refine Below.drewN ?_ _) | (with_reducible refine Below.trans ?_ (Below.mono (by with_reducible assumption) ?_)) | go_size | (dsimp only; omega)))); clear hb1)
      | (go_at_call 105; refine (impl_ListOk _ _ _ _ _ (H.out.next HB.out)).mono ?_; rintro e w' ⟨rfl, rfl⟩))
    refine bodyPost_ret (by simp [results, Try.results73, go_sem, *]; try rfl) rfl ?_
    have hbA := HB.out
    refine ⟨by rw [HR.out], ?_⟩
    (repeat' (first | (with_reducible exact Below.refl _ _) | (with_reducible refine Below.setCell ?_ ?_ _) | (with_reducible refine Below.alloc ?_ ?_ _) | (with_reducible refine Below.drew ?_) | (with_reducible refine Below.drewN ?_ _) | (with_reducible refine Below.trans ?_ (Below.mono (by with_reducible assumption) ?_)) | go_size | (dsimp only; omega)))

set_option maxRecDepth 100000 in
set_option maxHeartbeats 1000000 in
theorem walk_FnExactExchangeCell_small (s a b : Int) (A : Option Addr) (n c : Nat) (xs : List Int) (w : World) (hs0 : I64 s ∧ I64 a ∧ I64 b) (h : RdI w w.heap.size A n xs) (hn : n ≤ 1048576) :
    Calls Try.prog 21 #[.agg #[.int .i64 s, .int .i64 a, .int .i64 b], .slice A n c] w fun e w' => e = .returned (.bool true) ∧ Below w.heap.size w w' := by
  have a_x := h
  have HW := Below.refl w.heap.size w
  have hs := lt2
  have hs3 := lt3
  go_enter Try.func21, Try.ntmps21
  go_wp2_with fail
  refine (laws_toCell _ _ _ _).mono ?_
  rintro e w1 ⟨rfl, hb1⟩
  have hy1 := bsize hb1
  try simp at hy1
  have HB1 : Below w.heap.size w w1 := by (repeat' (first | (with_reducible exact Below.refl _ _) | (with_reducible refine Below.setCell ?_ ?_ _) | (with_reducible refine Below.alloc ?_ ?_ _) | (with_reducible refine Below.drew ?_) | (with_reducible refine Below.drewN ?_ _) | (with_reducible refine Below.trans ?_ (Below.mono (by with_reducible assumption) ?_)) | go_size | (dsimp only; omega)))
  have hx1 := HB1.size
  obtain ⟨bc1, bf1, bz1⟩ := bcell hb1 (b := w.heap.size) (by go_size)
  have t0_0 : w1.cell? ⟨w.heap.size, 0, none⟩ = some (.int .i64 s) := (bc1 0).trans (by first | (rw [World.cell?_alloc_new]; done) | (rw [World.cell?_alloc_new]; rfl) | (simp [go_sem]; done) | (rw [World.cell?_alloc_lt _ _ _ (by go_size), World.cell?_alloc_new]; rfl))
  have t0_1 : w1.cell? ⟨w.heap.size, 1, none⟩ = some (.int .i64 a) := (bc1 1).trans (by first | (rw [World.cell?_alloc_new]; done) | (rw [World.cell?_alloc_new]; rfl) | (simp [go_sem]; done) | (rw [World.cell?_alloc_lt _ _ _ (by go_size), World.cell?_alloc_new]; rfl))
  have t0_2 : w1.cell? ⟨w.heap.size, 2, none⟩ = some (.int .i64 b) := (bc1 2).trans (by first | (rw [World.cell?_alloc_new]; done) | (rw [World.cell?_alloc_new]; rfl) | (simp [go_sem]; done) | (rw [World.cell?_alloc_lt _ _ _ (by go_size), World.cell?_alloc_new]; rfl))
  clear bc1 bf1
  replace a_x := a_x.below (HB1.mono (by omega))
  replace HW := HW.trans (HB1.mono (by omega))
  clear hb1 HB1
  go_wp2_with fail
  refine (laws_toIntS _ _ _ _ _ (a_x.below' (by go_grown) (by go_size))).mono ?_
  rintro e w2 ⟨g_p, rfl, f_p, hb2⟩
  have l_p := Lib.hid f_p.lt
  try simp only [World.size_alloc] at l_p
  have hy2 := bsize hb2
  try simp at hy2
  have HB2 : Below w1.heap.size w1 w2 := by (repeat' (first | (with_reducible exact Below.refl _ _) | (with_reducible refine Below.setCell ?_ ?_ _) | (with_reducible refine Below.alloc ?_ ?_ _) | (with_reducible refine Below.drew ?_) | (with_reducible refine Below.drewN ?_ _) | (with_reducible refine Below.trans ?_ (Below.mono (by with_reducible assumption) ?_)) | go_size | (dsimp only; omega)))
  have hx2 := HB2.size
  obtain ⟨bc2, bf2, bz2⟩ := bcell hb2 (b := w.heap.size) (by go_size)
  replace t0_0 : w2.cell? ⟨w.heap.size, 0, none⟩ = some (.int .i64 s) := (bc2 0).trans (by first | exact t0_0 | exact (World.cell?_alloc_lt _ _ _ (by go_size)).trans t0_0)
  replace t0_1 : w2.cell? ⟨w.heap.size, 1, none⟩ = some (.int .i64 a) := (bc2 1).trans (by first | exact t0_1 | exact (World.cell?_alloc_lt _ _ _ (by go_size)).trans t0_1)
  replace t0_2 : w2.cell? ⟨w.heap.size, 2, none⟩ = some (.int .i64 b) := (bc2 2).trans (by first | exact t0_2 | exact (World.cell?_alloc_lt _ _ _ (by go_size)).trans t0_2)
  clear bc2 bf2
  replace a_x := a_x.below (HB2.mono (by omega))
  replace HW := HW.trans (HB2.mono (by omega))
  clear hb2 HB2
  have m_p : ∀ k, (Value.slice (some ⟨g_p, 0, none⟩) n n).ownBlock = some k → w1.heap.size ≤ k ∧ k < w2.heap.size := fun k e => ⟨Nat.le_trans (by go_size) (f_p.lt k e).1, (f_p.lt k e).2⟩
  clear l_p
  have l_p := Lib.hid m_p
  clear m_p
  go_wp2_with fail
  refine (spec_ExchangeCell _ _ _ _ _ _ _ _ (f_p.rd.below' (by go_grown) (by go_size))).mono ?_
  rintro e w3 ⟨rfl, hb3⟩
  have hy3 := bsize hb3
  try simp at hy3
  have HB3 : Below w2.heap.size w2 w3 := by (repeat' (first | (with_reducible exact Below.refl _ _) | (with_reducible refine Below.setCell ?_ ?_ _) | (with_reducible refine Below.alloc ?_ ?_ _) | (with_reducible refine Below.drew ?_) | (with_reducible refine Below.drewN ?_ _) | (with_reducible refine Below.trans ?_ (Below.mono (by with_reducible assumption) ?_)) | go_size | (dsimp only; omega)))
  have hx3 := HB3.size
  obtain ⟨bc3, bf3, bz3⟩ := bcell hb3 (b := w.heap.size) (by go_size)
  replace t0_0 : w3.cell? ⟨w.heap.size, 0, none⟩ = some (.int .i64 s) := (bc3 0).trans (by first | exact t0_0 | exact (World.cell?_alloc_lt _ _ _ (by go_size)).trans t0_0)
  replace t0_1 : w3.cell? ⟨w.heap.size, 1, none⟩ = some (.int .i64 a) := (bc3 1).trans (by first | exact t0_1 | exact (World.cell?_alloc_lt _ _ _ (by go_size)).trans t0_1)
  replace t0_2 : w3.cell? ⟨w.heap.size, 2, none⟩ = some (.int .i64 b) := (bc3 2).trans (by first | exact t0_2 | exact (World.cell?_alloc_lt _ _ _ (by go_size)).trans t0_2)
  clear bc3 bf3
  replace f_p := f_p.next HB3
  replace a_x := a_x.below (HB3.mono (by omega))
  replace HW := HW.trans (HB3.mono (by omega))
  clear hb3 HB3
  go_wp2_with fail
  refine (laws_toIntS _ _ _ _ _ (a_x.below' (by go_grown) (by go_size))).mono ?_
  rintro e w4 ⟨g_x1, rfl, f_x1, hb4⟩
  have l_x1 := Lib.hid f_x1.lt
  try simp only [World.size_alloc] at l_x1
  have hy4 := bsize hb4
  try simp at hy4
  have HB4 : Below w3.heap.size w3 w4 := by (repeat' (first | (with_reducible exact Below.refl _ _) | (with_reducible refine Below.setCell ?_ ?_ _) | (with_reducible refine Below.alloc ?_ ?_ _) | (with_reducible refine Below.drew ?_) | (with_reducible refine Below.drewN ?_ _) | (with_reducible refine Below.trans ?_ (Below.mono (by with_reducible assumption) ?_)) | go_size | (dsimp only; omega)))
  have hx4 := HB4.size
  obtain ⟨bc4, bf4, bz4⟩ := bcell hb4 (b := w.heap.size) (by go_size)
  replace t0_0 : w4.cell? ⟨w.heap.size, 0, none⟩ = some (.int .i64 s) := (bc4 0).trans (by first | exact t0_0 | exact (World.cell?_alloc_lt _ _ _ (by go_size)).trans t0_0)
  replace t0_1 : w4.cell? ⟨w.heap.size, 1, none⟩ = some (.int .i64 a) := (bc4 1).trans (by first | exact t0_1 | exact (World.cell?_alloc_lt _ _ _ (by go_size)).trans t0_1)
  replace t0_2 : w4.cell? ⟨w.heap.size, 2, none⟩ = some (.int .i64 b) := (bc4 2).trans (by first | exact t0_2 | exact (World.cell?_alloc_lt _ _ _ (by go_size)).trans t0_2)
  clear bc4 bf4
  obtain ⟨bc4, bf4, bz4⟩ := bcell hb4 (b := w3.heap.size) (by go_size)
  have t1_0 : w4.cell? ⟨w3.heap.size, 0, none⟩ = some (.int .i64 (exC s a b xs).s) := (bc4 0).trans (by first | (rw [World.cell?_alloc_new]; done) | (rw [World.cell?_alloc_new]; rfl) | (simp [go_sem]; done) | (rw [World.cell?_alloc_lt _ _ _ (by go_size), World.cell?_alloc_new]; rfl))
  have t1_1 : w4.cell? ⟨w3.heap.size, 1, none⟩ = some (.int .i64 (exC s a b xs).a) := (bc4 1).trans (by first | (rw [World.cell?_alloc_new]; done) | (rw [World.cell?_alloc_new]; rfl) | (simp [go_sem]; done) | (rw [World.cell?_alloc_lt _ _ _ (by go_size), World.cell?_alloc_new]; rfl))
  have t1_2 : w4.cell? ⟨w3.heap.size, 2, none⟩ = some (.int .i64 (exC s a b xs).b) := (bc4 2).trans (by first | (rw [World.cell?_alloc_new]; done) | (rw [World.cell?_alloc_new]; rfl) | (simp [go_sem]; done) | (rw [World.cell?_alloc_lt _ _ _ (by go_size), World.cell?_alloc_new]; rfl))
  clear bc4 bf4
  replace f_p := f_p.next HB4
  replace a_x := a_x.below (HB4.mono (by omega))
  replace HW := HW.trans (HB4.mono (by omega))
  clear hb4 HB4
  have m_x1 : ∀ k, (Value.slice (some ⟨g_x1, 0, none⟩) n n).ownBlock = some k → w3.heap.size ≤ k ∧ k < w4.heap.size := fun k e => ⟨Nat.le_trans (by go_size) (f_x1.lt k e).1, (f_x1.lt k e).2⟩
  clear l_x1
  have l_x1 := Lib.hid m_x1
  clear m_x1
  go_wp2_with fail
  refine (laws_toCell _ _ _ _).mono ?_
  rintro e w5 ⟨rfl, hb5⟩
  have hy5 := bsize hb5
  try simp at hy5
  have HB5 : Below w4.heap.size w4 w5 := by (repeat' (first | (with_reducible exact Below.refl _ _) | (with_reducible refine Below.setCell ?_ ?_ _) | (with_reducible refine Below.alloc ?_ ?_ _) | (with_reducible refine Below.drew ?_) | (with_reducible refine Below.drewN ?_ _) | (with_reducible refine Below.trans ?_ (Below.mono (by with_reducible assumption) ?_)) | go_size | (dsimp only; omega)))
  have hx5 := HB5.size
  obtain ⟨bc5, bf5, bz5⟩ := bcell hb5 (b := w.heap.size) (by go_size)
  replace t0_0 : w5.cell? ⟨w.heap.size, 0, none⟩ = some (.int .i64 s) := (bc5 0).trans (by first | exact t0_0 | exact (World.cell?_alloc_lt _ _ _ (by go_size)).trans t0_0)
  replace t0_1 : w5.cell? ⟨w.heap.size, 1, none⟩ = some (.int .i64 a) := (bc5 1).trans (by first | exact t0_1 | exact (World.cell?_alloc_lt _ _ _ (by go_size)).trans t0_1)
  replace t0_2 : w5.cell? ⟨w.heap.size, 2, none⟩ = some (.int .i64 b) := (bc5 2).trans (by first | exact t0_2 | exact (World.cell?_alloc_lt _ _ _ (by go_size)).trans t0_2)
  clear bc5 bf5
  obtain ⟨bc5, bf5, bz5⟩ := bcell hb5 (b := w3.heap.size) (by go_size)
  replace t1_0 : w5.cell? ⟨w3.heap.size, 0, none⟩ = some (.int .i64 (exC s a b xs).s) := (bc5 0).trans (by first | exact t1_0 | exact (World.cell?_alloc_lt _ _ _ (by go_size)).trans t1_0)
  replace t1_1 : w5.cell? ⟨w3.heap.size, 1, none⟩ = some (.int .i64 (exC s a b xs).a) := (bc5 1).trans (by first | exact t1_1 | exact (World.cell?_alloc_lt _ _ _ (by go_size)).trans t1_1)
  replace t1_2 : w5.cell? ⟨w3.heap.size, 2, none⟩ = some (.int .i64 (exC s a b xs).b) := (bc5 2).trans (by first | exact t1_2 | exact (World.cell?_alloc_lt _ _ _ (by go_size)).trans t1_2)
  clear bc5 bf5
  replace f_p := f_p.next HB5
  replace f_x1 := f_x1.next HB5
  replace a_x := a_x.below (HB5.mono (by omega))
  replace HW := HW.trans (HB5.mono (by omega))
  clear hb5 HB5
  go_wp2_with fail
  refine (impl_ExchangeCell _ _ _ _ _ _ _ _ (f_x1.rd.below' (by go_grown) (by go_size))).mono ?_
  rintro e w6 ⟨rfl, hb6⟩
  have hy6 := bsize hb6
  try simp at hy6
  have HB6 : Below w5.heap.size w5 w6 := by (repeat' (first | (with_reducible exact Below.refl _ _) | (with_reducible refine Below.setCell ?_ ?_ _) | (with_reducible refine Below.alloc ?_ ?_ _) | (with_reducible refine Below.drew ?_) | (with_reducible refine Below.drewN ?_ _) | (with_reducible refine Below.trans ?_ (Below.mono (by with_reducible assumption) ?_)) | go_size | (dsimp only; omega)))
  have hx6 := HB6.size
  obtain ⟨bc6, bf6, bz6⟩ := bcell hb6 (b := w.heap.size) (by go_size)
  replace t0_0 : w6.cell? ⟨w.heap.size, 0, none⟩ = some (.int .i64 s) := (bc6 0).trans (by first | exact t0_0 | exact (World.cell?_alloc_lt _ _ _ (by go_size)).trans t0_0)
  replace t0_1 : w6.cell? ⟨w.heap.size, 1, none⟩ = some (.int .i64 a) := (bc6 1).trans (by first | exact t0_1 | exact (World.cell?_alloc_lt _ _ _ (by go_size)).trans t0_1)
  replace t0_2 : w6.cell? ⟨w.heap.size, 2, none⟩ = some (.int .i64 b) := (bc6 2).trans (by first | exact t0_2 | exact (World.cell?_alloc_lt _ _ _ (by go_size)).trans t0_2)
  clear bc6 bf6
  obtain ⟨bc6, bf6, bz6⟩ := bcell hb6 (b := w3.heap.size) (by go_size)
  replace t1_0 : w6.cell? ⟨w3.heap.size, 0, none⟩ = some (.int .i64 (exC s a b xs).s) := (bc6 0).trans (by first | exact t1_0 | exact (World.cell?_alloc_lt _ _ _ (by go_size)).trans t1_0)
  replace t1_1 : w6.cell? ⟨w3.heap.size, 1, none⟩ = some (.int .i64 (exC s a b xs).a) := (bc6 1).trans (by first | exact t1_1 | exact (World.cell?_alloc_lt _ _ _ (by go_size)).trans t1_1)
  replace t1_2 : w6.cell? ⟨w3.heap.size, 2, none⟩ = some (.int .i64 (exC s a b xs).b) := (bc6 2).trans (by first | exact t1_2 | exact (World.cell?_alloc_lt _ _ _ (by go_size)).trans t1_2)
  clear bc6 bf6
  replace f_p := f_p.next HB6
  replace f_x1 := f_x1.next HB6
  replace a_x := a_x.below (HB6.mono (by omega))
  replace HW := HW.trans (HB6.mono (by omega))
  clear hb6 HB6
  go_wp2_with fail
  refine (laws_eqCell_self _ _ _ _).mono ?_
  rintro e w7 ⟨rfl, hb7⟩
  have hy7 := bsize hb7
  try simp at hy7
  have HB7 : Below w6.heap.size w6 w7 := by (repeat' (first | (with_reducible exact Below.refl _ _) | (with_reducible refine Below.setCell ?_ ?_ _) | (with_reducible refine Below.alloc ?_ ?_ _) | (with_reducible refine Below.drew ?_) | (with_reducible refine Below.drewN ?_ _) | (with_reducible refine Below.trans ?_ (Below.mono (by with_reducible assumption) ?_)) | go_size | (dsimp only; omega)))
  have hx7 := HB7.size
  obtain ⟨bc7, bf7, bz7⟩ := bcell hb7 (b := w.heap.size) (by go_size)
  replace t0_0 : w7.cell? ⟨w.heap.size, 0, none⟩ = some (.int .i64 s) := (bc7 0).trans (by first | exact t0_0 | exact (World.cell?_alloc_lt _ _ _ (by go_size)).trans t0_0)
  replace t0_1 : w7.cell? ⟨w.heap.size, 1, none⟩ = some (.int .i64 a) := (bc7 1).trans (by first | exact t0_1 | exact (World.cell?_alloc_lt _ _ _ (by go_size)).trans t0_1)
  replace t0_2 : w7.cell? ⟨w.heap.size, 2, none⟩ = some (.int .i64 b) := (bc7 2).trans (by first | exact t0_2 | exact (World.cell?_alloc_lt _ _ _ (by go_size)).trans t0_2)
  clear bc7 bf7
  obtain ⟨bc7, bf7, bz7⟩ := bcell hb7 (b := w3.heap.size) (by go_size)
  replace t1_0 : w7.cell? ⟨w3.heap.size, 0, none⟩ = some (.int .i64 (exC s a b xs).s) := (bc7 0).trans (by first | exact t1_0 | exact (World.cell?_alloc_lt _ _ _ (by go_size)).trans t1_0)
  replace t1_1 : w7.cell? ⟨w3.heap.size, 1, none⟩ = some (.int .i64 (exC s a b xs).a) := (bc7 1).trans (by first | exact t1_1 | exact (World.cell?_alloc_lt _ _ _ (by go_size)).trans t1_1)
  replace t1_2 : w7.cell? ⟨w3.heap.size, 2, none⟩ = some (.int .i64 (exC s a b xs).b) := (bc7 2).trans (by first | exact t1_2 | exact (World.cell?_alloc_lt _ _ _ (by go_size)).trans t1_2)
  clear bc7 bf7
  obtain ⟨bc7, bf7, bz7⟩ := bcell hb7 (b := w6.heap.size) (by go_size)
  have t2_0 : w7.cell? ⟨w6.heap.size, 0, none⟩ = some (.int .i64 (exC s a b xs).s) := (bc7 0).trans (by first | (rw [World.cell?_alloc_new]; done) | (rw [World.cell?_alloc_new]; rfl) | (simp [go_sem]; done) | (rw [World.cell?_alloc_lt _ _ _ (by go_size), World.cell?_alloc_new]; rfl))
  have t2_1 : w7.cell? ⟨w6.heap.size, 1, none⟩ = some (.int .i64 (exC s a b xs).a) := (bc7 1).trans (by first | (rw [World.cell?_alloc_new]; done) | (rw [World.cell?_alloc_new]; rfl) | (simp [go_sem]; done) | (rw [World.cell?_alloc_lt _ _ _ (by go_size), World.cell?_alloc_new]; rfl))
  have t2_2 : w7.cell? ⟨w6.heap.size, 2, none⟩ = some (.int .i64 (exC s a b xs).b) := (bc7 2).trans (by first | (rw [World.cell?_alloc_new]; done) | (rw [World.cell?_alloc_new]; rfl) | (simp [go_sem]; done) | (rw [World.cell?_alloc_lt _ _ _ (by go_size), World.cell?_alloc_new]; rfl))
  clear bc7 bf7
  replace f_p := f_p.next HB7
  replace f_x1 := f_x1.next HB7
  replace a_x := a_x.below (HB7.mono (by omega))
  replace HW := HW.trans (HB7.mono (by omega))
  clear hb7 HB7
  go_wp2_with fail
  refine (laws_toIntS _ _ _ _ _ (a_x.below' (by go_grown) (by go_size))).mono ?_
  rintro e w8 ⟨g_q, rfl, f_q, hb8⟩
  have l_q := Lib.hid f_q.lt
  try simp only [World.size_alloc] at l_q
  have hy8 := bsize hb8
  try simp at hy8
  have HB8 : Below w7.heap.size w7 w8 := by (repeat' (first | (with_reducible exact Below.refl _ _) | (with_reducible refine Below.setCell ?_ ?_ _) | (with_reducible refine Below.alloc ?_ ?_ _) | (with_reducible refine Below.drew ?_) | (with_reducible refine Below.drewN ?_ _) | (with_reducible refine Below.trans ?_ (Below.mono (by with_reducible assumption) ?_)) | go_size | (dsimp only; omega)))
  have hx8 := HB8.size
  obtain ⟨bc8, bf8, bz8⟩ := bcell hb8 (b := w.heap.size) (by go_size)
  replace t0_0 : w8.cell? ⟨w.heap.size, 0, none⟩ = some (.int .i64 s) := (bc8 0).trans (by first | exact t0_0 | exact (World.cell?_alloc_lt _ _ _ (by go_size)).trans t0_0)
  replace t0_1 : w8.cell? ⟨w.heap.size, 1, none⟩ = some (.int .i64 a) := (bc8 1).trans (by first | exact t0_1 | exact (World.cell?_alloc_lt _ _ _ (by go_size)).trans t0_1)
  replace t0_2 : w8.cell? ⟨w.heap.size, 2, none⟩ = some (.int .i64 b) := (bc8 2).trans (by first | exact t0_2 | exact (World.cell?_alloc_lt _ _ _ (by go_size)).trans t0_2)
  clear bc8 bf8
  obtain ⟨bc8, bf8, bz8⟩ := bcell hb8 (b := w3.heap.size) (by go_size)
  replace t1_0 : w8.cell? ⟨w3.heap.size, 0, none⟩ = some (.int .i64 (exC s a b xs).s) := (bc8 0).trans (by first | exact t1_0 | exact (World.cell?_alloc_lt _ _ _ (by go_size)).trans t1_0)
  replace t1_1 : w8.cell? ⟨w3.heap.size, 1, none⟩ = some (.int .i64 (exC s a b xs).a) := (bc8 1).trans (by first | exact t1_1 | exact (World.cell?_alloc_lt _ _ _ (by go_size)).trans t1_1)
  replace t1_2 : w8.cell? ⟨w3.heap.size, 2, none⟩ = some (.int .i64 (exC s a b xs).b) := (bc8 2).trans (by first | exact t1_2 | exact (World.cell?_alloc_lt _ _ _ (by go_size)).trans t1_2)
  clear bc8 bf8
  obtain ⟨bc8, bf8, bz8⟩ := bcell hb8 (b := w6.heap.size) (by go_size)
  replace t2_0 : w8.cell? ⟨w6.heap.size, 0, none⟩ = some (.int .i64 (exC s a b xs).s) := (bc8 0).trans (by first | exact t2_0 | exact (World.cell?_alloc_lt _ _ _ (by go_size)).trans t2_0)
  replace t2_1 : w8.cell? ⟨w6.heap.size, 1, none⟩ = some (.int .i64 (exC s a b xs).a) := (bc8 1).trans (by first | exact t2_1 | exact (World.cell?_alloc_lt _ _ _ (by go_size)).trans t2_1)
  replace t2_2 : w8.cell? ⟨w6.heap.size, 2, none⟩ = some (.int .i64 (exC s a b xs).b) := (bc8 2).trans (by first | exact t2_2 | exact (World.cell?_alloc_lt _ _ _ (by go_size)).trans t2_2)
  clear bc8 bf8
  replace f_p := f_p.next HB8
  replace f_x1 := f_x1.next HB8
  replace a_x := a_x.below (HB8.mono (by omega))
  replace HW := HW.trans (HB8.mono (by omega))
  clear hb8 HB8
  have m_q : ∀ k, (Value.slice (some ⟨g_q, 0, none⟩) n n).ownBlock = some k → w7.heap.size ≤ k ∧ k < w8.heap.size := fun k e => ⟨Nat.le_trans (by go_size) (f_q.lt k e).1, (f_q.lt k e).2⟩
  clear l_q
  have l_q := Lib.hid m_q
  clear m_q
  go_wp2_with fail
  refine (laws_eqIntS_self _ _ _ _ _ _ _ _ (f_x1.rd.below' (by go_grown) (by go_size)) (f_q.rd.below' (by go_grown) (by go_size))).mono ?_
  rintro e w9 ⟨rfl, hb9⟩
  have hy9 := bsize hb9
  try simp at hy9
  have HB9 : Below w8.heap.size w8 w9 := by (repeat' (first | (with_reducible exact Below.refl _ _) | (with_reducible refine Below.setCell ?_ ?_ _) | (with_reducible refine Below.alloc ?_ ?_ _) | (with_reducible refine Below.drew ?_) | (with_reducible refine Below.drewN ?_ _) | (with_reducible refine Below.trans ?_ (Below.mono (by with_reducible assumption) ?_)) | go_size | (dsimp only; omega)))
  have hx9 := HB9.size
  obtain ⟨bc9, bf9, bz9⟩ := bcell hb9 (b := w.heap.size) (by go_size)
  replace t0_0 : w9.cell? ⟨w.heap.size, 0, none⟩ = some (.int .i64 s) := (bc9 0).trans (by first | exact t0_0 | exact (World.cell?_alloc_lt _ _ _ (by go_size)).trans t0_0)
  replace t0_1 : w9.cell? ⟨w.heap.size, 1, none⟩ = some (.int .i64 a) := (bc9 1).trans (by first | exact t0_1 | exact (World.cell?_alloc_lt _ _ _ (by go_size)).trans t0_1)
  replace t0_2 : w9.cell? ⟨w.heap.size, 2, none⟩ = some (.int .i64 b) := (bc9 2).trans (by first | exact t0_2 | exact (World.cell?_alloc_lt _ _ _ (by go_size)).trans t0_2)
  clear bc9 bf9
  obtain ⟨bc9, bf9, bz9⟩ := bcell hb9 (b := w3.heap.size) (by go_size)
  replace t1_0 : w9.cell? ⟨w3.heap.size, 0, none⟩ = some (.int .i64 (exC s a b xs).s) := (bc9 0).trans (by first | exact t1_0 | exact (World.cell?_alloc_lt _ _ _ (by go_size)).trans t1_0)
  replace t1_1 : w9.cell? ⟨w3.heap.size, 1, none⟩ = some (.int .i64 (exC s a b xs).a) := (bc9 1).trans (by first | exact t1_1 | exact (World.cell?_alloc_lt _ _ _ (by go_size)).trans t1_1)
  replace t1_2 : w9.cell? ⟨w3.heap.size, 2, none⟩ = some (.int .i64 (exC s a b xs).b) := (bc9 2).trans (by first | exact t1_2 | exact (World.cell?_alloc_lt _ _ _ (by go_size)).trans t1_2)
  clear bc9 bf9
  obtain ⟨bc9, bf9, bz9⟩ := bcell hb9 (b := w6.heap.size) (by go_size)
  replace t2_0 : w9.cell? ⟨w6.heap.size, 0, none⟩ = some (.int .i64 (exC s a b xs).s) := (bc9 0).trans (by first | exact t2_0 | exact (World.cell?_alloc_lt _ _ _ (by go_size)).trans t2_0)
  replace t2_1 : w9.cell? ⟨w6.heap.size, 1, none⟩ = some (.int .i64 (exC s a b xs).a) := (bc9 1).trans (by first | exact t2_1 | exact (World.cell?_alloc_lt _ _ _ (by go_size)).trans t2_1)
  replace t2_2 : w9.cell? ⟨w6.heap.size, 2, none⟩ = some (.int .i64 (exC s a b xs).b) := (bc9 2).trans (by first | exact t2_2 | exact (World.cell?_alloc_lt _ _ _ (by go_size)).trans t2_2)
  clear bc9 bf9
  replace f_p := f_p.next HB9
  replace f_x1 := f_x1.next HB9
  replace f_q := f_q.next HB9
  replace a_x := a_x.below (HB9.mono (by omega))
  replace HW := HW.trans (HB9.mono (by omega))
  clear hb9 HB9
  go_wp2
  go_ret
  refine ⟨rfl, ?_⟩
  (repeat' (first | (with_reducible exact Below.refl _ _) | (with_reducible exact HW) | (with_reducible refine Below.setCell ?_ ?_ _) | (with_reducible refine Below.alloc ?_ ?_ _) | (with_reducible refine Below.drew ?_) | (with_reducible refine Below.drewN ?_ _) | (with_reducible refine Below.trans ?_ (Below.mono (by with_reducible assumption) ?_)) | go_size | (dsimp only; omega)))

set_option maxHeartbeats 400000 in
theorem walk_FnExactExchangeCell_big (s a b : Int) (A : Option Addr) (n c : Nat) (xs : List Int) (w : World) (hb : 1048576 < n) (hm : n ≤ 9223372036854775807) :
    Calls Try.prog 21 #[.agg #[.int .i64 s, .int .i64 a, .int .i64 b], .slice A n c] w fun e w' => e = .returned (.bool true) ∧ Below w.heap.size w w' := by
  go_enter Try.func21, Try.ntmps21
  go_wp2
  go_ret
  exact ⟨rfl, by go_grown⟩

theorem walk_FnExactExchangeCell (s a b : Int) (A : Option Addr) (n c : Nat) (xs : List Int) (w : World) (hs0 : I64 s ∧ I64 a ∧ I64 b) (h : ArgI w A n xs) :
    Calls Try.prog 21 #[.agg #[.int .i64 s, .int .i64 a, .int .i64 b], .slice A n c] w fun e w' => e = .returned (.bool true) ∧ Below w.heap.size w w' := by
  by_cases hb : n ≤ 1048576
  · exact walk_FnExactExchangeCell_small s a b A n c xs w hs0 (h.2 (by omega)) hb
  · exact walk_FnExactExchangeCell_big s a b A n c xs w (by omega) (by have := h.1; unfold maxLen at this; omega)

end Go.Proofs.Ytjjdkbkmjjfnoaa
