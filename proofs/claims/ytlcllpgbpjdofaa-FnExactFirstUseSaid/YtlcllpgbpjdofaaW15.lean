/- Walk of the law on FirstUse: it returns true. No condition. -/
import Derived.Test.YtlcllpgbpjdofaaW6
import Derived.Test.YtlcllpgbpjdofaaFu
import Derived.Test.YtlcllpgbpjdofaaX
set_option linter.unusedSimpArgs false
set_option linter.unusedVariables false
set_option maxRecDepth 100000
namespace Go.Proofs.Ytlcllpgbpjdofaa
open Go.RowKit

set_option maxRecDepth 100000 in
set_option maxHeartbeats 1000000 in
theorem walk_FnExactFirstUse_small (z : Int) (A : Option Addr) (n c : Nat) (xs : List C) (w : World) (hz : I64 z) (h : RdC w w.heap.size A n xs) (hn : n ≤ 1048576) :
    Calls Try.prog 8 #[.agg #[.int .i64 z, .slice A n c]] w fun e w' => e = .returned (.bool true) ∧ Below w.heap.size w w' := by
  have hsz := szB_small hn
  have a_x := h
  have HW := Below.refl w.heap.size w
  have hs := lt2
  have hs3 := lt3
  go_enter Try.func8, Try.ntmps8
  go_wp2_with fail
  refine (laws_szBlock _ _ _ _ _ (by omega)).mono ?_
  rintro e w1 ⟨rfl, hb1⟩
  have hy1 := bsize hb1
  try simp at hy1
  have HB1 : Below w.heap.size w w1 := by (repeat' (first | (with_reducible exact Below.refl _ _) | (with_reducible refine Below.setCell ?_ ?_ _) | (with_reducible refine Below.alloc ?_ ?_ _) | (with_reducible refine Below.drew ?_) | (with_reducible refine Below.drewN ?_ _) | (with_reducible refine Below.trans ?_ (Below.mono (by with_reducible assumption) ?_)) | go_size | (dsimp only; omega)))
  have hx1 := HB1.size
  obtain ⟨bc1, bf1, bz1⟩ := bcell hb1 (b := w.heap.size) (by go_size)
  have t0_0 : w1.cell? ⟨w.heap.size, 0, none⟩ = some (.int .i64 z) := (bc1 0).trans (by first | (rw [World.cell?_alloc_new]; done) | (rw [World.cell?_alloc_new]; rfl) | (simp [go_sem]; done) | (rw [World.cell?_alloc_lt _ _ _ (by go_size), World.cell?_alloc_new]; rfl))
  have t0_1 : w1.cell? ⟨w.heap.size, 1, none⟩ = some (.slice A n c) := (bc1 1).trans (by first | (rw [World.cell?_alloc_new]; done) | (rw [World.cell?_alloc_new]; rfl) | (simp [go_sem]; done) | (rw [World.cell?_alloc_lt _ _ _ (by go_size), World.cell?_alloc_new]; rfl))
  clear bc1 bf1
  replace a_x := a_x.below (HB1.mono (by omega))
  replace HW := HW.trans (HB1.mono (by omega))
  clear hb1 HB1
  go_wp2_with fail
  refine (laws_toBlock _ _ _ _ _ _ (a_x.below' (by go_grown) (by go_size))).mono ?_
  rintro e w2 ⟨g_p, rfl, f_p, hb2⟩
  have l_p := Lib.hid f_p.lt
  try simp only [World.size_alloc] at l_p
  have hy2 := bsize hb2
  try simp at hy2
  have HB2 : Below w1.heap.size w1 w2 := by (repeat' (first | (with_reducible exact Below.refl _ _) | (with_reducible refine Below.setCell ?_ ?_ _) | (with_reducible refine Below.alloc ?_ ?_ _) | (with_reducible refine Below.drew ?_) | (with_reducible refine Below.drewN ?_ _) | (with_reducible refine Below.trans ?_ (Below.mono (by with_reducible assumption) ?_)) | go_size | (dsimp only; omega)))
  have hx2 := HB2.size
  obtain ⟨bc2, bf2, bz2⟩ := bcell hb2 (b := w.heap.size) (by go_size)
  replace t0_0 : w2.cell? ⟨w.heap.size, 0, none⟩ = some (.int .i64 z) := (bc2 0).trans (by first | exact t0_0 | exact (World.cell?_alloc_lt _ _ _ (by go_size)).trans t0_0)
  replace t0_1 : w2.cell? ⟨w.heap.size, 1, none⟩ = some (.slice A n c) := (bc2 1).trans (by first | exact t0_1 | exact (World.cell?_alloc_lt _ _ _ (by go_size)).trans t0_1)
  clear bc2 bf2
  replace a_x := a_x.below (HB2.mono (by omega))
  replace HW := HW.trans (HB2.mono (by omega))
  clear hb2 HB2
  have m_p : ∀ k, (Value.slice (some ⟨g_p, 0, none⟩) n n).ownBlock = some k → w1.heap.size ≤ k ∧ k < w2.heap.size := fun k e => ⟨Nat.le_trans (by go_size) (f_p.lt k e).1, (f_p.lt k e).2⟩
  clear l_p
  have l_p := Lib.hid m_p
  clear m_p
  go_wp2_with fail
  refine (spec_FirstUse _ _ _ _ _ _ (f_p.rd.below' (by go_grown) (by go_size))).mono ?_
  rintro e w3 ⟨A_w0, n_w0, c_w0, rfl, f_w0, hb3⟩
  have l_w0 := Lib.hid f_w0.lt
  try simp only [World.size_alloc] at l_w0
  have hy3 := bsize hb3
  try simp at hy3
  have HB3 : Below w2.heap.size w2 w3 := by (repeat' (first | (with_reducible exact Below.refl _ _) | (with_reducible refine Below.setCell ?_ ?_ _) | (with_reducible refine Below.alloc ?_ ?_ _) | (with_reducible refine Below.drew ?_) | (with_reducible refine Below.drewN ?_ _) | (with_reducible refine Below.trans ?_ (Below.mono (by with_reducible assumption) ?_)) | go_size | (dsimp only; omega)))
  have hx3 := HB3.size
  obtain ⟨bc3, bf3, bz3⟩ := bcell hb3 (b := w.heap.size) (by go_size)
  replace t0_0 : w3.cell? ⟨w.heap.size, 0, none⟩ = some (.int .i64 z) := (bc3 0).trans (by first | exact t0_0 | exact (World.cell?_alloc_lt _ _ _ (by go_size)).trans t0_0)
  replace t0_1 : w3.cell? ⟨w.heap.size, 1, none⟩ = some (.slice A n c) := (bc3 1).trans (by first | exact t0_1 | exact (World.cell?_alloc_lt _ _ _ (by go_size)).trans t0_1)
  clear bc3 bf3
  replace f_p := f_p.next HB3
  replace a_x := a_x.below (HB3.mono (by omega))
  replace HW := HW.trans (HB3.mono (by omega))
  clear hb3 HB3
  have m_w0 : ∀ k, (Value.slice A_w0 n_w0 c_w0).ownBlock = some k → w2.heap.size ≤ k ∧ k < w3.heap.size := fun k e => ⟨Nat.le_trans (by go_size) (f_w0.lt k e).1, (f_w0.lt k e).2⟩
  clear l_w0
  have l_w0 := Lib.hid m_w0
  clear m_w0
  go_wp2_with fail
  refine (laws_toBlock _ _ _ _ _ _ (a_x.below' (by go_grown) (by go_size))).mono ?_
  rintro e w4 ⟨g_x0, rfl, f_x0, hb4⟩
  have l_x0 := Lib.hid f_x0.lt
  try simp only [World.size_alloc] at l_x0
  have hy4 := bsize hb4
  try simp at hy4
  have HB4 : Below w3.heap.size w3 w4 := by (repeat' (first | (with_reducible exact Below.refl _ _) | (with_reducible refine Below.setCell ?_ ?_ _) | (with_reducible refine Below.alloc ?_ ?_ _) | (with_reducible refine Below.drew ?_) | (with_reducible refine Below.drewN ?_ _) | (with_reducible refine Below.trans ?_ (Below.mono (by with_reducible assumption) ?_)) | go_size | (dsimp only; omega)))
  have hx4 := HB4.size
  obtain ⟨bc4, bf4, bz4⟩ := bcell hb4 (b := w.heap.size) (by go_size)
  replace t0_0 : w4.cell? ⟨w.heap.size, 0, none⟩ = some (.int .i64 z) := (bc4 0).trans (by first | exact t0_0 | exact (World.cell?_alloc_lt _ _ _ (by go_size)).trans t0_0)
  replace t0_1 : w4.cell? ⟨w.heap.size, 1, none⟩ = some (.slice A n c) := (bc4 1).trans (by first | exact t0_1 | exact (World.cell?_alloc_lt _ _ _ (by go_size)).trans t0_1)
  clear bc4 bf4
  replace f_p := f_p.next HB4
  replace f_w0 := f_w0.next HB4
  replace a_x := a_x.below (HB4.mono (by omega))
  replace HW := HW.trans (HB4.mono (by omega))
  clear hb4 HB4
  have m_x0 : ∀ k, (Value.slice (some ⟨g_x0, 0, none⟩) n n).ownBlock = some k → w3.heap.size ≤ k ∧ k < w4.heap.size := fun k e => ⟨Nat.le_trans (by go_size) (f_x0.lt k e).1, (f_x0.lt k e).2⟩
  clear l_x0
  have l_x0 := Lib.hid m_x0
  clear m_x0
  go_wp2_with fail
  refine (impl_FirstUse _ _ _ _ _ _ (f_x0.rd.below' (by go_grown) (by go_size))).mono ?_
  rintro e w5 ⟨A_g0, n_g0, c_g0, rfl, f_g0, hb5⟩
  have l_g0 := Lib.hid f_g0.lt
  try simp only [World.size_alloc] at l_g0
  have hy5 := bsize hb5
  try simp at hy5
  have HB5 : Below w4.heap.size w4 w5 := by (repeat' (first | (with_reducible exact Below.refl _ _) | (with_reducible refine Below.setCell ?_ ?_ _) | (with_reducible refine Below.alloc ?_ ?_ _) | (with_reducible refine Below.drew ?_) | (with_reducible refine Below.drewN ?_ _) | (with_reducible refine Below.trans ?_ (Below.mono (by with_reducible assumption) ?_)) | go_size | (dsimp only; omega)))
  have hx5 := HB5.size
  obtain ⟨bc5, bf5, bz5⟩ := bcell hb5 (b := w.heap.size) (by go_size)
  replace t0_0 : w5.cell? ⟨w.heap.size, 0, none⟩ = some (.int .i64 z) := (bc5 0).trans (by first | exact t0_0 | exact (World.cell?_alloc_lt _ _ _ (by go_size)).trans t0_0)
  replace t0_1 : w5.cell? ⟨w.heap.size, 1, none⟩ = some (.slice A n c) := (bc5 1).trans (by first | exact t0_1 | exact (World.cell?_alloc_lt _ _ _ (by go_size)).trans t0_1)
  clear bc5 bf5
  obtain ⟨bc5, bf5, bz5⟩ := bcell hb5 (b := w4.heap.size) (by go_size)
  have t1_0 : w5.cell? ⟨w4.heap.size, 0, none⟩ = some (.int .i64 z) := (bc5 0).trans (by first | (rw [World.cell?_alloc_new]; done) | (rw [World.cell?_alloc_new]; rfl) | (simp [go_sem]; done) | (rw [World.cell?_alloc_lt _ _ _ (by go_size), World.cell?_alloc_new]; rfl))
  have t1_1 : w5.cell? ⟨w4.heap.size, 1, none⟩ = some (.slice (some ⟨g_x0, 0, none⟩) n n) := (bc5 1).trans (by first | (rw [World.cell?_alloc_new]; done) | (rw [World.cell?_alloc_new]; rfl) | (simp [go_sem]; done) | (rw [World.cell?_alloc_lt _ _ _ (by go_size), World.cell?_alloc_new]; rfl))
  clear bc5 bf5
  replace f_p := f_p.next HB5
  replace f_w0 := f_w0.next HB5
  replace f_x0 := f_x0.next HB5
  replace a_x := a_x.below (HB5.mono (by omega))
  replace HW := HW.trans (HB5.mono (by omega))
  clear hb5 HB5
  have m_g0 : ∀ k, (Value.slice A_g0 n_g0 c_g0).ownBlock = some k → w4.heap.size + 1 ≤ k ∧ k < w5.heap.size := fun k e => ⟨Nat.le_trans (by go_size) (f_g0.lt k e).1, (f_g0.lt k e).2⟩
  clear l_g0
  have l_g0 := Lib.hid m_g0
  clear m_g0
  go_wp2_with fail
  refine (laws_eqIntS_self _ _ _ _ _ _ _ _ (f_g0.rd.below' (by go_grown) (by go_size)) (f_w0.rd.below' (by go_grown) (by go_size))).mono ?_
  rintro e w6 ⟨rfl, hb6⟩
  have hy6 := bsize hb6
  try simp at hy6
  have HB6 : Below w5.heap.size w5 w6 := by (repeat' (first | (with_reducible exact Below.refl _ _) | (with_reducible refine Below.setCell ?_ ?_ _) | (with_reducible refine Below.alloc ?_ ?_ _) | (with_reducible refine Below.drew ?_) | (with_reducible refine Below.drewN ?_ _) | (with_reducible refine Below.trans ?_ (Below.mono (by with_reducible assumption) ?_)) | go_size | (dsimp only; omega)))
  have hx6 := HB6.size
  obtain ⟨bc6, bf6, bz6⟩ := bcell hb6 (b := w.heap.size) (by go_size)
  replace t0_0 : w6.cell? ⟨w.heap.size, 0, none⟩ = some (.int .i64 z) := (bc6 0).trans (by first | exact t0_0 | exact (World.cell?_alloc_lt _ _ _ (by go_size)).trans t0_0)
  replace t0_1 : w6.cell? ⟨w.heap.size, 1, none⟩ = some (.slice A n c) := (bc6 1).trans (by first | exact t0_1 | exact (World.cell?_alloc_lt _ _ _ (by go_size)).trans t0_1)
  clear bc6 bf6
  obtain ⟨bc6, bf6, bz6⟩ := bcell hb6 (b := w4.heap.size) (by go_size)
  replace t1_0 : w6.cell? ⟨w4.heap.size, 0, none⟩ = some (.int .i64 z) := (bc6 0).trans (by first | exact t1_0 | exact (World.cell?_alloc_lt _ _ _ (by go_size)).trans t1_0)
  replace t1_1 : w6.cell? ⟨w4.heap.size, 1, none⟩ = some (.slice (some ⟨g_x0, 0, none⟩) n n) := (bc6 1).trans (by first | exact t1_1 | exact (World.cell?_alloc_lt _ _ _ (by go_size)).trans t1_1)
  clear bc6 bf6
  replace f_p := f_p.next HB6
  replace f_w0 := f_w0.next HB6
  replace f_x0 := f_x0.next HB6
  replace f_g0 := f_g0.next HB6
  replace a_x := a_x.below (HB6.mono (by omega))
  replace HW := HW.trans (HB6.mono (by omega))
  clear hb6 HB6
  go_wp2_with fail
  go_region_held3 (fun w' => w'.cell? ⟨w4.heap.size, 0, none⟩ = some (.int .i64 z) ∧ w'.cell? ⟨w4.heap.size, 1, none⟩ = some (.slice (some ⟨g_x0, 0, none⟩) n n) ∧ w'.cell? ⟨w.heap.size, 0, none⟩ = some (.int .i64 z) ∧ w'.cell? ⟨w.heap.size, 1, none⟩ = some (.slice A n c)) (go_keep) (first
    | (go_at_call 35; (with_reducible refine (laws_toBlock z A n c xs _ ?_).mono ?_); exact (a_x.below' (by (repeat' (first | (with_reducible exact Below.refl _ _) | (with_reducible refine Below.setCell ?_ ?_ _) | (with_reducible refine Below.alloc ?_ ?_ _) | (with_reducible refine Below.drew ?_) | (with_reducible refine Below.drewN ?_ _) | (with_reducible refine Below.trans ?_ (Below.mono (by with_reducible assumption) ?_)) | go_size | (dsimp only; omega)))) (by go_size)); rintro e w7 ⟨g_u, rfl, f_u, hb7⟩; have hy7 := bsize hb7; (try simp at hy7); obtain ⟨bc7_0, bf7_0, bz7_0⟩ := bcell hb7 (b := w4.heap.size) (by go_size); obtain ⟨bc7_1, bf7_1, bz7_1⟩ := bcell hb7 (b := w.heap.size) (by go_size); have l_u := Lib.hid f_u.lt)
    | (go_at_call 37; (with_reducible refine (laws_eqBlock_self _ _ _ _ _ _ _ xs _ ?_ ?_).mono ?_); exact (f_x0.rd.below' (by (repeat' (first | (with_reducible exact Below.refl _ _) | (with_reducible refine Below.setCell ?_ ?_ _) | (with_reducible refine Below.alloc ?_ ?_ _) | (with_reducible refine Below.drew ?_) | (with_reducible refine Below.drewN ?_ _) | (with_reducible refine Below.trans ?_ (Below.mono (by with_reducible assumption) ?_)) | go_size | (dsimp only; omega)))) (by go_size)); exact (f_u.rd.below' (by (repeat' (first | (with_reducible exact Below.refl _ _) | (with_reducible refine Below.setCell ?_ ?_ _) | (with_reducible refine Below.alloc ?_ ?_ _) | (with_reducible refine Below.drew ?_) | (with_reducible refine Below.drewN ?_ _) | (with_reducible refine Below.trans ?_ (Below.mono (by with_reducible assumption) ?_)) | go_size | (dsimp only; omega)))) (by go_size)); rintro e w8 ⟨rfl, hb8⟩; have hy8 := bsize hb8; (try simp at hy8); obtain ⟨bc8_0, bf8_0, bz8_0⟩ := bcell hb8 (b := w4.heap.size) (by go_size); obtain ⟨bc8_1, bf8_1, bz8_1⟩ := bcell hb8 (b := w.heap.size) (by go_size)))
  have HB8 : Below w6.heap.size w6 w8 := by (repeat' (first | (with_reducible exact Below.refl _ _) | (with_reducible refine Below.setCell ?_ ?_ _) | (with_reducible refine Below.alloc ?_ ?_ _) | (with_reducible refine Below.drew ?_) | (with_reducible refine Below.drewN ?_ _) | (with_reducible refine Below.trans ?_ (Below.mono (by with_reducible assumption) ?_)) | go_size | (dsimp only; omega)))
  have hx8 := HB8.size
  replace t0_0 : w8.cell? ⟨w.heap.size, 0, none⟩ = some (.int .i64 z) := (HB8.cell (p := ⟨w.heap.size, 0, none⟩) (by dsimp only; omega)).trans t0_0
  replace t0_1 : w8.cell? ⟨w.heap.size, 1, none⟩ = some (.slice A n c) := (HB8.cell (p := ⟨w.heap.size, 1, none⟩) (by dsimp only; omega)).trans t0_1
  replace t1_0 : w8.cell? ⟨w4.heap.size, 0, none⟩ = some (.int .i64 z) := (HB8.cell (p := ⟨w4.heap.size, 0, none⟩) (by dsimp only; omega)).trans t1_0
  replace t1_1 : w8.cell? ⟨w4.heap.size, 1, none⟩ = some (.slice (some ⟨g_x0, 0, none⟩) n n) := (HB8.cell (p := ⟨w4.heap.size, 1, none⟩) (by dsimp only; omega)).trans t1_1
  replace f_p := f_p.next HB8
  replace f_w0 := f_w0.next HB8
  replace f_x0 := f_x0.next HB8
  replace f_g0 := f_g0.next HB8
  replace a_x := a_x.below (HB8.mono (by omega))
  replace HW := HW.trans (HB8.mono (by omega))
  clear HB8
  clear hb7 hb8 bc7_0 bf7_0 bc7_1 bf7_1 bc8_0 bf8_0 bc8_1 bf8_1
  go_wp2_with fail
  refine (laws_markBlock _ _ _ _ _ _ _ (f_x0.next (by go_grown)) (by go_size)).mono ?_
  rintro e w9 ⟨rfl, g_f, hg9⟩
  have hy9 := hg9.size
  try simp at hy9
  have HG9 : w8.grownBy w9 _ := grown_tr (grown_of_below (by go_grown) _) hg9
  have hx9 := HG9.size
  obtain ⟨bc9, bf9, bz9⟩ := bcellG hg9 (b := w.heap.size) (by go_size) (fun e2 => by have h2 := l_x0.out _ e2; omega)
  replace t0_0 : w9.cell? ⟨w.heap.size, 0, none⟩ = some (.int .i64 z) := (bc9 0).trans (by first | exact t0_0 | exact (World.cell?_alloc_lt _ _ _ (by go_size)).trans t0_0)
  replace t0_1 : w9.cell? ⟨w.heap.size, 1, none⟩ = some (.slice A n c) := (bc9 1).trans (by first | exact t0_1 | exact (World.cell?_alloc_lt _ _ _ (by go_size)).trans t0_1)
  clear bc9 bf9
  obtain ⟨bc9, bf9, bz9⟩ := bcellG hg9 (b := w4.heap.size) (by go_size) (fun e2 => by have h2 := l_x0.out _ e2; omega)
  replace t1_0 : w9.cell? ⟨w4.heap.size, 0, none⟩ = some (.int .i64 z) := (bc9 0).trans (by first | exact t1_0 | exact (World.cell?_alloc_lt _ _ _ (by go_size)).trans t1_0)
  replace t1_1 : w9.cell? ⟨w4.heap.size, 1, none⟩ = some (.slice (some ⟨g_x0, 0, none⟩) n n) := (bc9 1).trans (by first | exact t1_1 | exact (World.cell?_alloc_lt _ _ _ (by go_size)).trans t1_1)
  clear bc9 bf9
  replace f_p := f_p.keep HG9 (fun k1 e1 e2 => by have h1 := l_p.out k1 e1; have h2 := l_x0.out k1 e2; omega)
  replace f_w0 := f_w0.keep HG9 (fun k1 e1 e2 => by have h1 := l_w0.out k1 e1; have h2 := l_x0.out k1 e2; omega)
  replace f_g0 := f_g0.keep HG9 (fun k1 e1 e2 => by have h1 := l_g0.out k1 e1; have h2 := l_x0.out k1 e2; omega)
  replace a_x := a_x.grown HG9 (by omega) (fun k1 e1 => by have h1 := l_x0.out k1 e1; omega)
  replace HW := HW.grown HG9 (by omega) (fun k1 e1 => by have h1 := l_x0.out k1 e1; omega)
  clear f_x0 hg9 HG9
  have f_x0 := g_f
  clear g_f
  go_wp2_with fail
  refine (laws_eqIntS_self _ _ _ _ _ _ _ _ (f_g0.rd.below' (by go_grown) (by go_size)) (f_w0.rd.below' (by go_grown) (by go_size))).mono ?_
  rintro e w10 ⟨rfl, hb10⟩
  have hy10 := bsize hb10
  try simp at hy10
  have HB10 : Below w9.heap.size w9 w10 := by (repeat' (first | (with_reducible exact Below.refl _ _) | (with_reducible refine Below.setCell ?_ ?_ _) | (with_reducible refine Below.alloc ?_ ?_ _) | (with_reducible refine Below.drew ?_) | (with_reducible refine Below.drewN ?_ _) | (with_reducible refine Below.trans ?_ (Below.mono (by with_reducible assumption) ?_)) | go_size | (dsimp only; omega)))
  have hx10 := HB10.size
  obtain ⟨bc10, bf10, bz10⟩ := bcell hb10 (b := w.heap.size) (by go_size)
  replace t0_0 : w10.cell? ⟨w.heap.size, 0, none⟩ = some (.int .i64 z) := (bc10 0).trans (by first | exact t0_0 | exact (World.cell?_alloc_lt _ _ _ (by go_size)).trans t0_0)
  replace t0_1 : w10.cell? ⟨w.heap.size, 1, none⟩ = some (.slice A n c) := (bc10 1).trans (by first | exact t0_1 | exact (World.cell?_alloc_lt _ _ _ (by go_size)).trans t0_1)
  clear bc10 bf10
  obtain ⟨bc10, bf10, bz10⟩ := bcell hb10 (b := w4.heap.size) (by go_size)
  replace t1_0 : w10.cell? ⟨w4.heap.size, 0, none⟩ = some (.int .i64 z) := (bc10 0).trans (by first | exact t1_0 | exact (World.cell?_alloc_lt _ _ _ (by go_size)).trans t1_0)
  replace t1_1 : w10.cell? ⟨w4.heap.size, 1, none⟩ = some (.slice (some ⟨g_x0, 0, none⟩) n n) := (bc10 1).trans (by first | exact t1_1 | exact (World.cell?_alloc_lt _ _ _ (by go_size)).trans t1_1)
  clear bc10 bf10
  replace f_p := f_p.next HB10
  replace f_w0 := f_w0.next HB10
  replace f_x0 := f_x0.next HB10
  replace f_g0 := f_g0.next HB10
  replace a_x := a_x.below (HB10.mono (by omega))
  replace HW := HW.trans (HB10.mono (by omega))
  clear hb10 HB10
  go_wp2_with fail
  refine (laws_markIntS _ _ _ _ _ _ _ (f_g0.next (by go_grown)) (by omega) (by omega)).mono ?_
  rintro e w11 ⟨rfl, g_f, hg11⟩
  have hy11 := hg11.size
  try simp at hy11
  have HG11 : w10.grownBy w11 _ := grown_tr (grown_of_below (by go_grown) _) hg11
  have hx11 := HG11.size
  obtain ⟨bc11, bf11, bz11⟩ := bcellG hg11 (b := w.heap.size) (by go_size) (fun e2 => by have h2 := l_g0.out _ e2; omega)
  replace t0_0 : w11.cell? ⟨w.heap.size, 0, none⟩ = some (.int .i64 z) := (bc11 0).trans (by first | exact t0_0 | exact (World.cell?_alloc_lt _ _ _ (by go_size)).trans t0_0)
  replace t0_1 : w11.cell? ⟨w.heap.size, 1, none⟩ = some (.slice A n c) := (bc11 1).trans (by first | exact t0_1 | exact (World.cell?_alloc_lt _ _ _ (by go_size)).trans t0_1)
  clear bc11 bf11
  obtain ⟨bc11, bf11, bz11⟩ := bcellG hg11 (b := w4.heap.size) (by go_size) (fun e2 => by have h2 := l_g0.out _ e2; omega)
  replace t1_0 : w11.cell? ⟨w4.heap.size, 0, none⟩ = some (.int .i64 z) := (bc11 0).trans (by first | exact t1_0 | exact (World.cell?_alloc_lt _ _ _ (by go_size)).trans t1_0)
  replace t1_1 : w11.cell? ⟨w4.heap.size, 1, none⟩ = some (.slice (some ⟨g_x0, 0, none⟩) n n) := (bc11 1).trans (by first | exact t1_1 | exact (World.cell?_alloc_lt _ _ _ (by go_size)).trans t1_1)
  clear bc11 bf11
  replace f_p := f_p.keep HG11 (fun k1 e1 e2 => by have h1 := l_p.out k1 e1; have h2 := l_g0.out k1 e2; omega)
  replace f_w0 := f_w0.keep HG11 (fun k1 e1 e2 => by have h1 := l_w0.out k1 e1; have h2 := l_g0.out k1 e2; omega)
  replace f_x0 := f_x0.keep HG11 (fun k1 e1 e2 => by have h1 := l_x0.out k1 e1; have h2 := l_g0.out k1 e2; omega)
  replace a_x := a_x.grown HG11 (by omega) (fun k1 e1 => by have h1 := l_g0.out k1 e1; omega)
  replace HW := HW.grown HG11 (by omega) (fun k1 e1 => by have h1 := l_g0.out k1 e1; omega)
  clear f_g0 hg11 HG11
  have f_g0 := g_f
  clear g_f
  go_wp2_with fail
  refine (laws_heldIntS _ _ _ _ _ (f_g0.rd.below' (by go_grown) (by go_size)) (by omega) (by omega)).mono ?_
  rintro e w' ⟨rfl, rfl⟩
  go_wp2_with fail
  refine (laws_toBlock _ _ _ _ _ _ (a_x.below' (by go_grown) (by go_size))).mono ?_
  rintro e w12 ⟨g_r, rfl, f_r, hb12⟩
  have l_r := Lib.hid f_r.lt
  try simp only [World.size_alloc] at l_r
  have hy12 := bsize hb12
  try simp at hy12
  have HB12 : Below w11.heap.size w11 w12 := by (repeat' (first | (with_reducible exact Below.refl _ _) | (with_reducible refine Below.setCell ?_ ?_ _) | (with_reducible refine Below.alloc ?_ ?_ _) | (with_reducible refine Below.drew ?_) | (with_reducible refine Below.drewN ?_ _) | (with_reducible refine Below.trans ?_ (Below.mono (by with_reducible assumption) ?_)) | go_size | (dsimp only; omega)))
  have hx12 := HB12.size
  obtain ⟨bc12, bf12, bz12⟩ := bcell hb12 (b := w.heap.size) (by go_size)
  replace t0_0 : w12.cell? ⟨w.heap.size, 0, none⟩ = some (.int .i64 z) := (bc12 0).trans (by first | exact t0_0 | exact (World.cell?_alloc_lt _ _ _ (by go_size)).trans t0_0)
  replace t0_1 : w12.cell? ⟨w.heap.size, 1, none⟩ = some (.slice A n c) := (bc12 1).trans (by first | exact t0_1 | exact (World.cell?_alloc_lt _ _ _ (by go_size)).trans t0_1)
  clear bc12 bf12
  obtain ⟨bc12, bf12, bz12⟩ := bcell hb12 (b := w4.heap.size) (by go_size)
  replace t1_0 : w12.cell? ⟨w4.heap.size, 0, none⟩ = some (.int .i64 z) := (bc12 0).trans (by first | exact t1_0 | exact (World.cell?_alloc_lt _ _ _ (by go_size)).trans t1_0)
  replace t1_1 : w12.cell? ⟨w4.heap.size, 1, none⟩ = some (.slice (some ⟨g_x0, 0, none⟩) n n) := (bc12 1).trans (by first | exact t1_1 | exact (World.cell?_alloc_lt _ _ _ (by go_size)).trans t1_1)
  clear bc12 bf12
  replace f_p := f_p.next HB12
  replace f_w0 := f_w0.next HB12
  replace f_x0 := f_x0.next HB12
  replace f_g0 := f_g0.next HB12
  replace a_x := a_x.below (HB12.mono (by omega))
  replace HW := HW.trans (HB12.mono (by omega))
  clear hb12 HB12
  have m_r : ∀ k, (Value.slice (some ⟨g_r, 0, none⟩) n n).ownBlock = some k → w11.heap.size ≤ k ∧ k < w12.heap.size := fun k e => ⟨Nat.le_trans (by go_size) (f_r.lt k e).1, (f_r.lt k e).2⟩
  clear l_r
  have l_r := Lib.hid m_r
  clear m_r
  go_wp2_with fail
  refine (impl_FirstUse _ _ _ _ _ _ (f_r.rd.below' (by go_grown) (by go_size))).mono ?_
  rintro e w13 ⟨A_h0, n_h0, c_h0, rfl, f_h0, hb13⟩
  have l_h0 := Lib.hid f_h0.lt
  try simp only [World.size_alloc] at l_h0
  have hy13 := bsize hb13
  try simp at hy13
  have HB13 : Below w12.heap.size w12 w13 := by (repeat' (first | (with_reducible exact Below.refl _ _) | (with_reducible refine Below.setCell ?_ ?_ _) | (with_reducible refine Below.alloc ?_ ?_ _) | (with_reducible refine Below.drew ?_) | (with_reducible refine Below.drewN ?_ _) | (with_reducible refine Below.trans ?_ (Below.mono (by with_reducible assumption) ?_)) | go_size | (dsimp only; omega)))
  have hx13 := HB13.size
  obtain ⟨bc13, bf13, bz13⟩ := bcell hb13 (b := w.heap.size) (by go_size)
  replace t0_0 : w13.cell? ⟨w.heap.size, 0, none⟩ = some (.int .i64 z) := (bc13 0).trans (by first | exact t0_0 | exact (World.cell?_alloc_lt _ _ _ (by go_size)).trans t0_0)
  replace t0_1 : w13.cell? ⟨w.heap.size, 1, none⟩ = some (.slice A n c) := (bc13 1).trans (by first | exact t0_1 | exact (World.cell?_alloc_lt _ _ _ (by go_size)).trans t0_1)
  clear bc13 bf13
  obtain ⟨bc13, bf13, bz13⟩ := bcell hb13 (b := w4.heap.size) (by go_size)
  replace t1_0 : w13.cell? ⟨w4.heap.size, 0, none⟩ = some (.int .i64 z) := (bc13 0).trans (by first | exact t1_0 | exact (World.cell?_alloc_lt _ _ _ (by go_size)).trans t1_0)
  replace t1_1 : w13.cell? ⟨w4.heap.size, 1, none⟩ = some (.slice (some ⟨g_x0, 0, none⟩) n n) := (bc13 1).trans (by first | exact t1_1 | exact (World.cell?_alloc_lt _ _ _ (by go_size)).trans t1_1)
  clear bc13 bf13
  replace f_p := f_p.next HB13
  replace f_w0 := f_w0.next HB13
  replace f_x0 := f_x0.next HB13
  replace f_g0 := f_g0.next HB13
  replace f_r := f_r.next HB13
  replace a_x := a_x.below (HB13.mono (by omega))
  replace HW := HW.trans (HB13.mono (by omega))
  clear hb13 HB13
  have m_h0 : ∀ k, (Value.slice A_h0 n_h0 c_h0).ownBlock = some k → w12.heap.size ≤ k ∧ k < w13.heap.size := fun k e => ⟨Nat.le_trans (by go_size) (f_h0.lt k e).1, (f_h0.lt k e).2⟩
  clear l_h0
  have l_h0 := Lib.hid m_h0
  clear m_h0
  go_wp2_with fail
  refine (laws_eqIntS_self _ _ _ _ _ _ _ _ (f_h0.rd.below' (by go_grown) (by go_size)) (f_w0.rd.below' (by go_grown) (by go_size))).mono ?_
  rintro e w14 ⟨rfl, hb14⟩
  have hy14 := bsize hb14
  try simp at hy14
  have HB14 : Below w13.heap.size w13 w14 := by (repeat' (first | (with_reducible exact Below.refl _ _) | (with_reducible refine Below.setCell ?_ ?_ _) | (with_reducible refine Below.alloc ?_ ?_ _) | (with_reducible refine Below.drew ?_) | (with_reducible refine Below.drewN ?_ _) | (with_reducible refine Below.trans ?_ (Below.mono (by with_reducible assumption) ?_)) | go_size | (dsimp only; omega)))
  have hx14 := HB14.size
  obtain ⟨bc14, bf14, bz14⟩ := bcell hb14 (b := w.heap.size) (by go_size)
  replace t0_0 : w14.cell? ⟨w.heap.size, 0, none⟩ = some (.int .i64 z) := (bc14 0).trans (by first | exact t0_0 | exact (World.cell?_alloc_lt _ _ _ (by go_size)).trans t0_0)
  replace t0_1 : w14.cell? ⟨w.heap.size, 1, none⟩ = some (.slice A n c) := (bc14 1).trans (by first | exact t0_1 | exact (World.cell?_alloc_lt _ _ _ (by go_size)).trans t0_1)
  clear bc14 bf14
  obtain ⟨bc14, bf14, bz14⟩ := bcell hb14 (b := w4.heap.size) (by go_size)
  replace t1_0 : w14.cell? ⟨w4.heap.size, 0, none⟩ = some (.int .i64 z) := (bc14 0).trans (by first | exact t1_0 | exact (World.cell?_alloc_lt _ _ _ (by go_size)).trans t1_0)
  replace t1_1 : w14.cell? ⟨w4.heap.size, 1, none⟩ = some (.slice (some ⟨g_x0, 0, none⟩) n n) := (bc14 1).trans (by first | exact t1_1 | exact (World.cell?_alloc_lt _ _ _ (by go_size)).trans t1_1)
  clear bc14 bf14
  replace f_p := f_p.next HB14
  replace f_w0 := f_w0.next HB14
  replace f_x0 := f_x0.next HB14
  replace f_g0 := f_g0.next HB14
  replace f_r := f_r.next HB14
  replace f_h0 := f_h0.next HB14
  replace a_x := a_x.below (HB14.mono (by omega))
  replace HW := HW.trans (HB14.mono (by omega))
  clear hb14 HB14
  go_wp2_with fail
  refine (laws_heldIntS _ _ _ _ _ (f_g0.rd.below' (by go_grown) (by go_size)) (by omega) (by omega)).mono ?_
  rintro e w' ⟨rfl, rfl⟩
  go_wp2
  go_ret
  refine ⟨rfl, ?_⟩
  (repeat' (first | (with_reducible exact Below.refl _ _) | (with_reducible exact HW) | (with_reducible refine Below.setCell ?_ ?_ _) | (with_reducible refine Below.alloc ?_ ?_ _) | (with_reducible refine Below.drew ?_) | (with_reducible refine Below.drewN ?_ _) | (with_reducible refine Below.trans ?_ (Below.mono (by with_reducible assumption) ?_)) | go_size | (dsimp only; omega)))

set_option maxHeartbeats 400000 in
theorem walk_FnExactFirstUse_big (z : Int) (A : Option Addr) (n c : Nat) (xs : List C) (w : World) (hb : 1048576 < n) (hm : n ≤ 9223372036854775807) :
    Calls Try.prog 8 #[.agg #[.int .i64 z, .slice A n c]] w fun e w' => e = .returned (.bool true) ∧ Below w.heap.size w w' := by
  have hsz := szB_big hb
  go_enter Try.func8, Try.ntmps8
  go_wp2_with (go_at_call 33; refine (laws_szBlock _ _ _ _ _ hm).mono ?_; rintro e w1 ⟨rfl, hb1⟩)
  go_ret
  refine ⟨rfl, ?_⟩
  (repeat' (first | (with_reducible exact Below.refl _ _) | (with_reducible refine Below.setCell ?_ ?_ _) | (with_reducible refine Below.alloc ?_ ?_ _) | (with_reducible refine Below.drew ?_) | (with_reducible refine Below.drewN ?_ _) | (with_reducible refine Below.trans ?_ (Below.mono (by with_reducible assumption) ?_)) | go_size | (dsimp only; omega)))

theorem walk_FnExactFirstUse (z : Int) (A : Option Addr) (n c : Nat) (xs : List C) (w : World) (hz : I64 z) (h : ArgC w A n xs) :
    Calls Try.prog 8 #[.agg #[.int .i64 z, .slice A n c]] w fun e w' => e = .returned (.bool true) ∧ Below w.heap.size w w' := by
  by_cases hb : n ≤ 1048576
  · exact walk_FnExactFirstUse_small z A n c xs w hz (h.2 (by omega)) hb
  · exact walk_FnExactFirstUse_big z A n c xs w (by omega) (by have := h.1; unfold maxLen at this; omega)

end Go.Proofs.Ytlcllpgbpjdofaa
