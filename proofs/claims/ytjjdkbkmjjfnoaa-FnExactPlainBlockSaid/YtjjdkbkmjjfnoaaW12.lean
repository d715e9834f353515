/- Walks of the laws on PlainBlock: each returns true. No condition. -/
import Derived.Test.YtjjdkbkmjjfnoaaW6
import Derived.Test.YtjjdkbkmjjfnoaaR0
import Derived.Test.YtjjdkbkmjjfnoaaPl
set_option linter.unusedSimpArgs false
set_option linter.unusedVariables false
namespace Go.Proofs.Ytjjdkbkmjjfnoaa
open Go.RowKit

set_option maxRecDepth 100000 in
set_option maxHeartbeats 1000000 in
theorem walk_FnExactPlainBlock (z a : Int) (w : World) (_hz : I64 z) (_ha : I64 a) :
    Calls Try.prog 6 #[.int .i64 z, .int .i64 a] w fun e w' => e = .returned (.bool true) ∧ Below w.heap.size w w' := by
  have hq : (plainOk z a != plainOk z a) = false := by simp
  have HW := Below.refl w.heap.size w
  have hs := lt2
  have hs3 := lt3
  go_enter Try.func6, Try.ntmps6
  go_wp2_with fail
  refine (spec_PlainBlock _ _ _).mono ?_
  rintro e w1 ⟨A_w0, n_w0, c_w0, rfl, f_w0, hb1⟩
  have l_w0 := Lib.hid f_w0.lt
  try simp only [World.size_alloc] at l_w0
  have hy1 := bsize hb1
  try simp at hy1
  have HB1 : Below w.heap.size w w1 := by (repeat' (first | (with_reducible exact Below.refl _ _) | (with_reducible refine Below.setCell ?_ ?_ _) | (with_reducible refine Below.alloc ?_ ?_ _) | (with_reducible refine Below.drew ?_) | (with_reducible refine Below.drewN ?_ _) | (with_reducible refine Below.trans ?_ (Below.mono (by with_reducible assumption) ?_)) | go_size | (dsimp only; omega)))
  have hx1 := HB1.size
  replace HW := HW.trans (HB1.mono (by omega))
  clear hb1 HB1
  have m_w0 : ∀ k, (Value.slice A_w0 n_w0 c_w0).ownBlock = some k → w.heap.size ≤ k ∧ k < w1.heap.size := fun k e => ⟨Nat.le_trans (by go_size) (f_w0.lt k e).1, (f_w0.lt k e).2⟩
  clear l_w0
  have l_w0 := Lib.hid m_w0
  clear m_w0
  go_wp2_with fail
  refine (impl_PlainBlock _ _ _).mono ?_
  rintro e w2 ⟨A_g0, n_g0, c_g0, rfl, f_g0, hb2⟩
  have l_g0 := Lib.hid f_g0.lt
  try simp only [World.size_alloc] at l_g0
  have hy2 := bsize hb2
  try simp at hy2
  have HB2 : Below w1.heap.size w1 w2 := by (repeat' (first | (with_reducible exact Below.refl _ _) | (with_reducible refine Below.setCell ?_ ?_ _) | (with_reducible refine Below.alloc ?_ ?_ _) | (with_reducible refine Below.drew ?_) | (with_reducible refine Below.drewN ?_ _) | (with_reducible refine Below.trans ?_ (Below.mono (by with_reducible assumption) ?_)) | go_size | (dsimp only; omega)))
  have hx2 := HB2.size
  obtain ⟨bc2, bf2, bz2⟩ := bcell hb2 (b := w1.heap.size) (by go_size)
  have t0_0 : w2.cell? ⟨w1.heap.size, 0, none⟩ = some (.int .i64 (plainZ z a)) := (bc2 0).trans (by first | (rw [World.cell?_alloc_new]; done) | (rw [World.cell?_alloc_new]; rfl) | (simp [go_sem]; done) | (rw [World.cell?_alloc_lt _ _ _ (by go_size), World.cell?_alloc_new]; rfl))
  have t0_1 : w2.cell? ⟨w1.heap.size, 1, none⟩ = some (.slice A_w0 n_w0 c_w0) := (bc2 1).trans (by first | (rw [World.cell?_alloc_new]; done) | (rw [World.cell?_alloc_new]; rfl) | (simp [go_sem]; done) | (rw [World.cell?_alloc_lt _ _ _ (by go_size), World.cell?_alloc_new]; rfl))
  clear bc2 bf2
  replace f_w0 := f_w0.next HB2
  replace HW := HW.trans (HB2.mono (by omega))
  clear hb2 HB2
  have m_g0 : ∀ k, (Value.slice A_g0 n_g0 c_g0).ownBlock = some k → w1.heap.size + 1 ≤ k ∧ k < w2.heap.size := fun k e => ⟨Nat.le_trans (by go_size) (f_g0.lt k e).1, (f_g0.lt k e).2⟩
  clear l_g0
  have l_g0 := Lib.hid m_g0
  clear m_g0
  go_wp2_with fail
  refine (laws_eqBlock_self _ _ _ _ _ _ _ _ _ (f_g0.rd.below' (by go_grown) (by go_size)) (f_w0.rd.below' (by go_grown) (by go_size))).mono ?_
  rintro e w3 ⟨rfl, hb3⟩
  have hy3 := bsize hb3
  try simp at hy3
  have HB3 : Below w2.heap.size w2 w3 := by (repeat' (first | (with_reducible exact Below.refl _ _) | (with_reducible refine Below.setCell ?_ ?_ _) | (with_reducible refine Below.alloc ?_ ?_ _) | (with_reducible refine Below.drew ?_) | (with_reducible refine Below.drewN ?_ _) | (with_reducible refine Below.trans ?_ (Below.mono (by with_reducible assumption) ?_)) | go_size | (dsimp only; omega)))
  have hx3 := HB3.size
  obtain ⟨bc3, bf3, bz3⟩ := bcell hb3 (b := w1.heap.size) (by go_size)
  replace t0_0 : w3.cell? ⟨w1.heap.size, 0, none⟩ = some (.int .i64 (plainZ z a)) := (bc3 0).trans (by first | exact t0_0 | exact (World.cell?_alloc_lt _ _ _ (by go_size)).trans t0_0)
  replace t0_1 : w3.cell? ⟨w1.heap.size, 1, none⟩ = some (.slice A_w0 n_w0 c_w0) := (bc3 1).trans (by first | exact t0_1 | exact (World.cell?_alloc_lt _ _ _ (by go_size)).trans t0_1)
  clear bc3 bf3
  obtain ⟨bc3, bf3, bz3⟩ := bcell hb3 (b := w2.heap.size) (by go_size)
  have t1_0 : w3.cell? ⟨w2.heap.size, 0, none⟩ = some (.int .i64 (plainZ z a)) := (bc3 0).trans (by first | (rw [World.cell?_alloc_new]; done) | (rw [World.cell?_alloc_new]; rfl) | (simp [go_sem]; done) | (rw [World.cell?_alloc_lt _ _ _ (by go_size), World.cell?_alloc_new]; rfl))
  have t1_1 : w3.cell? ⟨w2.heap.size, 1, none⟩ = some (.slice A_g0 n_g0 c_g0) := (bc3 1).trans (by first | (rw [World.cell?_alloc_new]; done) | (rw [World.cell?_alloc_new]; rfl) | (simp [go_sem]; done) | (rw [World.cell?_alloc_lt _ _ _ (by go_size), World.cell?_alloc_new]; rfl))
  clear bc3 bf3
  replace f_w0 := f_w0.next HB3
  replace f_g0 := f_g0.next HB3
  replace HW := HW.trans (HB3.mono (by omega))
  clear hb3 HB3
  go_wp2_with fail
  refine (laws_markBlock _ _ _ _ _ _ _ (f_g0.next (by go_grown)) (by go_size)).mono ?_
  rintro e w4 ⟨rfl, g_f, hg4⟩
  have hy4 := hg4.size
  try simp at hy4
  have HG4 : w3.grownBy w4 _ := grown_tr (grown_of_below (by go_grown) _) hg4
  have hx4 := HG4.size
  obtain ⟨bc4, bf4, bz4⟩ := bcellG hg4 (b := w1.heap.size) (by go_size) (fun e2 => by have h2 := l_g0.out _ e2; omega)
  replace t0_0 : w4.cell? ⟨w1.heap.size, 0, none⟩ = some (.int .i64 (plainZ z a)) := (bc4 0).trans (by first | exact t0_0 | exact (World.cell?_alloc_lt _ _ _ (by go_size)).trans t0_0)
  replace t0_1 : w4.cell? ⟨w1.heap.size, 1, none⟩ = some (.slice A_w0 n_w0 c_w0) := (bc4 1).trans (by first | exact t0_1 | exact (World.cell?_alloc_lt _ _ _ (by go_size)).trans t0_1)
  clear bc4 bf4
  obtain ⟨bc4, bf4, bz4⟩ := bcellG hg4 (b := w2.heap.size) (by go_size) (fun e2 => by have h2 := l_g0.out _ e2; omega)
  replace t1_0 : w4.cell? ⟨w2.heap.size, 0, none⟩ = some (.int .i64 (plainZ z a)) := (bc4 0).trans (by first | exact t1_0 | exact (World.cell?_alloc_lt _ _ _ (by go_size)).trans t1_0)
  replace t1_1 : w4.cell? ⟨w2.heap.size, 1, none⟩ = some (.slice A_g0 n_g0 c_g0) := (bc4 1).trans (by first | exact t1_1 | exact (World.cell?_alloc_lt _ _ _ (by go_size)).trans t1_1)
  clear bc4 bf4
  replace f_w0 := f_w0.keep HG4 (fun k1 e1 e2 => by have h1 := l_w0.out k1 e1; have h2 := l_g0.out k1 e2; omega)
  replace HW := HW.grown HG4 (by omega) (fun k1 e1 => by have h1 := l_g0.out k1 e1; omega)
  clear f_g0 hg4 HG4
  have f_g0 := g_f
  clear g_f
  go_wp2_with fail
  refine (laws_heldBlock _ _ _ _ _ (f_g0.rd.below' (by go_grown) (by go_size))).mono ?_
  rintro e w5 ⟨rfl, hb5⟩
  have hy5 := bsize hb5
  try simp at hy5
  have HB5 : Below w4.heap.size w4 w5 := by (repeat' (first | (with_reducible exact Below.refl _ _) | (with_reducible refine Below.setCell ?_ ?_ _) | (with_reducible refine Below.alloc ?_ ?_ _) | (with_reducible refine Below.drew ?_) | (with_reducible refine Below.drewN ?_ _) | (with_reducible refine Below.trans ?_ (Below.mono (by with_reducible assumption) ?_)) | go_size | (dsimp only; omega)))
  have hx5 := HB5.size
  obtain ⟨bc5, bf5, bz5⟩ := bcell hb5 (b := w1.heap.size) (by go_size)
  replace t0_0 : w5.cell? ⟨w1.heap.size, 0, none⟩ = some (.int .i64 (plainZ z a)) := (bc5 0).trans (by first | exact t0_0 | exact (World.cell?_alloc_lt _ _ _ (by go_size)).trans t0_0)
  replace t0_1 : w5.cell? ⟨w1.heap.size, 1, none⟩ = some (.slice A_w0 n_w0 c_w0) := (bc5 1).trans (by first | exact t0_1 | exact (World.cell?_alloc_lt _ _ _ (by go_size)).trans t0_1)
  clear bc5 bf5
  obtain ⟨bc5, bf5, bz5⟩ := bcell hb5 (b := w2.heap.size) (by go_size)
  replace t1_0 : w5.cell? ⟨w2.heap.size, 0, none⟩ = some (.int .i64 (plainZ z a)) := (bc5 0).trans (by first | exact t1_0 | exact (World.cell?_alloc_lt _ _ _ (by go_size)).trans t1_0)
  replace t1_1 : w5.cell? ⟨w2.heap.size, 1, none⟩ = some (.slice A_g0 n_g0 c_g0) := (bc5 1).trans (by first | exact t1_1 | exact (World.cell?_alloc_lt _ _ _ (by go_size)).trans t1_1)
  clear bc5 bf5
  replace f_w0 := f_w0.next HB5
  replace f_g0 := f_g0.next HB5
  replace HW := HW.trans (HB5.mono (by omega))
  clear hb5 HB5
  go_wp2_with fail
  refine (impl_PlainBlock _ _ _).mono ?_
  rintro e w6 ⟨A_h0, n_h0, c_h0, rfl, f_h0, hb6⟩
  have l_h0 := Lib.hid f_h0.lt
  try simp only [World.size_alloc] at l_h0
  have hy6 := bsize hb6
  try simp at hy6
  have HB6 : Below w5.heap.size w5 w6 := by (repeat' (first | (with_reducible exact Below.refl _ _) | (with_reducible refine Below.setCell ?_ ?_ _) | (with_reducible refine Below.alloc ?_ ?_ _) | (with_reducible refine Below.drew ?_) | (with_reducible refine Below.drewN ?_ _) | (with_reducible refine Below.trans ?_ (Below.mono (by with_reducible assumption) ?_)) | go_size | (dsimp only; omega)))
  have hx6 := HB6.size
  obtain ⟨bc6, bf6, bz6⟩ := bcell hb6 (b := w1.heap.size) (by go_size)
  replace t0_0 : w6.cell? ⟨w1.heap.size, 0, none⟩ = some (.int .i64 (plainZ z a)) := (bc6 0).trans (by first | exact t0_0 | exact (World.cell?_alloc_lt _ _ _ (by go_size)).trans t0_0)
  replace t0_1 : w6.cell? ⟨w1.heap.size, 1, none⟩ = some (.slice A_w0 n_w0 c_w0) := (bc6 1).trans (by first | exact t0_1 | exact (World.cell?_alloc_lt _ _ _ (by go_size)).trans t0_1)
  clear bc6 bf6
  obtain ⟨bc6, bf6, bz6⟩ := bcell hb6 (b := w2.heap.size) (by go_size)
  replace t1_0 : w6.cell? ⟨w2.heap.size, 0, none⟩ = some (.int .i64 (plainZ z a)) := (bc6 0).trans (by first | exact t1_0 | exact (World.cell?_alloc_lt _ _ _ (by go_size)).trans t1_0)
  replace t1_1 : w6.cell? ⟨w2.heap.size, 1, none⟩ = some (.slice A_g0 n_g0 c_g0) := (bc6 1).trans (by first | exact t1_1 | exact (World.cell?_alloc_lt _ _ _ (by go_size)).trans t1_1)
  clear bc6 bf6
  replace f_w0 := f_w0.next HB6
  replace f_g0 := f_g0.next HB6
  replace HW := HW.trans (HB6.mono (by omega))
  clear hb6 HB6
  have m_h0 : ∀ k, (Value.slice A_h0 n_h0 c_h0).ownBlock = some k → w5.heap.size ≤ k ∧ k < w6.heap.size := fun k e => ⟨Nat.le_trans (by go_size) (f_h0.lt k e).1, (f_h0.lt k e).2⟩
  clear l_h0
  have l_h0 := Lib.hid m_h0
  clear m_h0
  go_wp2_with fail
  refine (laws_eqBlock_self _ _ _ _ _ _ _ _ _ (f_h0.rd.below' (by go_grown) (by go_size)) (f_w0.rd.below' (by go_grown) (by go_size))).mono ?_
  rintro e w7 ⟨rfl, hb7⟩
  have hy7 := bsize hb7
  try simp at hy7
  have HB7 : Below w6.heap.size w6 w7 := by (repeat' (first | (with_reducible exact Below.refl _ _) | (with_reducible refine Below.setCell ?_ ?_ _) | (with_reducible refine Below.alloc ?_ ?_ _) | (with_reducible refine Below.drew ?_) | (with_reducible refine Below.drewN ?_ _) | (with_reducible refine Below.trans ?_ (Below.mono (by with_reducible assumption) ?_)) | go_size | (dsimp only; omega)))
  have hx7 := HB7.size
  obtain ⟨bc7, bf7, bz7⟩ := bcell hb7 (b := w1.heap.size) (by go_size)
  replace t0_0 : w7.cell? ⟨w1.heap.size, 0, none⟩ = some (.int .i64 (plainZ z a)) := (bc7 0).trans (by first | exact t0_0 | exact (World.cell?_alloc_lt _ _ _ (by go_size)).trans t0_0)
  replace t0_1 : w7.cell? ⟨w1.heap.size, 1, none⟩ = some (.slice A_w0 n_w0 c_w0) := (bc7 1).trans (by first | exact t0_1 | exact (World.cell?_alloc_lt _ _ _ (by go_size)).trans t0_1)
  clear bc7 bf7
  obtain ⟨bc7, bf7, bz7⟩ := bcell hb7 (b := w2.heap.size) (by go_size)
  replace t1_0 : w7.cell? ⟨w2.heap.size, 0, none⟩ = some (.int .i64 (plainZ z a)) := (bc7 0).trans (by first | exact t1_0 | exact (World.cell?_alloc_lt _ _ _ (by go_size)).trans t1_0)
  replace t1_1 : w7.cell? ⟨w2.heap.size, 1, none⟩ = some (.slice A_g0 n_g0 c_g0) := (bc7 1).trans (by first | exact t1_1 | exact (World.cell?_alloc_lt _ _ _ (by go_size)).trans t1_1)
  clear bc7 bf7
  obtain ⟨bc7, bf7, bz7⟩ := bcell hb7 (b := w6.heap.size) (by go_size)
  have t2_0 : w7.cell? ⟨w6.heap.size, 0, none⟩ = some (.int .i64 (plainZ z a)) := (bc7 0).trans (by first | (rw [World.cell?_alloc_new]; done) | (rw [World.cell?_alloc_new]; rfl) | (simp [go_sem]; done) | (rw [World.cell?_alloc_lt _ _ _ (by go_size), World.cell?_alloc_new]; rfl))
  have t2_1 : w7.cell? ⟨w6.heap.size, 1, none⟩ = some (.slice A_h0 n_h0 c_h0) := (bc7 1).trans (by first | (rw [World.cell?_alloc_new]; done) | (rw [World.cell?_alloc_new]; rfl) | (simp [go_sem]; done) | (rw [World.cell?_alloc_lt _ _ _ (by go_size), World.cell?_alloc_new]; rfl))
  clear bc7 bf7
  replace f_w0 := f_w0.next HB7
  replace f_g0 := f_g0.next HB7
  replace f_h0 := f_h0.next HB7
  replace HW := HW.trans (HB7.mono (by omega))
  clear hb7 HB7
  go_wp2_with fail
  refine (laws_heldBlock _ _ _ _ _ (f_g0.rd.below' (by go_grown) (by go_size))).mono ?_
  rintro e w8 ⟨rfl, hb8⟩
  have hy8 := bsize hb8
  try simp at hy8
  have HB8 : Below w7.heap.size w7 w8 := by (repeat' (first | (with_reducible exact Below.refl _ _) | (with_reducible refine Below.setCell ?_ ?_ _) | (with_reducible refine Below.alloc ?_ ?_ _) | (with_reducible refine Below.drew ?_) | (with_reducible refine Below.drewN ?_ _) | (with_reducible refine Below.trans ?_ (Below.mono (by with_reducible assumption) ?_)) | go_size | (dsimp only; omega)))
  have hx8 := HB8.size
  obtain ⟨bc8, bf8, bz8⟩ := bcell hb8 (b := w1.heap.size) (by go_size)
  replace t0_0 : w8.cell? ⟨w1.heap.size, 0, none⟩ = some (.int .i64 (plainZ z a)) := (bc8 0).trans (by first | exact t0_0 | exact (World.cell?_alloc_lt _ _ _ (by go_size)).trans t0_0)
  replace t0_1 : w8.cell? ⟨w1.heap.size, 1, none⟩ = some (.slice A_w0 n_w0 c_w0) := (bc8 1).trans (by first | exact t0_1 | exact (World.cell?_alloc_lt _ _ _ (by go_size)).trans t0_1)
  clear bc8 bf8
  obtain ⟨bc8, bf8, bz8⟩ := bcell hb8 (b := w2.heap.size) (by go_size)
  replace t1_0 : w8.cell? ⟨w2.heap.size, 0, none⟩ = some (.int .i64 (plainZ z a)) := (bc8 0).trans (by first | exact t1_0 | exact (World.cell?_alloc_lt _ _ _ (by go_size)).trans t1_0)
  replace t1_1 : w8.cell? ⟨w2.heap.size, 1, none⟩ = some (.slice A_g0 n_g0 c_g0) := (bc8 1).trans (by first | exact t1_1 | exact (World.cell?_alloc_lt _ _ _ (by go_size)).trans t1_1)
  clear bc8 bf8
  obtain ⟨bc8, bf8, bz8⟩ := bcell hb8 (b := w6.heap.size) (by go_size)
  replace t2_0 : w8.cell? ⟨w6.heap.size, 0, none⟩ = some (.int .i64 (plainZ z a)) := (bc8 0).trans (by first | exact t2_0 | exact (World.cell?_alloc_lt _ _ _ (by go_size)).trans t2_0)
  replace t2_1 : w8.cell? ⟨w6.heap.size, 1, none⟩ = some (.slice A_h0 n_h0 c_h0) := (bc8 1).trans (by first | exact t2_1 | exact (World.cell?_alloc_lt _ _ _ (by go_size)).trans t2_1)
  clear bc8 bf8
  replace f_w0 := f_w0.next HB8
  replace f_g0 := f_g0.next HB8
  replace f_h0 := f_h0.next HB8
  replace HW := HW.trans (HB8.mono (by omega))
  clear hb8 HB8
  go_wp2
  go_ret
  refine ⟨rfl, ?_⟩
  (repeat' (first | (with_reducible exact Below.refl _ _) | (with_reducible exact HW) | (with_reducible refine Below.setCell ?_ ?_ _) | (with_reducible refine Below.alloc ?_ ?_ _) | (with_reducible refine Below.drew ?_) | (with_reducible refine Below.drewN ?_ _) | (with_reducible refine Below.trans ?_ (Below.mono (by with_reducible assumption) ?_)) | go_size | (dsimp only; omega)))

end Go.Proofs.Ytjjdkbkmjjfnoaa
