/- Walks of the laws on IsCut: each returns true. No condition. -/
import Derived.Test.YtaohhfnpjkjdiaaR2
import Derived.Test.YtaohhfnpjkjdiaaCu
import Derived.Deep.RegionHeld3
set_option linter.unusedSimpArgs false
set_option linter.unusedVariables false
namespace Go.Proofs.Ytaohhfnpjkjdiaa
open Go.RowKit

set_option maxHeartbeats 400000 in
theorem laws_toCut (u : Bool) (a : Int) (w : World) :
    Calls Try.prog 35 #[.agg #[.bool u, .int .i64 a]] w fun e w' => e = .returned (.agg #[.bool u, .int .i64 a]) ∧ Below w.heap.size w w' := by
  go_enter Try.func35, Try.ntmps35
  go_wp2
  refine bodyPost_ret (v := .agg #[.bool u, .int .i64 a]) (by simp [results, Try.results35, go_sem]) rfl ⟨rfl, ?_⟩
  (repeat' (first | (with_reducible exact Below.refl _ _) | (with_reducible refine Below.setCell ?_ ?_ _) | (with_reducible refine Below.alloc ?_ ?_ _) | (with_reducible refine Below.drew ?_) | (with_reducible refine Below.drewN ?_ _) | (with_reducible refine Below.trans ?_ (Below.mono (by with_reducible assumption) ?_)) | go_size | (dsimp only; omega)))

set_option maxRecDepth 100000 in
set_option maxHeartbeats 1000000 in
theorem walk_FnExactIsCut_small (z y : Int) (A : Option Addr) (n c : Nat) (xs : List Pt) (u : Bool) (a : Int) (w : World) (hz : I64 z) (hy : I64 y) (h : RdP w w.heap.size A n xs) (hn : n ≤ 1048576) (ha : I64 a) :
    Calls Try.prog 9 #[.agg #[.int .i64 z, .int .i64 y, .slice A n c], .agg #[.bool u, .int .i64 a]] w fun e w' => e = .returned (.bool true) ∧ Below w.heap.size w w' := by
  have hsz := szB_small hn
  have a_x := h
  have HW := Below.refl w.heap.size w
  have hs := lt2
  have hs3 := lt3
  go_enter Try.func9, Try.ntmps9
  go_wp2_with fail
  refine (laws_szLayout _ _ _ _ _ _ (by omega)).mono ?_
  rintro e w1 ⟨rfl, hb1⟩
  have hy1 := bsize hb1
  try simp at hy1
  have HB1 : Below w.heap.size w w1 := by (repeat' (first | (with_reducible exact Below.refl _ _) | (with_reducible refine Below.setCell ?_ ?_ _) | (with_reducible refine Below.alloc ?_ ?_ _) | (with_reducible refine Below.drew ?_) | (with_reducible refine Below.drewN ?_ _) | (with_reducible refine Below.trans ?_ (Below.mono (by with_reducible assumption) ?_)) | go_size | (dsimp only; omega)))
  have hx1 := HB1.size
  obtain ⟨bc1, bf1, bz1⟩ := bcell hb1 (b := w.heap.size) (by go_size)
  have t0_0 : w1.cell? ⟨w.heap.size, 0, none⟩ = some (.int .i64 z) := (bc1 0).trans (by first | (rw [World.cell?_alloc_new]; done) | (rw [World.cell?_alloc_new]; rfl) | (simp [go_sem]; done) | (rw [World.cell?_alloc_lt _ _ _ (by go_size), World.cell?_alloc_new]; rfl))
  have t0_1 : w1.cell? ⟨w.heap.size, 1, none⟩ = some (.int .i64 y) := (bc1 1).trans (by first | (rw [World.cell?_alloc_new]; done) | (rw [World.cell?_alloc_new]; rfl) | (simp [go_sem]; done) | (rw [World.cell?_alloc_lt _ _ _ (by go_size), World.cell?_alloc_new]; rfl))
  have t0_2 : w1.cell? ⟨w.heap.size, 2, none⟩ = some (.slice A n c) := (bc1 2).trans (by first | (rw [World.cell?_alloc_new]; done) | (rw [World.cell?_alloc_new]; rfl) | (simp [go_sem]; done) | (rw [World.cell?_alloc_lt _ _ _ (by go_size), World.cell?_alloc_new]; rfl))
  clear bc1 bf1
  obtain ⟨bc1, bf1, bz1⟩ := bcell hb1 (b := w.heap.size + 1) (by go_size)
  have t1_0 : w1.cell? ⟨w.heap.size + 1, 0, none⟩ = some (.bool u) := (bc1 0).trans (by first | (rw [World.cell?_alloc_new]; done) | (rw [World.cell?_alloc_new]; rfl) | (simp [go_sem]; done) | (rw [World.cell?_alloc_lt _ _ _ (by go_size), World.cell?_alloc_new]; rfl))
  have t1_1 : w1.cell? ⟨w.heap.size + 1, 1, none⟩ = some (.int .i64 a) := (bc1 1).trans (by first | (rw [World.cell?_alloc_new]; done) | (rw [World.cell?_alloc_new]; rfl) | (simp [go_sem]; done) | (rw [World.cell?_alloc_lt _ _ _ (by go_size), World.cell?_alloc_new]; rfl))
  clear bc1 bf1
  replace a_x := a_x.below (HB1.mono (by omega))
  replace HW := HW.trans (HB1.mono (by omega))
  clear hb1 HB1
  go_wp2_with fail
  go_region_held3 (fun w' => w'.cell? ⟨w.heap.size, 0, none⟩ = some (.int .i64 z) ∧ w'.cell? ⟨w.heap.size, 1, none⟩ = some (.int .i64 y) ∧ w'.cell? ⟨w.heap.size, 2, none⟩ = some (.slice A n c) ∧ w'.cell? ⟨w.heap.size + 1, 0, none⟩ = some (.bool u) ∧ w'.cell? ⟨w.heap.size + 1, 1, none⟩ = some (.int .i64 a)) (go_keep) (first
    | (go_at_call 23; (with_reducible refine (laws_toLayout z y A n c xs _ ?_).mono ?_); exact (a_x.below' (by (repeat' (first | (with_reducible exact Below.refl _ _) | (with_reducible refine Below.setCell ?_ ?_ _) | (with_reducible refine Below.alloc ?_ ?_ _) | (with_reducible refine Below.drew ?_) | (with_reducible refine Below.drewN ?_ _) | (with_reducible refine Below.trans ?_ (Below.mono (by with_reducible assumption) ?_)) | go_size | (dsimp only; omega)))) (by go_size)); rintro e w2 ⟨g_p, rfl, f_p, hb2⟩; have hy2 := bsize hb2; (try simp at hy2); obtain ⟨bc2_0, bf2_0, bz2_0⟩ := bcell hb2 (b := w.heap.size) (by go_size); obtain ⟨bc2_1, bf2_1, bz2_1⟩ := bcell hb2 (b := w.heap.size + 1) (by go_size); have l_p := Lib.hid f_p.lt)
    | (go_at_call 35; (with_reducible refine (laws_toCut u a _).mono ?_); rintro e w3 ⟨rfl, hb3⟩; have hy3 := bsize hb3; (try simp at hy3); obtain ⟨bc3_0, bf3_0, bz3_0⟩ := bcell hb3 (b := w.heap.size) (by go_size); obtain ⟨bc3_1, bf3_1, bz3_1⟩ := bcell hb3 (b := w.heap.size + 1) (by go_size))
    | (go_at_call 34; (with_reducible refine (spec_IsCut _ _ _ _ _ xs _ _ _ ?_).mono ?_); exact ((f_p.rd Pt.len).below' (by (repeat' (first | (with_reducible exact Below.refl _ _) | (with_reducible refine Below.setCell ?_ ?_ _) | (with_reducible refine Below.alloc ?_ ?_ _) | (with_reducible refine Below.drew ?_) | (with_reducible refine Below.drewN ?_ _) | (with_reducible refine Below.trans ?_ (Below.mono (by with_reducible assumption) ?_)) | go_size | (dsimp only; omega)))) (by go_size)); rintro e w4 ⟨rfl, hb4⟩; have hy4 := bsize hb4; (try simp at hy4); obtain ⟨bc4_0, bf4_0, bz4_0⟩ := bcell hb4 (b := w.heap.size) (by go_size); obtain ⟨bc4_1, bf4_1, bz4_1⟩ := bcell hb4 (b := w.heap.size + 1) (by go_size)))
  have HB4 : Below w1.heap.size w1 w4 := by (repeat' (first | (with_reducible exact Below.refl _ _) | (with_reducible refine Below.setCell ?_ ?_ _) | (with_reducible refine Below.alloc ?_ ?_ _) | (with_reducible refine Below.drew ?_) | (with_reducible refine Below.drewN ?_ _) | (with_reducible refine Below.trans ?_ (Below.mono (by with_reducible assumption) ?_)) | go_size | (dsimp only; omega)))
  have hx4 := HB4.size
  replace t0_0 : w4.cell? ⟨w.heap.size, 0, none⟩ = some (.int .i64 z) := (HB4.cell (p := ⟨w.heap.size, 0, none⟩) (by dsimp only; omega)).trans t0_0
  replace t0_1 : w4.cell? ⟨w.heap.size, 1, none⟩ = some (.int .i64 y) := (HB4.cell (p := ⟨w.heap.size, 1, none⟩) (by dsimp only; omega)).trans t0_1
  replace t0_2 : w4.cell? ⟨w.heap.size, 2, none⟩ = some (.slice A n c) := (HB4.cell (p := ⟨w.heap.size, 2, none⟩) (by dsimp only; omega)).trans t0_2
  replace t1_0 : w4.cell? ⟨w.heap.size + 1, 0, none⟩ = some (.bool u) := (HB4.cell (p := ⟨w.heap.size + 1, 0, none⟩) (by dsimp only; omega)).trans t1_0
  replace t1_1 : w4.cell? ⟨w.heap.size + 1, 1, none⟩ = some (.int .i64 a) := (HB4.cell (p := ⟨w.heap.size + 1, 1, none⟩) (by dsimp only; omega)).trans t1_1
  replace a_x := a_x.below (HB4.mono (by omega))
  replace HW := HW.trans (HB4.mono (by omega))
  clear HB4
  clear hb2 hb3 hb4 bc2_0 bf2_0 bc2_1 bf2_1 bc3_0 bf3_0 bc3_1 bf3_1 bc4_0 bf4_0 bc4_1 bf4_1
  go_wp2_with fail
  refine (laws_toLayout _ _ _ _ _ _ _ (a_x.below' (by go_grown) (by go_size))).mono ?_
  rintro e w5 ⟨g_x0, rfl, f_x0, hb5⟩
  have l_x0 := Lib.hid f_x0.lt
  try simp only [World.size_alloc] at l_x0
  have hy5 := bsize hb5
  try simp at hy5
  have HB5 : Below w4.heap.size w4 w5 := by (repeat' (first | (with_reducible exact Below.refl _ _) | (with_reducible refine Below.setCell ?_ ?_ _) | (with_reducible refine Below.alloc ?_ ?_ _) | (with_reducible refine Below.drew ?_) | (with_reducible refine Below.drewN ?_ _) | (with_reducible refine Below.trans ?_ (Below.mono (by with_reducible assumption) ?_)) | go_size | (dsimp only; omega)))
  have hx5 := HB5.size
  obtain ⟨bc5, bf5, bz5⟩ := bcell hb5 (b := w.heap.size) (by go_size)
  replace t0_0 : w5.cell? ⟨w.heap.size, 0, none⟩ = some (.int .i64 z) := (bc5 0).trans (by first | exact t0_0 | exact (World.cell?_alloc_lt _ _ _ (by go_size)).trans t0_0)
  replace t0_1 : w5.cell? ⟨w.heap.size, 1, none⟩ = some (.int .i64 y) := (bc5 1).trans (by first | exact t0_1 | exact (World.cell?_alloc_lt _ _ _ (by go_size)).trans t0_1)
  replace t0_2 : w5.cell? ⟨w.heap.size, 2, none⟩ = some (.slice A n c) := (bc5 2).trans (by first | exact t0_2 | exact (World.cell?_alloc_lt _ _ _ (by go_size)).trans t0_2)
  clear bc5 bf5
  obtain ⟨bc5, bf5, bz5⟩ := bcell hb5 (b := w.heap.size + 1) (by go_size)
  replace t1_0 : w5.cell? ⟨w.heap.size + 1, 0, none⟩ = some (.bool u) := (bc5 0).trans (by first | exact t1_0 | exact (World.cell?_alloc_lt _ _ _ (by go_size)).trans t1_0)
  replace t1_1 : w5.cell? ⟨w.heap.size + 1, 1, none⟩ = some (.int .i64 a) := (bc5 1).trans (by first | exact t1_1 | exact (World.cell?_alloc_lt _ _ _ (by go_size)).trans t1_1)
  clear bc5 bf5
  replace a_x := a_x.below (HB5.mono (by omega))
  replace HW := HW.trans (HB5.mono (by omega))
  clear hb5 HB5
  have m_x0 : ∀ k, (Value.slice (some ⟨g_x0, 0, none⟩) n n).ownBlock = some k → w4.heap.size ≤ k ∧ k < w5.heap.size := fun k e => ⟨Nat.le_trans (by go_size) (f_x0.lt k e).1, (f_x0.lt k e).2⟩
  clear l_x0
  have l_x0 := Lib.hid m_x0
  clear m_x0
  go_wp2_with fail
  go_region_held3 (fun w' => w'.cell? ⟨w5.heap.size, 0, none⟩ = some (.int .i64 z) ∧ w'.cell? ⟨w5.heap.size, 1, none⟩ = some (.int .i64 y) ∧ w'.cell? ⟨w5.heap.size, 2, none⟩ = some (.slice (some ⟨g_x0, 0, none⟩) n n) ∧ w'.cell? ⟨w.heap.size + 1, 0, none⟩ = some (.bool u) ∧ w'.cell? ⟨w.heap.size + 1, 1, none⟩ = some (.int .i64 a)) (go_keep) (first
    | (go_at_call 35; (with_reducible refine (laws_toCut u a _).mono ?_); rintro e w6 ⟨rfl, hb6⟩; have hy6 := bsize hb6; (try simp at hy6); obtain ⟨bc6_0, bf6_0, bz6_0⟩ := bcell hb6 (b := w5.heap.size) (by go_size); obtain ⟨bc6_1, bf6_1, bz6_1⟩ := bcell hb6 (b := w.heap.size + 1) (by go_size))
    | (go_at_call 36; (with_reducible refine (impl_IsCut _ _ _ _ _ xs _ _ _ ?_).mono ?_); exact ((f_x0.rd Pt.len).below' (by (repeat' (first | (with_reducible exact Below.refl _ _) | (with_reducible refine Below.setCell ?_ ?_ _) | (with_reducible refine Below.alloc ?_ ?_ _) | (with_reducible refine Below.drew ?_) | (with_reducible refine Below.drewN ?_ _) | (with_reducible refine Below.trans ?_ (Below.mono (by with_reducible assumption) ?_)) | go_size | (dsimp only; omega)))) (by go_size)); rintro e w7 ⟨rfl, hb7⟩; have hy7 := bsize hb7; (try simp at hy7); obtain ⟨bc7_0, bf7_0, bz7_0⟩ := bcell hb7 (b := w5.heap.size) (by go_size); obtain ⟨bc7_1, bf7_1, bz7_1⟩ := bcell hb7 (b := w.heap.size + 1) (by go_size)))
  have HB7 : Below w5.heap.size w5 w7 := by (repeat' (first | (with_reducible exact Below.refl _ _) | (with_reducible refine Below.setCell ?_ ?_ _) | (with_reducible refine Below.alloc ?_ ?_ _) | (with_reducible refine Below.drew ?_) | (with_reducible refine Below.drewN ?_ _) | (with_reducible refine Below.trans ?_ (Below.mono (by with_reducible assumption) ?_)) | go_size | (dsimp only; omega)))
  have hx7 := HB7.size
  replace t0_0 : w7.cell? ⟨w.heap.size, 0, none⟩ = some (.int .i64 z) := (HB7.cell (p := ⟨w.heap.size, 0, none⟩) (by dsimp only; omega)).trans t0_0
  replace t0_1 : w7.cell? ⟨w.heap.size, 1, none⟩ = some (.int .i64 y) := (HB7.cell (p := ⟨w.heap.size, 1, none⟩) (by dsimp only; omega)).trans t0_1
  replace t0_2 : w7.cell? ⟨w.heap.size, 2, none⟩ = some (.slice A n c) := (HB7.cell (p := ⟨w.heap.size, 2, none⟩) (by dsimp only; omega)).trans t0_2
  replace t1_0 : w7.cell? ⟨w.heap.size + 1, 0, none⟩ = some (.bool u) := (HB7.cell (p := ⟨w.heap.size + 1, 0, none⟩) (by dsimp only; omega)).trans t1_0
  replace t1_1 : w7.cell? ⟨w.heap.size + 1, 1, none⟩ = some (.int .i64 a) := (HB7.cell (p := ⟨w.heap.size + 1, 1, none⟩) (by dsimp only; omega)).trans t1_1
  have t2_0 : w7.cell? ⟨w5.heap.size, 0, none⟩ = some (.int .i64 z) := ((bc7_0 0).trans ((bc6_0 0).trans (by first | (simp [go_sem]; done) | (rw [World.cell?_alloc_new]; rfl))))
  have t2_1 : w7.cell? ⟨w5.heap.size, 1, none⟩ = some (.int .i64 y) := ((bc7_0 1).trans ((bc6_0 1).trans (by first | (simp [go_sem]; done) | (rw [World.cell?_alloc_new]; rfl))))
  have t2_2 : w7.cell? ⟨w5.heap.size, 2, none⟩ = some (.slice (some ⟨g_x0, 0, none⟩) n n) := ((bc7_0 2).trans ((bc6_0 2).trans (by first | (simp [go_sem]; done) | (rw [World.cell?_alloc_new]; rfl))))
  replace f_x0 := f_x0.next HB7
  replace a_x := a_x.below (HB7.mono (by omega))
  replace HW := HW.trans (HB7.mono (by omega))
  clear HB7
  clear hb6 hb7 bc6_0 bf6_0 bc6_1 bf6_1 bc7_0 bf7_0 bc7_1 bf7_1
  go_wp2_with fail
  go_region_held3 (fun w' => w'.cell? ⟨w5.heap.size, 0, none⟩ = some (.int .i64 z) ∧ w'.cell? ⟨w5.heap.size, 1, none⟩ = some (.int .i64 y) ∧ w'.cell? ⟨w5.heap.size, 2, none⟩ = some (.slice (some ⟨g_x0, 0, none⟩) n n) ∧ w'.cell? ⟨w.heap.size, 0, none⟩ = some (.int .i64 z) ∧ w'.cell? ⟨w.heap.size, 1, none⟩ = some (.int .i64 y) ∧ w'.cell? ⟨w.heap.size, 2, none⟩ = some (.slice A n c)) (go_keep) (first
    | (go_at_call 23; (with_reducible refine (laws_toLayout z y A n c xs _ ?_).mono ?_); exact (a_x.below' (by (repeat' (first | (with_reducible exact Below.refl _ _) | (with_reducible refine Below.setCell ?_ ?_ _) | (with_reducible refine Below.alloc ?_ ?_ _) | (with_reducible refine Below.drew ?_) | (with_reducible refine Below.drewN ?_ _) | (with_reducible refine Below.trans ?_ (Below.mono (by with_reducible assumption) ?_)) | go_size | (dsimp only; omega)))) (by go_size)); rintro e w8 ⟨g_q, rfl, f_q, hb8⟩; have hy8 := bsize hb8; (try simp at hy8); obtain ⟨bc8_0, bf8_0, bz8_0⟩ := bcell hb8 (b := w5.heap.size) (by go_size); obtain ⟨bc8_1, bf8_1, bz8_1⟩ := bcell hb8 (b := w.heap.size) (by go_size); have l_q := Lib.hid f_q.lt)
    | (go_at_call 18; (with_reducible refine (laws_eqLayout_self _ _ _ _ _ _ _ _ xs _ ?_ ?_).mono ?_); exact ((f_x0.rd Pt.len).below' (by (repeat' (first | (with_reducible exact Below.refl _ _) | (with_reducible refine Below.setCell ?_ ?_ _) | (with_reducible refine Below.alloc ?_ ?_ _) | (with_reducible refine Below.drew ?_) | (with_reducible refine Below.drewN ?_ _) | (with_reducible refine Below.trans ?_ (Below.mono (by with_reducible assumption) ?_)) | go_size | (dsimp only; omega)))) (by go_size)); exact ((f_q.rd Pt.len).below' (by (repeat' (first | (with_reducible exact Below.refl _ _) | (with_reducible refine Below.setCell ?_ ?_ _) | (with_reducible refine Below.alloc ?_ ?_ _) | (with_reducible refine Below.drew ?_) | (with_reducible refine Below.drewN ?_ _) | (with_reducible refine Below.trans ?_ (Below.mono (by with_reducible assumption) ?_)) | go_size | (dsimp only; omega)))) (by go_size)); rintro e w9 ⟨rfl, hb9⟩; have hy9 := bsize hb9; (try simp at hy9); obtain ⟨bc9_0, bf9_0, bz9_0⟩ := bcell hb9 (b := w5.heap.size) (by go_size); obtain ⟨bc9_1, bf9_1, bz9_1⟩ := bcell hb9 (b := w.heap.size) (by go_size)))
  have HB9 : Below w7.heap.size w7 w9 := by (repeat' (first | (with_reducible exact Below.refl _ _) | (with_reducible refine Below.setCell ?_ ?_ _) | (with_reducible refine Below.alloc ?_ ?_ _) | (with_reducible refine Below.drew ?_) | (with_reducible refine Below.drewN ?_ _) | (with_reducible refine Below.trans ?_ (Below.mono (by with_reducible assumption) ?_)) | go_size | (dsimp only; omega)))
  have hx9 := HB9.size
  replace t0_0 : w9.cell? ⟨w.heap.size, 0, none⟩ = some (.int .i64 z) := (HB9.cell (p := ⟨w.heap.size, 0, none⟩) (by dsimp only; omega)).trans t0_0
  replace t0_1 : w9.cell? ⟨w.heap.size, 1, none⟩ = some (.int .i64 y) := (HB9.cell (p := ⟨w.heap.size, 1, none⟩) (by dsimp only; omega)).trans t0_1
  replace t0_2 : w9.cell? ⟨w.heap.size, 2, none⟩ = some (.slice A n c) := (HB9.cell (p := ⟨w.heap.size, 2, none⟩) (by dsimp only; omega)).trans t0_2
  replace t1_0 : w9.cell? ⟨w.heap.size + 1, 0, none⟩ = some (.bool u) := (HB9.cell (p := ⟨w.heap.size + 1, 0, none⟩) (by dsimp only; omega)).trans t1_0
  replace t1_1 : w9.cell? ⟨w.heap.size + 1, 1, none⟩ = some (.int .i64 a) := (HB9.cell (p := ⟨w.heap.size + 1, 1, none⟩) (by dsimp only; omega)).trans t1_1
  replace t2_0 : w9.cell? ⟨w5.heap.size, 0, none⟩ = some (.int .i64 z) := (HB9.cell (p := ⟨w5.heap.size, 0, none⟩) (by dsimp only; omega)).trans t2_0
  replace t2_1 : w9.cell? ⟨w5.heap.size, 1, none⟩ = some (.int .i64 y) := (HB9.cell (p := ⟨w5.heap.size, 1, none⟩) (by dsimp only; omega)).trans t2_1
  replace t2_2 : w9.cell? ⟨w5.heap.size, 2, none⟩ = some (.slice (some ⟨g_x0, 0, none⟩) n n) := (HB9.cell (p := ⟨w5.heap.size, 2, none⟩) (by dsimp only; omega)).trans t2_2
  replace f_x0 := f_x0.next HB9
  replace a_x := a_x.below (HB9.mono (by omega))
  replace HW := HW.trans (HB9.mono (by omega))
  clear HB9
  clear hb8 hb9 bc8_0 bf8_0 bc8_1 bf8_1 bc9_0 bf9_0 bc9_1 bf9_1
  go_wp2
  go_ret
  refine ⟨rfl, ?_⟩
  (repeat' (first | (with_reducible exact Below.refl _ _) | (with_reducible exact HW) | (with_reducible refine Below.setCell ?_ ?_ _) | (with_reducible refine Below.alloc ?_ ?_ _) | (with_reducible refine Below.drew ?_) | (with_reducible refine Below.drewN ?_ _) | (with_reducible refine Below.trans ?_ (Below.mono (by with_reducible assumption) ?_)) | go_size | (dsimp only; omega)))

set_option maxHeartbeats 400000 in
theorem walk_FnExactIsCut_big (z y : Int) (A : Option Addr) (n c : Nat) (xs : List Pt) (u : Bool) (a : Int) (w : World) (hb : 1048576 < n) (hm : n ≤ 9223372036854775807) :
    Calls Try.prog 9 #[.agg #[.int .i64 z, .int .i64 y, .slice A n c], .agg #[.bool u, .int .i64 a]] w fun e w' => e = .returned (.bool true) ∧ Below w.heap.size w w' := by
  have hsz := szB_big hb
  go_enter Try.func9, Try.ntmps9
  go_wp2_with (go_at_call 21; refine (laws_szLayout _ _ _ _ _ _ hm).mono ?_; rintro e w1 ⟨rfl, hb1⟩)
  go_ret
  refine ⟨rfl, ?_⟩
  (repeat' (first | (with_reducible exact Below.refl _ _) | (with_reducible refine Below.setCell ?_ ?_ _) | (with_reducible refine Below.alloc ?_ ?_ _) | (with_reducible refine Below.drew ?_) | (with_reducible refine Below.drewN ?_ _) | (with_reducible refine Below.trans ?_ (Below.mono (by with_reducible assumption) ?_)) | go_size | (dsimp only; omega)))

theorem walk_FnExactIsCut (z y : Int) (A : Option Addr) (n c : Nat) (xs : List Pt) (u : Bool) (a : Int) (w : World) (hz : I64 z) (hy : I64 y) (h : ArgP w A n xs) (ha : I64 a) :
    Calls Try.prog 9 #[.agg #[.int .i64 z, .int .i64 y, .slice A n c], .agg #[.bool u, .int .i64 a]] w fun e w' => e = .returned (.bool true) ∧ Below w.heap.size w w' := by
  by_cases hb : n ≤ 1048576
  · exact walk_FnExactIsCut_small z y A n c xs u a w hz hy (h.2 (by omega)) hb ha
  · exact walk_FnExactIsCut_big z y A n c xs u a w (by omega) (by have := h.1; unfold maxLen at this; omega)

end Go.Proofs.Ytaohhfnpjkjdiaa
