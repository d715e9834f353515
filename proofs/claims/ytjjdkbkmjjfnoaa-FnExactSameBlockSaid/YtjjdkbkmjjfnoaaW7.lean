/- Walks of the laws on CellAt and SameBlock: each returns true. No condition. -/
import Derived.Test.YtjjdkbkmjjfnoaaW6
import Derived.Test.YtjjdkbkmjjfnoaaB3
import Derived.Test.YtjjdkbkmjjfnoaaZ
set_option linter.unusedSimpArgs false
set_option linter.unusedVariables false
namespace Go.Proofs.Ytjjdkbkmjjfnoaa
open Go.RowKit

set_option maxRecDepth 100000 in
set_option maxHeartbeats 1000000 in
theorem walk_FnExactCellAt_small (z : Int) (A : Option Addr) (n c : Nat) (xs : List C) (x y : Int) (w : World) (hz : I64 z) (h : RdC w w.heap.size A n xs) (hn : n ≤ 1048576) (hx : I64 x) (hy : I64 y) :
    Calls Try.prog 5 #[.agg #[.int .i64 z, .slice A n c], .int .i64 x, .int .i64 y] w fun e w' => e = .returned (.bool true) ∧ Below w.heap.size w w' := by
  have hsz := szB_small hn
  have a_x := h
  have HW := Below.refl w.heap.size w
  have hs := lt2
  have hs3 := lt3
  go_enter Try.func5, Try.ntmps5
  go_wp2_with fail
  refine (laws_szBlock _ _ _ _ _ (by omega)).mono ?_
  rintro e w1 ⟨rfl, hb1⟩
  have hy1 := bsize hb1
  try simp at hy1
  have HB1 : Below w.heap.size w w1 := by (repeat' (first | (with_reducible exact Below.refl _ _) | (with_reducible refine Below.setCell ?_ ?_ _) | (with_reducible refine Below.alloc ?_ ?_ _) | (with_reducible refine Below.drew ?_) | (with_reducible refine Below.drewN ?_ _) | (with_reducible refine Below.trans ?_ (Below.mono (by with_reducible assumption) ?_)) | go_size | (dsimp only; omega)))
  have hx1 := HB1.size
  obtain ⟨bc1, bf1, bz1⟩ := bcell hb1 (b := w.heap.size) (by go_size)
  have t0_0 : w1.cell? ⟨w.heap.size, 0, none⟩ = some (.int .i64 z) := (bc1 0).trans (by first | (rw [World.cell?_alloc_new]; done) | (rw [World.cell?_alloc_new]; rfl) | (simp [go_sem]; done) | (rw [World.cell?_alloc_lt _ _ _ (by go_size), World.cell?_alloc_new]; rfl))
  have t0_1 : w1.cell? ⟨w.heap.size, 1, none⟩ = some (.slice A n c) := (bc1 1).trans (by first | (rw [World.cell?_alloc_new]; done) | (rw [World.cell?_alloc_new]; rfl) | (simp [go_sem]; done) | (rw [World.cell?_alloc_lt _ _ _ (by go_size), World.cell?_alloc_new]; rfl))
  clear bc1 bf1
  replace a_x := a_x.below (HB1.mono (by omega))
  replace HW := HW.trans (HB1.mono (by omega))
  clear hb1 HB1
  go_wp2_with fail
  refine (laws_toBlock _ _ _ _ _ _ (a_x.below' (by go_grown) (by go_size))).mono ?_
  rintro e w2 ⟨g_p, rfl, f_p, hb2⟩
  have l_p := Lib.hid f_p.lt
  try simp only [World.size_alloc] at l_p
  have hy2 := bsize hb2
  try simp at hy2
  have HB2 : Below w1.heap.size w1 w2 := by (repeat' (first | (with_reducible exact Below.refl _ _) | (with_reducible refine Below.setCell ?_ ?_ _) | (with_reducible refine Below.alloc ?_ ?_ _) | (with_reducible refine Below.drew ?_) | (with_reducible refine Below.drewN ?_ _) | (with_reducible refine Below.trans ?_ (Below.mono (by with_reducible assumption) ?_)) | go_size | (dsimp only; omega)))
  have hx2 := HB2.size
  obtain ⟨bc2, bf2, bz2⟩ := bcell hb2 (b := w.heap.size) (by go_size)
  replace t0_0 : w2.cell? ⟨w.heap.size, 0, none⟩ = some (.int .i64 z) := (bc2 0).trans (by first | exact t0_0 | exact (World.cell?_alloc_lt _ _ _ (by go_size)).trans t0_0)
  replace t0_1 : w2.cell? ⟨w.heap.size, 1, none⟩ = some (.slice A n c) := (bc2 1).trans (by first | exact t0_1 | exact (World.cell?_alloc_lt _ _ _ (by go_size)).trans t0_1)
  clear bc2 bf2
  replace a_x := a_x.below (HB2.mono (by omega))
  replace HW := HW.trans (HB2.mono (by omega))
  clear hb2 HB2
  have m_p : ∀ k, (Value.slice (some ⟨g_p, 0, none⟩) n n).ownBlock = some k → w1.heap.size ≤ k ∧ k < w2.heap.size := fun k e => ⟨Nat.le_trans (by go_size) (f_p.lt k e).1, (f_p.lt k e).2⟩
  clear l_p
  have l_p := Lib.hid m_p
  clear m_p
  go_wp2_with fail
  refine (spec_CellAt _ _ _ _ _ _ _ _ (f_p.rd.below' (by go_grown) (by go_size)) hz).mono ?_
  rintro e w3 ⟨rfl, hb3⟩
  have hy3 := bsize hb3
  try simp at hy3
  have HB3 : Below w2.heap.size w2 w3 := by (repeat' (first | (with_reducible exact Below.refl _ _) | (with_reducible refine Below.setCell ?_ ?_ _) | (with_reducible refine Below.alloc ?_ ?_ _) | (with_reducible refine Below.drew ?_) | (with_reducible refine Below.drewN ?_ _) | (with_reducible refine Below.trans ?_ (Below.mono (by with_reducible assumption) ?_)) | go_size | (dsimp only; omega)))
  have hx3 := HB3.size
  obtain ⟨bc3, bf3, bz3⟩ := bcell hb3 (b := w.heap.size) (by go_size)
  replace t0_0 : w3.cell? ⟨w.heap.size, 0, none⟩ = some (.int .i64 z) := (bc3 0).trans (by first | exact t0_0 | exact (World.cell?_alloc_lt _ _ _ (by go_size)).trans t0_0)
  replace t0_1 : w3.cell? ⟨w.heap.size, 1, none⟩ = some (.slice A n c) := (bc3 1).trans (by first | exact t0_1 | exact (World.cell?_alloc_lt _ _ _ (by go_size)).trans t0_1)
  clear bc3 bf3
  replace f_p := f_p.next HB3
  replace a_x := a_x.below (HB3.mono (by omega))
  replace HW := HW.trans (HB3.mono (by omega))
  clear hb3 HB3
  go_wp2_with fail
  refine (laws_toBlock _ _ _ _ _ _ (a_x.below' (by go_grown) (by go_size))).mono ?_
  rintro e w4 ⟨g_x0, rfl, f_x0, hb4⟩
  have l_x0 := Lib.hid f_x0.lt
  try simp only [World.size_alloc] at l_x0
  have hy4 := bsize hb4
  try simp at hy4
  have HB4 : Below w3.heap.size w3 w4 := by (repeat' (first | (with_reducible exact Below.refl _ _) | (with_reducible refine Below.setCell ?_ ?_ _) | (with_reducible refine Below.alloc ?_ ?_ _) | (with_reducible refine Below.drew ?_) | (with_reducible refine Below.drewN ?_ _) | (with_reducible refine Below.trans ?_ (Below.mono (by with_reducible assumption) ?_)) | go_size | (dsimp only; omega)))
  have hx4 := HB4.size
  obtain ⟨bc4, bf4, bz4⟩ := bcell hb4 (b := w.heap.size) (by go_size)
  replace t0_0 : w4.cell? ⟨w.heap.size, 0, none⟩ = some (.int .i64 z) := (bc4 0).trans (by first | exact t0_0 | exact (World.cell?_alloc_lt _ _ _ (by go_size)).trans t0_0)
  replace t0_1 : w4.cell? ⟨w.heap.size, 1, none⟩ = some (.slice A n c) := (bc4 1).trans (by first | exact t0_1 | exact (World.cell?_alloc_lt _ _ _ (by go_size)).trans t0_1)
  clear bc4 bf4
  obtain ⟨bc4, bf4, bz4⟩ := bcell hb4 (b := w3.heap.size) (by go_size)
  have t1_0 : w4.cell? ⟨w3.heap.size, 0, none⟩ = some (.int .i64 (cellAtB z xs x y).s) := (bc4 0).trans (by first | (rw [World.cell?_alloc_new]; done) | (rw [World.cell?_alloc_new]; rfl) | (simp [go_sem]; done) | (rw [World.cell?_alloc_lt _ _ _ (by go_size), World.cell?_alloc_new]; rfl))
  have t1_1 : w4.cell? ⟨w3.heap.size, 1, none⟩ = some (.int .i64 (cellAtB z xs x y).a) := (bc4 1).trans (by first | (rw [World.cell?_alloc_new]; done) | (rw [World.cell?_alloc_new]; rfl) | (simp [go_sem]; done) | (rw [World.cell?_alloc_lt _ _ _ (by go_size), World.cell?_alloc_new]; rfl))
  have t1_2 : w4.cell? ⟨w3.heap.size, 2, none⟩ = some (.int .i64 (cellAtB z xs x y).b) := (bc4 2).trans (by first | (rw [World.cell?_alloc_new]; done) | (rw [World.cell?_alloc_new]; rfl) | (simp [go_sem]; done) | (rw [World.cell?_alloc_lt _ _ _ (by go_size), World.cell?_alloc_new]; rfl))
  clear bc4 bf4
  replace f_p := f_p.next HB4
  replace a_x := a_x.below (HB4.mono (by omega))
  replace HW := HW.trans (HB4.mono (by omega))
  clear hb4 HB4
  have m_x0 : ∀ k, (Value.slice (some ⟨g_x0, 0, none⟩) n n).ownBlock = some k → w3.heap.size ≤ k ∧ k < w4.heap.size := fun k e => ⟨Nat.le_trans (by go_size) (f_x0.lt k e).1, (f_x0.lt k e).2⟩
  clear l_x0
  have l_x0 := Lib.hid m_x0
  clear m_x0
  go_wp2_with fail
  refine (impl_CellAt _ _ _ _ _ _ _ _ (f_x0.rd.below' (by go_grown) (by go_size)) hz).mono ?_
  rintro e w5 ⟨rfl, hb5⟩
  have hy5 := bsize hb5
  try simp at hy5
  have HB5 : Below w4.heap.size w4 w5 := by (repeat' (first | (with_reducible exact Below.refl _ _) | (with_reducible refine Below.setCell ?_ ?_ _) | (with_reducible refine Below.alloc ?_ ?_ _) | (with_reducible refine Below.drew ?_) | (with_reducible refine Below.drewN ?_ _) | (with_reducible refine Below.trans ?_ (Below.mono (by with_reducible assumption) ?_)) | go_size | (dsimp only; omega)))
  have hx5 := HB5.size
  obtain ⟨bc5, bf5, bz5⟩ := bcell hb5 (b := w.heap.size) (by go_size)
  replace t0_0 : w5.cell? ⟨w.heap.size, 0, none⟩ = some (.int .i64 z) := (bc5 0).trans (by first | exact t0_0 | exact (World.cell?_alloc_lt _ _ _ (by go_size)).trans t0_0)
  replace t0_1 : w5.cell? ⟨w.heap.size, 1, none⟩ = some (.slice A n c) := (bc5 1).trans (by first | exact t0_1 | exact (World.cell?_alloc_lt _ _ _ (by go_size)).trans t0_1)
  clear bc5 bf5
  obtain ⟨bc5, bf5, bz5⟩ := bcell hb5 (b := w3.heap.size) (by go_size)
  replace t1_0 : w5.cell? ⟨w3.heap.size, 0, none⟩ = some (.int .i64 (cellAtB z xs x y).s) := (bc5 0).trans (by first | exact t1_0 | exact (World.cell?_alloc_lt _ _ _ (by go_size)).trans t1_0)
  replace t1_1 : w5.cell? ⟨w3.heap.size, 1, none⟩ = some (.int .i64 (cellAtB z xs x y).a) := (bc5 1).trans (by first | exact t1_1 | exact (World.cell?_alloc_lt _ _ _ (by go_size)).trans t1_1)
  replace t1_2 : w5.cell? ⟨w3.heap.size, 2, none⟩ = some (.int .i64 (cellAtB z xs x y).b) := (bc5 2).trans (by first | exact t1_2 | exact (World.cell?_alloc_lt _ _ _ (by go_size)).trans t1_2)
  clear bc5 bf5
  obtain ⟨bc5, bf5, bz5⟩ := bcell hb5 (b := w4.heap.size) (by go_size)
  have t2_0 : w5.cell? ⟨w4.heap.size, 0, none⟩ = some (.int .i64 z) := (bc5 0).trans (by first | (rw [World.cell?_alloc_new]; done) | (rw [World.cell?_alloc_new]; rfl) | (simp [go_sem]; done) | (rw [World.cell?_alloc_lt _ _ _ (by go_size), World.cell?_alloc_new]; rfl))
  have t2_1 : w5.cell? ⟨w4.heap.size, 1, none⟩ = some (.slice (some ⟨g_x0, 0, none⟩) n n) := (bc5 1).trans (by first | (rw [World.cell?_alloc_new]; done) | (rw [World.cell?_alloc_new]; rfl) | (simp [go_sem]; done) | (rw [World.cell?_alloc_lt _ _ _ (by go_size), World.cell?_alloc_new]; rfl))
  clear bc5 bf5
  replace f_p := f_p.next HB5
  replace f_x0 := f_x0.next HB5
  replace a_x := a_x.below (HB5.mono (by omega))
  replace HW := HW.trans (HB5.mono (by omega))
  clear hb5 HB5
  go_wp2_with fail
  refine (laws_eqCell_self _ _ _ _).mono ?_
  rintro e w6 ⟨rfl, hb6⟩
  have hy6 := bsize hb6
  try simp at hy6
  have HB6 : Below w5.heap.size w5 w6 := by (repeat' (first | (with_reducible exact Below.refl _ _) | (with_reducible refine Below.setCell ?_ ?_ _) | (with_reducible refine Below.alloc ?_ ?_ _) | (with_reducible refine Below.drew ?_) | (with_reducible refine Below.drewN ?_ _) | (with_reducible refine Below.trans ?_ (Below.mono (by with_reducible assumption) ?_)) | go_size | (dsimp only; omega)))
  have hx6 := HB6.size
  obtain ⟨bc6, bf6, bz6⟩ := bcell hb6 (b := w.heap.size) (by go_size)
  replace t0_0 : w6.cell? ⟨w.heap.size, 0, none⟩ = some (.int .i64 z) := (bc6 0).trans (by first | exact t0_0 | exact (World.cell?_alloc_lt _ _ _ (by go_size)).trans t0_0)
  replace t0_1 : w6.cell? ⟨w.heap.size, 1, none⟩ = some (.slice A n c) := (bc6 1).trans (by first | exact t0_1 | exact (World.cell?_alloc_lt _ _ _ (by go_size)).trans t0_1)
  clear bc6 bf6
  obtain ⟨bc6, bf6, bz6⟩ := bcell hb6 (b := w3.heap.size) (by go_size)
  replace t1_0 : w6.cell? ⟨w3.heap.size, 0, none⟩ = some (.int .i64 (cellAtB z xs x y).s) := (bc6 0).trans (by first | exact t1_0 | exact (World.cell?_alloc_lt _ _ _ (by go_size)).trans t1_0)
  replace t1_1 : w6.cell? ⟨w3.heap.size, 1, none⟩ = some (.int .i64 (cellAtB z xs x y).a) := (bc6 1).trans (by first | exact t1_1 | exact (World.cell?_alloc_lt _ _ _ (by go_size)).trans t1_1)
  replace t1_2 : w6.cell? ⟨w3.heap.size, 2, none⟩ = some (.int .i64 (cellAtB z xs x y).b) := (bc6 2).trans (by first | exact t1_2 | exact (World.cell?_alloc_lt _ _ _ (by go_size)).trans t1_2)
  clear bc6 bf6
  obtain ⟨bc6, bf6, bz6⟩ := bcell hb6 (b := w4.heap.size) (by go_size)
  replace t2_0 : w6.cell? ⟨w4.heap.size, 0, none⟩ = some (.int .i64 z) := (bc6 0).trans (by first | exact t2_0 | exact (World.cell?_alloc_lt _ _ _ (by go_size)).trans t2_0)
  replace t2_1 : w6.cell? ⟨w4.heap.size, 1, none⟩ = some (.slice (some ⟨g_x0, 0, none⟩) n n) := (bc6 1).trans (by first | exact t2_1 | exact (World.cell?_alloc_lt _ _ _ (by go_size)).trans t2_1)
  clear bc6 bf6
  replace f_p := f_p.next HB6
  replace f_x0 := f_x0.next HB6
  replace a_x := a_x.below (HB6.mono (by omega))
  replace HW := HW.trans (HB6.mono (by omega))
  clear hb6 HB6
  go_wp2_with fail
  go_region_held3 (fun w' => w'.cell? ⟨w4.heap.size, 0, none⟩ = some (.int .i64 z) ∧ w'.cell? ⟨w4.heap.size, 1, none⟩ = some (.slice (some ⟨g_x0, 0, none⟩) n n) ∧ w'.cell? ⟨w.heap.size, 0, none⟩ = some (.int .i64 z) ∧ w'.cell? ⟨w.heap.size, 1, none⟩ = some (.slice A n c)) (go_keep) (first
    | (go_at_call 24; refine (laws_toBlock _ _ _ _ _ _ (a_x.below' (by (repeat' (first | (with_reducible exact Below.refl _ _) | (with_reducible refine Below.setCell ?_ ?_ _) | (with_reducible refine Below.alloc ?_ ?_ _) | (with_reducible refine Below.drew ?_) | (with_reducible refine Below.drewN ?_ _) | (with_reducible refine Below.trans ?_ (Below.mono (by with_reducible assumption) ?_)) | go_size | (dsimp only; omega)))) (by go_size))).mono ?_; rintro e w7 ⟨g_q, rfl, f_q, hb7⟩; have hy7 := bsize hb7; (try simp at hy7); obtain ⟨bc7, bf7, bz7⟩ := bcell hb7 (b := w4.heap.size) (by go_size); obtain ⟨bc7, bf7, bz7⟩ := bcell hb7 (b := w.heap.size) (by go_size))
    | (go_at_call 26; refine (laws_eqBlock_self _ _ _ _ _ _ _ _ _ (f_x0.rd.below' (by (repeat' (first | (with_reducible exact Below.refl _ _) | (with_reducible refine Below.setCell ?_ ?_ _) | (with_reducible refine Below.alloc ?_ ?_ _) | (with_reducible refine Below.drew ?_) | (with_reducible refine Below.drewN ?_ _) | (with_reducible refine Below.trans ?_ (Below.mono (by with_reducible assumption) ?_)) | go_size | (dsimp only; omega)))) (by go_size)) (f_q.rd.below' (by (repeat' (first | (with_reducible exact Below.refl _ _) | (with_reducible refine Below.setCell ?_ ?_ _) | (with_reducible refine Below.alloc ?_ ?_ _) | (with_reducible refine Below.drew ?_) | (with_reducible refine Below.drewN ?_ _) | (with_reducible refine Below.trans ?_ (Below.mono (by with_reducible assumption) ?_)) | go_size | (dsimp only; omega)))) (by go_size))).mono ?_; rintro e w8 ⟨rfl, hb8⟩; have hy8 := bsize hb8; (try simp at hy8); obtain ⟨bc8, bf8, bz8⟩ := bcell hb8 (b := w4.heap.size) (by go_size); obtain ⟨bc8, bf8, bz8⟩ := bcell hb8 (b := w.heap.size) (by go_size)))
  go_wp2
  go_ret
  refine ⟨rfl, ?_⟩
  (repeat' (first | (with_reducible exact Below.refl _ _) | (with_reducible exact HW) | (with_reducible refine Below.setCell ?_ ?_ _) | (with_reducible refine Below.alloc ?_ ?_ _) | (with_reducible refine Below.drew ?_) | (with_reducible refine Below.drewN ?_ _) | (with_reducible refine Below.trans ?_ (Below.mono (by with_reducible assumption) ?_)) | go_size | (dsimp only; omega)))

set_option maxHeartbeats 400000 in
theorem walk_FnExactCellAt_big (z : Int) (A : Option Addr) (n c : Nat) (xs : List C) (x y : Int) (w : World) (hb : 1048576 < n) (hm : n ≤ 9223372036854775807) :
    Calls Try.prog 5 #[.agg #[.int .i64 z, .slice A n c], .int .i64 x, .int .i64 y] w fun e w' => e = .returned (.bool true) ∧ Below w.heap.size w w' := by
  have hsz := szB_big hb
  go_enter Try.func5, Try.ntmps5
  go_wp2_with (go_at_call 22; refine (laws_szBlock _ _ _ _ _ hm).mono ?_; rintro e w1 ⟨rfl, hb1⟩)
  go_ret
  refine ⟨rfl, ?_⟩
  (repeat' (first | (with_reducible exact Below.refl _ _) | (with_reducible refine Below.setCell ?_ ?_ _) | (with_reducible refine Below.alloc ?_ ?_ _) | (with_reducible refine Below.drew ?_) | (with_reducible refine Below.drewN ?_ _) | (with_reducible refine Below.trans ?_ (Below.mono (by with_reducible assumption) ?_)) | go_size | (dsimp only; omega)))

theorem walk_FnExactCellAt (z : Int) (A : Option Addr) (n c : Nat) (xs : List C) (x y : Int) (w : World) (hz : I64 z) (h : ArgC w A n xs) (hx : I64 x) (hy : I64 y) :
    Calls Try.prog 5 #[.agg #[.int .i64 z, .slice A n c], .int .i64 x, .int .i64 y] w fun e w' => e = .returned (.bool true) ∧ Below w.heap.size w w' := by
  by_cases hb : n ≤ 1048576
  · exact walk_FnExactCellAt_small z A n c xs x y w hz (h.2 (by omega)) hb hx hy
  · exact walk_FnExactCellAt_big z A n c xs x y w (by omega) (by have := h.1; unfold maxLen at this; omega)

set_option maxRecDepth 100000 in
set_option maxHeartbeats 1000000 in
theorem walk_FnExactSameBlock_small (z : Int) (A : Option Addr) (n c : Nat) (xs : List C) (z' : Int) (A' : Option Addr) (n' c' : Nat) (ys : List C) (w : World) (hz : I64 z) (h : RdC w w.heap.size A n xs) (hz' : I64 z') (h' : RdC w w.heap.size A' n' ys) (hn : n ≤ 1048576) (hn' : (n' : Int) ≤ 1048576 - n) :
    Calls Try.prog 3 #[.agg #[.int .i64 z, .slice A n c], .agg #[.int .i64 z', .slice A' n' c']] w fun e w' => e = .returned (.bool true) ∧ Below w.heap.size w w' := by
  have hsz1 := szL_small (L := 1048576) (n := n) (by omega)
  have hsz2 := szL_small (L := szL 1048576 n) (n := n') (by rw [hsz1]; exact hn')
  have hp1 : 0 ≤ szL 1048576 n := by rw [hsz1]; omega
  have hp2 : 0 ≤ szL (szL 1048576 n) n' := by rw [hsz2, hsz1]; omega
  have hp3 : szL 1048576 n ≤ 1048576 := by rw [hsz1]; omega
  clear hsz1 hsz2
  have a_x := h
  have a_y := h'
  have HW := Below.refl w.heap.size w
  have hs := lt2
  have hs3 := lt3
  go_enter Try.func3, Try.ntmps3
  go_wp2_with fail
  refine (laws_szBlockL _ _ _ _ _ _ (by omega) (by omega) (by omega)).mono ?_
  rintro e w1 ⟨rfl, hb1⟩
  have hy1 := bsize hb1
  try simp at hy1
  have HB1 : Below w.heap.size w w1 := by (repeat' (first | (with_reducible exact Below.refl _ _) | (with_reducible refine Below.setCell ?_ ?_ _) | (with_reducible refine Below.alloc ?_ ?_ _) | (with_reducible refine Below.drew ?_) | (with_reducible refine Below.drewN ?_ _) | (with_reducible refine Below.trans ?_ (Below.mono (by with_reducible assumption) ?_)) | go_size | (dsimp only; omega)))
  have hx1 := HB1.size
  obtain ⟨bc1, bf1, bz1⟩ := bcell hb1 (b := w.heap.size) (by go_size)
  have t0_0 : w1.cell? ⟨w.heap.size, 0, none⟩ = some (.int .i64 z) := (bc1 0).trans (by first | (rw [World.cell?_alloc_new]; done) | (rw [World.cell?_alloc_new]; rfl) | (simp [go_sem]; done) | (rw [World.cell?_alloc_lt _ _ _ (by go_size), World.cell?_alloc_new]; rfl))
  have t0_1 : w1.cell? ⟨w.heap.size, 1, none⟩ = some (.slice A n c) := (bc1 1).trans (by first | (rw [World.cell?_alloc_new]; done) | (rw [World.cell?_alloc_new]; rfl) | (simp [go_sem]; done) | (rw [World.cell?_alloc_lt _ _ _ (by go_size), World.cell?_alloc_new]; rfl))
  clear bc1 bf1
  obtain ⟨bc1, bf1, bz1⟩ := bcell hb1 (b := w.heap.size + 1) (by go_size)
  have t1_0 : w1.cell? ⟨w.heap.size + 1, 0, none⟩ = some (.int .i64 z') := (bc1 0).trans (by first | (rw [World.cell?_alloc_new]; done) | (rw [World.cell?_alloc_new]; rfl) | (simp [go_sem]; done) | (rw [World.cell?_alloc_lt _ _ _ (by go_size), World.cell?_alloc_new]; rfl))
  have t1_1 : w1.cell? ⟨w.heap.size + 1, 1, none⟩ = some (.slice A' n' c') := (bc1 1).trans (by first | (rw [World.cell?_alloc_new]; done) | (rw [World.cell?_alloc_new]; rfl) | (simp [go_sem]; done) | (rw [World.cell?_alloc_lt _ _ _ (by go_size), World.cell?_alloc_new]; rfl))
  clear bc1 bf1
  replace a_x := a_x.below (HB1.mono (by omega))
  replace a_y := a_y.below (HB1.mono (by omega))
  replace HW := HW.trans (HB1.mono (by omega))
  clear hb1 HB1
  go_wp2_with fail
  refine (laws_szBlockL _ _ _ _ _ _ (by omega) (by omega) (by omega)).mono ?_
  rintro e w2 ⟨rfl, hb2⟩
  have hy2 := bsize hb2
  try simp at hy2
  have HB2 : Below w1.heap.size w1 w2 := by (repeat' (first | (with_reducible exact Below.refl _ _) | (with_reducible refine Below.setCell ?_ ?_ _) | (with_reducible refine Below.alloc ?_ ?_ _) | (with_reducible refine Below.drew ?_) | (with_reducible refine Below.drewN ?_ _) | (with_reducible refine Below.trans ?_ (Below.mono (by with_reducible assumption) ?_)) | go_size | (dsimp only; omega)))
  have hx2 := HB2.size
  obtain ⟨bc2, bf2, bz2⟩ := bcell hb2 (b := w.heap.size) (by go_size)
  replace t0_0 : w2.cell? ⟨w.heap.size, 0, none⟩ = some (.int .i64 z) := (bc2 0).trans (by first | exact t0_0 | exact (World.cell?_alloc_lt _ _ _ (by go_size)).trans t0_0)
  replace t0_1 : w2.cell? ⟨w.heap.size, 1, none⟩ = some (.slice A n c) := (bc2 1).trans (by first | exact t0_1 | exact (World.cell?_alloc_lt _ _ _ (by go_size)).trans t0_1)
  clear bc2 bf2
  obtain ⟨bc2, bf2, bz2⟩ := bcell hb2 (b := w.heap.size + 1) (by go_size)
  replace t1_0 : w2.cell? ⟨w.heap.size + 1, 0, none⟩ = some (.int .i64 z') := (bc2 0).trans (by first | exact t1_0 | exact (World.cell?_alloc_lt _ _ _ (by go_size)).trans t1_0)
  replace t1_1 : w2.cell? ⟨w.heap.size + 1, 1, none⟩ = some (.slice A' n' c') := (bc2 1).trans (by first | exact t1_1 | exact (World.cell?_alloc_lt _ _ _ (by go_size)).trans t1_1)
  clear bc2 bf2
  replace a_x := a_x.below (HB2.mono (by omega))
  replace a_y := a_y.below (HB2.mono (by omega))
  replace HW := HW.trans (HB2.mono (by omega))
  clear hb2 HB2
  go_wp2_with fail
  go_region_held3 (fun w' => w'.cell? ⟨w.heap.size, 0, none⟩ = some (.int .i64 z) ∧ w'.cell? ⟨w.heap.size, 1, none⟩ = some (.slice A n c) ∧ w'.cell? ⟨w.heap.size + 1, 0, none⟩ = some (.int .i64 z') ∧ w'.cell? ⟨w.heap.size + 1, 1, none⟩ = some (.slice A' n' c')) (go_keep) (first
    | (go_at_call 24; (with_reducible refine (laws_toBlock z A n c xs _ ?_).mono ?_); exact (a_x.below' (by (repeat' (first | (with_reducible exact Below.refl _ _) | (with_reducible refine Below.setCell ?_ ?_ _) | (with_reducible refine Below.alloc ?_ ?_ _) | (with_reducible refine Below.drew ?_) | (with_reducible refine Below.drewN ?_ _) | (with_reducible refine Below.trans ?_ (Below.mono (by with_reducible assumption) ?_)) | go_size | (dsimp only; omega)))) (by go_size)); rintro e w3 ⟨g_p, rfl, f_p, hb3⟩; have hy3 := bsize hb3; (try simp at hy3); obtain ⟨bc3_0, bf3_0, bz3_0⟩ := bcell hb3 (b := w.heap.size) (by go_size); obtain ⟨bc3_1, bf3_1, bz3_1⟩ := bcell hb3 (b := w.heap.size + 1) (by go_size); have l_p := Lib.hid f_p.lt)
    | (go_at_call 24; (with_reducible refine (laws_toBlock z' A' n' c' ys _ ?_).mono ?_); exact (a_y.below' (by (repeat' (first | (with_reducible exact Below.refl _ _) | (with_reducible refine Below.setCell ?_ ?_ _) | (with_reducible refine Below.alloc ?_ ?_ _) | (with_reducible refine Below.drew ?_) | (with_reducible refine Below.drewN ?_ _) | (with_reducible refine Below.trans ?_ (Below.mono (by with_reducible assumption) ?_)) | go_size | (dsimp only; omega)))) (by go_size)); rintro e w4 ⟨g_q, rfl, f_q, hb4⟩; have hy4 := bsize hb4; (try simp at hy4); obtain ⟨bc4_0, bf4_0, bz4_0⟩ := bcell hb4 (b := w.heap.size) (by go_size); obtain ⟨bc4_1, bf4_1, bz4_1⟩ := bcell hb4 (b := w.heap.size + 1) (by go_size); have l_q := Lib.hid f_q.lt)
    | (go_at_call 23; (with_reducible refine (spec_SameBlock _ _ _ _ xs _ _ _ _ ys _ ?_ ?_).mono ?_); exact (f_p.rd.below' (by (repeat' (first | (with_reducible exact Below.refl _ _) | (with_reducible refine Below.setCell ?_ ?_ _) | (with_reducible refine Below.alloc ?_ ?_ _) | (with_reducible refine Below.drew ?_) | (with_reducible refine Below.drewN ?_ _) | (with_reducible refine Below.trans ?_ (Below.mono (by with_reducible assumption) ?_)) | go_size | (dsimp only; omega)))) (by go_size)); exact (f_q.rd.below' (by (repeat' (first | (with_reducible exact Below.refl _ _) | (with_reducible refine Below.setCell ?_ ?_ _) | (with_reducible refine Below.alloc ?_ ?_ _) | (with_reducible refine Below.drew ?_) | (with_reducible refine Below.drewN ?_ _) | (with_reducible refine Below.trans ?_ (Below.mono (by with_reducible assumption) ?_)) | go_size | (dsimp only; omega)))) (by go_size)); rintro e w5 ⟨rfl, hb5⟩; have hy5 := bsize hb5; (try simp at hy5); obtain ⟨bc5_0, bf5_0, bz5_0⟩ := bcell hb5 (b := w.heap.size) (by go_size); obtain ⟨bc5_1, bf5_1, bz5_1⟩ := bcell hb5 (b := w.heap.size + 1) (by go_size)))
  have HB5 : Below w2.heap.size w2 w5 := by (repeat' (first | (with_reducible exact Below.refl _ _) | (with_reducible refine Below.setCell ?_ ?_ _) | (with_reducible refine Below.alloc ?_ ?_ _) | (with_reducible refine Below.drew ?_) | (with_reducible refine Below.drewN ?_ _) | (with_reducible refine Below.trans ?_ (Below.mono (by with_reducible assumption) ?_)) | go_size | (dsimp only; omega)))
  have hx5 := HB5.size
  replace t0_0 : w5.cell? ⟨w.heap.size, 0, none⟩ = some (.int .i64 z) := (HB5.cell (p := ⟨w.heap.size, 0, none⟩) (by dsimp only; omega)).trans t0_0
  replace t0_1 : w5.cell? ⟨w.heap.size, 1, none⟩ = some (.slice A n c) := (HB5.cell (p := ⟨w.heap.size, 1, none⟩) (by dsimp only; omega)).trans t0_1
  replace t1_0 : w5.cell? ⟨w.heap.size + 1, 0, none⟩ = some (.int .i64 z') := (HB5.cell (p := ⟨w.heap.size + 1, 0, none⟩) (by dsimp only; omega)).trans t1_0
  replace t1_1 : w5.cell? ⟨w.heap.size + 1, 1, none⟩ = some (.slice A' n' c') := (HB5.cell (p := ⟨w.heap.size + 1, 1, none⟩) (by dsimp only; omega)).trans t1_1
  replace a_x := a_x.below (HB5.mono (by omega))
  replace a_y := a_y.below (HB5.mono (by omega))
  replace HW := HW.trans (HB5.mono (by omega))
  clear HB5
  clear hb3 hb4 hb5 bc3_0 bf3_0 bc3_1 bf3_1 bc4_0 bf4_0 bc4_1 bf4_1 bc5_0 bf5_0 bc5_1 bf5_1
  go_wp2_with fail
  refine (laws_toBlock _ _ _ _ _ _ (a_x.below' (by go_grown) (by go_size))).mono ?_
  rintro e w6 ⟨g_x0, rfl, f_x0, hb6⟩
  have l_x0 := Lib.hid f_x0.lt
  try simp only [World.size_alloc] at l_x0
  have hy6 := bsize hb6
  try simp at hy6
  have HB6 : Below w5.heap.size w5 w6 := by (repeat' (first | (with_reducible exact Below.refl _ _) | (with_reducible refine Below.setCell ?_ ?_ _) | (with_reducible refine Below.alloc ?_ ?_ _) | (with_reducible refine Below.drew ?_) | (with_reducible refine Below.drewN ?_ _) | (with_reducible refine Below.trans ?_ (Below.mono (by with_reducible assumption) ?_)) | go_size | (dsimp only; omega)))
  have hx6 := HB6.size
  obtain ⟨bc6, bf6, bz6⟩ := bcell hb6 (b := w.heap.size) (by go_size)
  replace t0_0 : w6.cell? ⟨w.heap.size, 0, none⟩ = some (.int .i64 z) := (bc6 0).trans (by first | exact t0_0 | exact (World.cell?_alloc_lt _ _ _ (by go_size)).trans t0_0)
  replace t0_1 : w6.cell? ⟨w.heap.size, 1, none⟩ = some (.slice A n c) := (bc6 1).trans (by first | exact t0_1 | exact (World.cell?_alloc_lt _ _ _ (by go_size)).trans t0_1)
  clear bc6 bf6
  obtain ⟨bc6, bf6, bz6⟩ := bcell hb6 (b := w.heap.size + 1) (by go_size)
  replace t1_0 : w6.cell? ⟨w.heap.size + 1, 0, none⟩ = some (.int .i64 z') := (bc6 0).trans (by first | exact t1_0 | exact (World.cell?_alloc_lt _ _ _ (by go_size)).trans t1_0)
  replace t1_1 : w6.cell? ⟨w.heap.size + 1, 1, none⟩ = some (.slice A' n' c') := (bc6 1).trans (by first | exact t1_1 | exact (World.cell?_alloc_lt _ _ _ (by go_size)).trans t1_1)
  clear bc6 bf6
  replace a_x := a_x.below (HB6.mono (by omega))
  replace a_y := a_y.below (HB6.mono (by omega))
  replace HW := HW.trans (HB6.mono (by omega))
  clear hb6 HB6
  have m_x0 : ∀ k, (Value.slice (some ⟨g_x0, 0, none⟩) n n).ownBlock = some k → w5.heap.size ≤ k ∧ k < w6.heap.size := fun k e => ⟨Nat.le_trans (by go_size) (f_x0.lt k e).1, (f_x0.lt k e).2⟩
  clear l_x0
  have l_x0 := Lib.hid m_x0
  clear m_x0
  go_wp2_with fail
  refine (laws_toBlock _ _ _ _ _ _ (a_y.below' (by go_grown) (by go_size))).mono ?_
  rintro e w7 ⟨g_x1, rfl, f_x1, hb7⟩
  have l_x1 := Lib.hid f_x1.lt
  try simp only [World.size_alloc] at l_x1
  have hy7 := bsize hb7
  try simp at hy7
  have HB7 : Below w6.heap.size w6 w7 := by (repeat' (first | (with_reducible exact Below.refl _ _) | (with_reducible refine Below.setCell ?_ ?_ _) | (with_reducible refine Below.alloc ?_ ?_ _) | (with_reducible refine Below.drew ?_) | (with_reducible refine Below.drewN ?_ _) | (with_reducible refine Below.trans ?_ (Below.mono (by with_reducible assumption) ?_)) | go_size | (dsimp only; omega)))
  have hx7 := HB7.size
  obtain ⟨bc7, bf7, bz7⟩ := bcell hb7 (b := w.heap.size) (by go_size)
  replace t0_0 : w7.cell? ⟨w.heap.size, 0, none⟩ = some (.int .i64 z) := (bc7 0).trans (by first | exact t0_0 | exact (World.cell?_alloc_lt _ _ _ (by go_size)).trans t0_0)
  replace t0_1 : w7.cell? ⟨w.heap.size, 1, none⟩ = some (.slice A n c) := (bc7 1).trans (by first | exact t0_1 | exact (World.cell?_alloc_lt _ _ _ (by go_size)).trans t0_1)
  clear bc7 bf7
  obtain ⟨bc7, bf7, bz7⟩ := bcell hb7 (b := w.heap.size + 1) (by go_size)
  replace t1_0 : w7.cell? ⟨w.heap.size + 1, 0, none⟩ = some (.int .i64 z') := (bc7 0).trans (by first | exact t1_0 | exact (World.cell?_alloc_lt _ _ _ (by go_size)).trans t1_0)
  replace t1_1 : w7.cell? ⟨w.heap.size + 1, 1, none⟩ = some (.slice A' n' c') := (bc7 1).trans (by first | exact t1_1 | exact (World.cell?_alloc_lt _ _ _ (by go_size)).trans t1_1)
  clear bc7 bf7
  obtain ⟨bc7, bf7, bz7⟩ := bcell hb7 (b := w6.heap.size) (by go_size)
  have t2_0 : w7.cell? ⟨w6.heap.size, 0, none⟩ = some (.int .i64 z) := (bc7 0).trans (by first | (rw [World.cell?_alloc_new]; done) | (rw [World.cell?_alloc_new]; rfl) | (simp [go_sem]; done) | (rw [World.cell?_alloc_lt _ _ _ (by go_size), World.cell?_alloc_new]; rfl))
  have t2_1 : w7.cell? ⟨w6.heap.size, 1, none⟩ = some (.slice (some ⟨g_x0, 0, none⟩) n n) := (bc7 1).trans (by first | (rw [World.cell?_alloc_new]; done) | (rw [World.cell?_alloc_new]; rfl) | (simp [go_sem]; done) | (rw [World.cell?_alloc_lt _ _ _ (by go_size), World.cell?_alloc_new]; rfl))
  clear bc7 bf7
  replace f_x0 := f_x0.next HB7
  replace a_x := a_x.below (HB7.mono (by omega))
  replace a_y := a_y.below (HB7.mono (by omega))
  replace HW := HW.trans (HB7.mono (by omega))
  clear hb7 HB7
  have m_x1 : ∀ k, (Value.slice (some ⟨g_x1, 0, none⟩) n n).ownBlock = some k → w6.heap.size ≤ k ∧ k < w7.heap.size := fun k e => ⟨Nat.le_trans (by go_size) (f_x1.lt k e).1, (f_x1.lt k e).2⟩
  clear l_x1
  have l_x1 := Lib.hid m_x1
  clear m_x1
  go_wp2_with fail
  refine (impl_SameBlock _ _ _ _ _ _ _ _ _ _ _ (f_x0.rd.below' (by go_grown) (by go_size)) (f_x1.rd.below' (by go_grown) (by go_size))).mono ?_
  rintro e w8 ⟨rfl, hb8⟩
  have hy8 := bsize hb8
  try simp at hy8
  have HB8 : Below w7.heap.size w7 w8 := by (repeat' (first | (with_reducible exact Below.refl _ _) | (with_reducible refine Below.setCell ?_ ?_ _) | (with_reducible refine Below.alloc ?_ ?_ _) | (with_reducible refine Below.drew ?_) | (with_reducible refine Below.drewN ?_ _) | (with_reducible refine Below.trans ?_ (Below.mono (by with_reducible assumption) ?_)) | go_size | (dsimp only; omega)))
  have hx8 := HB8.size
  obtain ⟨bc8, bf8, bz8⟩ := bcell hb8 (b := w.heap.size) (by go_size)
  replace t0_0 : w8.cell? ⟨w.heap.size, 0, none⟩ = some (.int .i64 z) := (bc8 0).trans (by first | exact t0_0 | exact (World.cell?_alloc_lt _ _ _ (by go_size)).trans t0_0)
  replace t0_1 : w8.cell? ⟨w.heap.size, 1, none⟩ = some (.slice A n c) := (bc8 1).trans (by first | exact t0_1 | exact (World.cell?_alloc_lt _ _ _ (by go_size)).trans t0_1)
  clear bc8 bf8
  obtain ⟨bc8, bf8, bz8⟩ := bcell hb8 (b := w.heap.size + 1) (by go_size)
  replace t1_0 : w8.cell? ⟨w.heap.size + 1, 0, none⟩ = some (.int .i64 z') := (bc8 0).trans (by first | exact t1_0 | exact (World.cell?_alloc_lt _ _ _ (by go_size)).trans t1_0)
  replace t1_1 : w8.cell? ⟨w.heap.size + 1, 1, none⟩ = some (.slice A' n' c') := (bc8 1).trans (by first | exact t1_1 | exact (World.cell?_alloc_lt _ _ _ (by go_size)).trans t1_1)
  clear bc8 bf8
  obtain ⟨bc8, bf8, bz8⟩ := bcell hb8 (b := w6.heap.size) (by go_size)
  replace t2_0 : w8.cell? ⟨w6.heap.size, 0, none⟩ = some (.int .i64 z) := (bc8 0).trans (by first | exact t2_0 | exact (World.cell?_alloc_lt _ _ _ (by go_size)).trans t2_0)
  replace t2_1 : w8.cell? ⟨w6.heap.size, 1, none⟩ = some (.slice (some ⟨g_x0, 0, none⟩) n n) := (bc8 1).trans (by first | exact t2_1 | exact (World.cell?_alloc_lt _ _ _ (by go_size)).trans t2_1)
  clear bc8 bf8
  obtain ⟨bc8, bf8, bz8⟩ := bcell hb8 (b := w7.heap.size) (by go_size)
  have t3_0 : w8.cell? ⟨w7.heap.size, 0, none⟩ = some (.int .i64 z') := (bc8 0).trans (by first | (rw [World.cell?_alloc_new]; done) | (rw [World.cell?_alloc_new]; rfl) | (simp [go_sem]; done) | (rw [World.cell?_alloc_lt _ _ _ (by go_size), World.cell?_alloc_new]; rfl))
  have t3_1 : w8.cell? ⟨w7.heap.size, 1, none⟩ = some (.slice (some ⟨g_x1, 0, none⟩) n' n') := (bc8 1).trans (by first | (rw [World.cell?_alloc_new]; done) | (rw [World.cell?_alloc_new]; rfl) | (simp [go_sem]; done) | (rw [World.cell?_alloc_lt _ _ _ (by go_size), World.cell?_alloc_new]; rfl))
  clear bc8 bf8
  replace f_x0 := f_x0.next HB8
  replace f_x1 := f_x1.next HB8
  replace a_x := a_x.below (HB8.mono (by omega))
  replace a_y := a_y.below (HB8.mono (by omega))
  replace HW := HW.trans (HB8.mono (by omega))
  clear hb8 HB8
  go_wp2_with fail
  go_region_held3 (fun w' => w'.cell? ⟨w6.heap.size, 0, none⟩ = some (.int .i64 z) ∧ w'.cell? ⟨w6.heap.size, 1, none⟩ = some (.slice (some ⟨g_x0, 0, none⟩) n n) ∧ w'.cell? ⟨w.heap.size, 0, none⟩ = some (.int .i64 z) ∧ w'.cell? ⟨w.heap.size, 1, none⟩ = some (.slice A n c)) (go_keep) (first
    | (go_at_call 24; (with_reducible refine (laws_toBlock z A n c xs _ ?_).mono ?_); exact (a_x.below' (by (repeat' (first | (with_reducible exact Below.refl _ _) | (with_reducible refine Below.setCell ?_ ?_ _) | (with_reducible refine Below.alloc ?_ ?_ _) | (with_reducible refine Below.drew ?_) | (with_reducible refine Below.drewN ?_ _) | (with_reducible refine Below.trans ?_ (Below.mono (by with_reducible assumption) ?_)) | go_size | (dsimp only; omega)))) (by go_size)); rintro e w9 ⟨g_u, rfl, f_u, hb9⟩; have hy9 := bsize hb9; (try simp at hy9); obtain ⟨bc9_0, bf9_0, bz9_0⟩ := bcell hb9 (b := w6.heap.size) (by go_size); obtain ⟨bc9_1, bf9_1, bz9_1⟩ := bcell hb9 (b := w.heap.size) (by go_size); have l_u := Lib.hid f_u.lt)
    | (go_at_call 26; (with_reducible refine (laws_eqBlock_self _ _ _ _ _ _ _ xs _ ?_ ?_).mono ?_); exact (f_x0.rd.below' (by (repeat' (first | (with_reducible exact Below.refl _ _) | (with_reducible refine Below.setCell ?_ ?_ _) | (with_reducible refine Below.alloc ?_ ?_ _) | (with_reducible refine Below.drew ?_) | (with_reducible refine Below.drewN ?_ _) | (with_reducible refine Below.trans ?_ (Below.mono (by with_reducible assumption) ?_)) | go_size | (dsimp only; omega)))) (by go_size)); exact (f_u.rd.below' (by (repeat' (first | (with_reducible exact Below.refl _ _) | (with_reducible refine Below.setCell ?_ ?_ _) | (with_reducible refine Below.alloc ?_ ?_ _) | (with_reducible refine Below.drew ?_) | (with_reducible refine Below.drewN ?_ _) | (with_reducible refine Below.trans ?_ (Below.mono (by with_reducible assumption) ?_)) | go_size | (dsimp only; omega)))) (by go_size)); rintro e w10 ⟨rfl, hb10⟩; have hy10 := bsize hb10; (try simp at hy10); obtain ⟨bc10_0, bf10_0, bz10_0⟩ := bcell hb10 (b := w6.heap.size) (by go_size); obtain ⟨bc10_1, bf10_1, bz10_1⟩ := bcell hb10 (b := w.heap.size) (by go_size)))
  have HB10 : Below w8.heap.size w8 w10 := by (repeat' (first | (with_reducible exact Below.refl _ _) | (with_reducible refine Below.setCell ?_ ?_ _) | (with_reducible refine Below.alloc ?_ ?_ _) | (with_reducible refine Below.drew ?_) | (with_reducible refine Below.drewN ?_ _) | (with_reducible refine Below.trans ?_ (Below.mono (by with_reducible assumption) ?_)) | go_size | (dsimp only; omega)))
  have hx10 := HB10.size
  replace t0_0 : w10.cell? ⟨w.heap.size, 0, none⟩ = some (.int .i64 z) := (HB10.cell (p := ⟨w.heap.size, 0, none⟩) (by dsimp only; omega)).trans t0_0
  replace t0_1 : w10.cell? ⟨w.heap.size, 1, none⟩ = some (.slice A n c) := (HB10.cell (p := ⟨w.heap.size, 1, none⟩) (by dsimp only; omega)).trans t0_1
  replace t1_0 : w10.cell? ⟨w.heap.size + 1, 0, none⟩ = some (.int .i64 z') := (HB10.cell (p := ⟨w.heap.size + 1, 0, none⟩) (by dsimp only; omega)).trans t1_0
  replace t1_1 : w10.cell? ⟨w.heap.size + 1, 1, none⟩ = some (.slice A' n' c') := (HB10.cell (p := ⟨w.heap.size + 1, 1, none⟩) (by dsimp only; omega)).trans t1_1
  replace t2_0 : w10.cell? ⟨w6.heap.size, 0, none⟩ = some (.int .i64 z) := (HB10.cell (p := ⟨w6.heap.size, 0, none⟩) (by dsimp only; omega)).trans t2_0
  replace t2_1 : w10.cell? ⟨w6.heap.size, 1, none⟩ = some (.slice (some ⟨g_x0, 0, none⟩) n n) := (HB10.cell (p := ⟨w6.heap.size, 1, none⟩) (by dsimp only; omega)).trans t2_1
  replace t3_0 : w10.cell? ⟨w7.heap.size, 0, none⟩ = some (.int .i64 z') := (HB10.cell (p := ⟨w7.heap.size, 0, none⟩) (by dsimp only; omega)).trans t3_0
  replace t3_1 : w10.cell? ⟨w7.heap.size, 1, none⟩ = some (.slice (some ⟨g_x1, 0, none⟩) n' n') := (HB10.cell (p := ⟨w7.heap.size, 1, none⟩) (by dsimp only; omega)).trans t3_1
  replace f_x0 := f_x0.next HB10
  replace f_x1 := f_x1.next HB10
  replace a_x := a_x.below (HB10.mono (by omega))
  replace a_y := a_y.below (HB10.mono (by omega))
  replace HW := HW.trans (HB10.mono (by omega))
  clear HB10
  clear hb9 hb10 bc9_0 bf9_0 bc9_1 bf9_1 bc10_0 bf10_0 bc10_1 bf10_1
  go_wp2_with fail
  go_region_held3 (fun w' => w'.cell? ⟨w7.heap.size, 0, none⟩ = some (.int .i64 z') ∧ w'.cell? ⟨w7.heap.size, 1, none⟩ = some (.slice (some ⟨g_x1, 0, none⟩) n' n') ∧ w'.cell? ⟨w.heap.size + 1, 0, none⟩ = some (.int .i64 z') ∧ w'.cell? ⟨w.heap.size + 1, 1, none⟩ = some (.slice A' n' c')) (go_keep) (first
    | (go_at_call 24; (with_reducible refine (laws_toBlock z' A' n' c' ys _ ?_).mono ?_); exact (a_y.below' (by (repeat' (first | (with_reducible exact Below.refl _ _) | (with_reducible refine Below.setCell ?_ ?_ _) | (with_reducible refine Below.alloc ?_ ?_ _) | (with_reducible refine Below.drew ?_) | (with_reducible refine Below.drewN ?_ _) | (with_reducible refine Below.trans ?_ (Below.mono (by with_reducible assumption) ?_)) | go_size | (dsimp only; omega)))) (by go_size)); rintro e w11 ⟨g_v, rfl, f_v, hb11⟩; have hy11 := bsize hb11; (try simp at hy11); obtain ⟨bc11_0, bf11_0, bz11_0⟩ := bcell hb11 (b := w7.heap.size) (by go_size); obtain ⟨bc11_1, bf11_1, bz11_1⟩ := bcell hb11 (b := w.heap.size + 1) (by go_size); have l_v := Lib.hid f_v.lt)
    | (go_at_call 26; (with_reducible refine (laws_eqBlock_self _ _ _ _ _ _ _ ys _ ?_ ?_).mono ?_); exact (f_x1.rd.below' (by (repeat' (first | (with_reducible exact Below.refl _ _) | (with_reducible refine Below.setCell ?_ ?_ _) | (with_reducible refine Below.alloc ?_ ?_ _) | (with_reducible refine Below.drew ?_) | (with_reducible refine Below.drewN ?_ _) | (with_reducible refine Below.trans ?_ (Below.mono (by with_reducible assumption) ?_)) | go_size | (dsimp only; omega)))) (by go_size)); exact (f_v.rd.below' (by (repeat' (first | (with_reducible exact Below.refl _ _) | (with_reducible refine Below.setCell ?_ ?_ _) | (with_reducible refine Below.alloc ?_ ?_ _) | (with_reducible refine Below.drew ?_) | (with_reducible refine Below.drewN ?_ _) | (with_reducible refine Below.trans ?_ (Below.mono (by with_reducible assumption) ?_)) | go_size | (dsimp only; omega)))) (by go_size)); rintro e w12 ⟨rfl, hb12⟩; have hy12 := bsize hb12; (try simp at hy12); obtain ⟨bc12_0, bf12_0, bz12_0⟩ := bcell hb12 (b := w7.heap.size) (by go_size); obtain ⟨bc12_1, bf12_1, bz12_1⟩ := bcell hb12 (b := w.heap.size + 1) (by go_size)))
  have HB12 : Below w10.heap.size w10 w12 := by (repeat' (first | (with_reducible exact Below.refl _ _) | (with_reducible refine Below.setCell ?_ ?_ _) | (with_reducible refine Below.alloc ?_ ?_ _) | (with_reducible refine Below.drew ?_) | (with_reducible refine Below.drewN ?_ _) | (with_reducible refine Below.trans ?_ (Below.mono (by with_reducible assumption) ?_)) | go_size | (dsimp only; omega)))
  have hx12 := HB12.size
  replace t0_0 : w12.cell? ⟨w.heap.size, 0, none⟩ = some (.int .i64 z) := (HB12.cell (p := ⟨w.heap.size, 0, none⟩) (by dsimp only; omega)).trans t0_0
  replace t0_1 : w12.cell? ⟨w.heap.size, 1, none⟩ = some (.slice A n c) := (HB12.cell (p := ⟨w.heap.size, 1, none⟩) (by dsimp only; omega)).trans t0_1
  replace t1_0 : w12.cell? ⟨w.heap.size + 1, 0, none⟩ = some (.int .i64 z') := (HB12.cell (p := ⟨w.heap.size + 1, 0, none⟩) (by dsimp only; omega)).trans t1_0
  replace t1_1 : w12.cell? ⟨w.heap.size + 1, 1, none⟩ = some (.slice A' n' c') := (HB12.cell (p := ⟨w.heap.size + 1, 1, none⟩) (by dsimp only; omega)).trans t1_1
  replace t2_0 : w12.cell? ⟨w6.heap.size, 0, none⟩ = some (.int .i64 z) := (HB12.cell (p := ⟨w6.heap.size, 0, none⟩) (by dsimp only; omega)).trans t2_0
  replace t2_1 : w12.cell? ⟨w6.heap.size, 1, none⟩ = some (.slice (some ⟨g_x0, 0, none⟩) n n) := (HB12.cell (p := ⟨w6.heap.size, 1, none⟩) (by dsimp only; omega)).trans t2_1
  replace t3_0 : w12.cell? ⟨w7.heap.size, 0, none⟩ = some (.int .i64 z') := (HB12.cell (p := ⟨w7.heap.size, 0, none⟩) (by dsimp only; omega)).trans t3_0
  replace t3_1 : w12.cell? ⟨w7.heap.size, 1, none⟩ = some (.slice (some ⟨g_x1, 0, none⟩) n' n') := (HB12.cell (p := ⟨w7.heap.size, 1, none⟩) (by dsimp only; omega)).trans t3_1
  replace f_x0 := f_x0.next HB12
  replace f_x1 := f_x1.next HB12
  replace a_x := a_x.below (HB12.mono (by omega))
  replace a_y := a_y.below (HB12.mono (by omega))
  replace HW := HW.trans (HB12.mono (by omega))
  clear HB12
  clear hb11 hb12 bc11_0 bf11_0 bc11_1 bf11_1 bc12_0 bf12_0 bc12_1 bf12_1
  go_wp2
  go_ret
  refine ⟨rfl, ?_⟩
  (repeat' (first | (with_reducible exact Below.refl _ _) | (with_reducible exact HW) | (with_reducible refine Below.setCell ?_ ?_ _) | (with_reducible refine Below.alloc ?_ ?_ _) | (with_reducible refine Below.drew ?_) | (with_reducible refine Below.drewN ?_ _) | (with_reducible refine Below.trans ?_ (Below.mono (by with_reducible assumption) ?_)) | go_size | (dsimp only; omega)))

set_option maxHeartbeats 400000 in
theorem walk_FnExactSameBlock_big1 (z : Int) (A : Option Addr) (n c : Nat) (xs : List C) (z' : Int) (A' : Option Addr) (n' c' : Nat) (ys : List C) (w : World) (hb : 1048576 < n) (hm : n ≤ 9223372036854775807) :
    Calls Try.prog 3 #[.agg #[.int .i64 z, .slice A n c], .agg #[.int .i64 z', .slice A' n' c']] w fun e w' => e = .returned (.bool true) ∧ Below w.heap.size w w' := by
  have hs := lt2
  have hsz : szL 1048576 n < 0 := by rw [szL_big (by omega)]; omega
  go_enter Try.func3, Try.ntmps3
  go_wp2_with (go_at_call 22; refine (laws_szBlockL _ _ _ _ _ _ hm (by omega) (by omega)).mono ?_; rintro e w1 ⟨rfl, hb1⟩)
  go_ret
  refine ⟨rfl, ?_⟩
  (repeat' (first | (with_reducible exact Below.refl _ _) | (with_reducible refine Below.setCell ?_ ?_ _) | (with_reducible refine Below.alloc ?_ ?_ _) | (with_reducible refine Below.drew ?_) | (with_reducible refine Below.drewN ?_ _) | (with_reducible refine Below.trans ?_ (Below.mono (by with_reducible assumption) ?_)) | go_size | (dsimp only; omega)))

set_option maxHeartbeats 400000 in
theorem walk_FnExactSameBlock_big2 (z : Int) (A : Option Addr) (n c : Nat) (xs : List C) (z' : Int) (A' : Option Addr) (n' c' : Nat) (ys : List C) (w : World) (hn : n ≤ 1048576) (hb : 1048576 - (n : Int) < n') (hm : n' ≤ 9223372036854775807) :
    Calls Try.prog 3 #[.agg #[.int .i64 z, .slice A n c], .agg #[.int .i64 z', .slice A' n' c']] w fun e w' => e = .returned (.bool true) ∧ Below w.heap.size w w' := by
  have hs := lt2
  have e1 := szL_small (L := 1048576) (n := n) (by omega)
  have hp1 : 0 ≤ szL 1048576 n := by rw [e1]; omega
  have hp3 : szL 1048576 n ≤ 1048576 := by rw [e1]; omega
  have hp2 : szL (szL 1048576 n) n' < 0 := by rw [szL_big (by rw [e1]; exact hb)]; omega
  clear e1
  go_enter Try.func3, Try.ntmps3
  go_wp2_with fail
  refine (laws_szBlockL _ _ _ _ _ _ (by omega) (by omega) (by omega)).mono ?_
  rintro e w1 ⟨rfl, hb1⟩
  obtain ⟨bc1, bf1, bz1⟩ := bcell hb1 (b := w.heap.size + 1) (by go_size)
  go_wp2_with fail
  refine (laws_szBlockL _ _ _ _ _ _ hm (by omega) (by omega)).mono ?_
  rintro e w2 ⟨rfl, hb2⟩
  have hy1 := bsize hb1
  simp at hy1
  go_wp2
  go_ret
  refine ⟨rfl, ?_⟩
  (repeat' (first | (with_reducible exact Below.refl _ _) | (with_reducible refine Below.setCell ?_ ?_ _) | (with_reducible refine Below.alloc ?_ ?_ _) | (with_reducible refine Below.drew ?_) | (with_reducible refine Below.drewN ?_ _) | (with_reducible refine Below.trans ?_ (Below.mono (by with_reducible assumption) ?_)) | go_size | (dsimp only; omega)))

theorem walk_FnExactSameBlock (z : Int) (A : Option Addr) (n c : Nat) (xs : List C) (z' : Int) (A' : Option Addr) (n' c' : Nat) (ys : List C) (w : World) (hz : I64 z) (h : ArgC w A n xs) (hz' : I64 z') (h' : ArgC w A' n' ys) :
    Calls Try.prog 3 #[.agg #[.int .i64 z, .slice A n c], .agg #[.int .i64 z', .slice A' n' c']] w fun e w' => e = .returned (.bool true) ∧ Below w.heap.size w w' := by
  by_cases hb : n ≤ 1048576
  · by_cases hb' : (n' : Int) ≤ 1048576 - n
    · exact walk_FnExactSameBlock_small z A n c xs z' A' n' c' ys w hz (h.2 (by omega)) hz' (h'.2 (by omega)) hb hb'
    · exact walk_FnExactSameBlock_big2 z A n c xs z' A' n' c' ys w hb (by omega) (by have := h'.1; unfold maxLen at this; omega)
  · exact walk_FnExactSameBlock_big1 z A n c xs z' A' n' c' ys w (by omega) (by have := h.1; unfold maxLen at this; omega)

end Go.Proofs.Ytjjdkbkmjjfnoaa
