/- TextOf, both sides; the law FnExactTextOf returns true where the library's table of powers reads as its text lays it. -/
import Derived.Test.YteoddpdjhkbaiaaDoorYc
import Derived.Test.YteoddpdjhkbaiaaDoorB2
import Derived.Test.YteoddpdjhkbaiaaDoorW6
import Derived.Test.YteoddpdjhkbaiaaDoorR1
set_option linter.unusedSimpArgs false
set_option linter.unusedVariables false
set_option maxRecDepth 100000
namespace Go.Proofs.YteoddpdjhkbaiaaDoor
open Go.RowKit

theorem ctx_size (s a b : Int) : (ctx s a b).size ≤ 3 := by
  cases h : cOk s a b with
  | false => rw [ctx_f h]; decide
  | true =>
    obtain ⟨s0, s1, a0, a1, b0, b1, _⟩ := cOk_t h
    rcases (show s = 0 ∨ s = 1 ∨ s = 2 by omega) with rfl | rfl | rfl
    · rw [ctx_0 h, itoa_one a0 a1]; omega
    · rw [ctx_1 h, app_size, app_size, itoa_one a0 a1, itoa_one b0 b1]; exact Nat.le_refl _
    · rw [ctx_2 h, app_size, app_size, itoa_one a0 a1, itoa_one b0 b1]; exact Nat.le_refl _
def ttx (xs : List C) : Nat → ByteArray
  | 0 => ByteArray.empty
  | k + 1 => ttx xs k ++ ctx (cith xs k).s (cith xs k).a (cith xs k).b ++ ⟨#[59]⟩
theorem ttx_size (xs : List C) (k : Nat) : (ttx xs k).size ≤ 4 * k := by
  induction k with
  | zero => show ByteArray.empty.size ≤ _; decide
  | succ k ih =>
    rw [ttx, app_size, app_size]
    have := ctx_size (cith xs k).s (cith xs k).a (cith xs k).b
    have h1 : (⟨#[59]⟩ : ByteArray).size = 1 := rfl
    omega
def ttB (z : Int) (xs : List C) : ByteArray := if bOk z xs = true then ttx xs xs.length else ByteArray.empty
theorem ttB_t {z : Int} {xs : List C} (h : bOk z xs = true) : ttB z xs = ttx xs xs.length := if_pos h
theorem ttB_f {z : Int} {xs : List C} (h : bOk z xs = false) : ttB z xs = ByteArray.empty := if_neg (by rw [h]; simp)
theorem app_assoc3 (a b c : ByteArray) : a ++ (b ++ c) = a ++ b ++ c := by
  apply ByteArray.ext; simp

set_option maxHeartbeats 1000000 in
theorem spec_TextOf_no (z : Int) (A : Option Addr) (n c : Nat) (xs : List C) (w : World) (h : RdC w w.heap.size A n xs) (hbk : bOk z xs = false) :
    Calls Tryd.prog 28 #[.agg #[.int .i64 z, .slice A n c]] w fun e w' => e = .returned (.string (ttB z xs)) ∧ Below w.heap.size w w' := by
  have hs := lt2
  have H := Lib.hid h
  have hle := h.le
  clear h
  have HE := Lib.hid (ttB_f hbk)
  by_cases hn : 0 < n
  · go_enter Tryd.func28, Tryd.ntmps28
    go_wp2
    refine wp_loop_rounds 1 ?_
    rw [rounds_succ]
    go_wp2_with (go_at_call 52; (with_reducible refine (spec_BlockOk _ _ _ _ _ _ (H.out.below' (by (repeat' (first | (with_reducible exact Below.refl _ _) | (with_reducible refine Below.setCell ?_ ?_ _) | (with_reducible refine Below.alloc ?_ ?_ _) | (with_reducible refine Below.drew ?_) | (with_reducible refine Below.drewN ?_ _) | (with_reducible refine Below.trans ?_ (Below.mono (by with_reducible assumption) ?_)) | go_size | (dsimp only; omega)))) (by go_size))).mono ?_); rintro e w2 ⟨rfl, hb2⟩)
    go_ret
    exact ⟨by rw [HE.out]; rfl, by (repeat' (first | (with_reducible exact Below.refl _ _) | (with_reducible refine Below.setCell ?_ ?_ _) | (with_reducible refine Below.alloc ?_ ?_ _) | (with_reducible refine Below.drew ?_) | (with_reducible refine Below.drewN ?_ _) | (with_reducible refine Below.trans ?_ (Below.mono (by with_reducible assumption) ?_)) | go_size | (dsimp only; omega)))⟩
  · go_enter Tryd.func28, Tryd.ntmps28
    go_wp2
    refine wp_loop_rounds 1 ?_
    rw [rounds_succ]
    go_wp2
    go_ret
    exact ⟨by rw [HE.out]; rfl, by (repeat' (first | (with_reducible exact Below.refl _ _) | (with_reducible refine Below.setCell ?_ ?_ _) | (with_reducible refine Below.alloc ?_ ?_ _) | (with_reducible refine Below.drew ?_) | (with_reducible refine Below.drewN ?_ _) | (with_reducible refine Below.trans ?_ (Below.mono (by with_reducible assumption) ?_)) | go_size | (dsimp only; omega)))⟩

set_option maxRecDepth 100000 in
set_option maxHeartbeats 1000000 in
theorem spec_TextOf_yes (z : Int) (A : Option Addr) (n c : Nat) (xs : List C) (w : World) (h : RdC w w.heap.size A n xs) (hbk : bOk z xs = true) :
    Calls Tryd.prog 28 #[.agg #[.int .i64 z, .slice A n c]] w fun e w' => e = .returned (.string (ttB z xs)) ∧ Below w.heap.size w w' := by
  have hs := lt2
  have HE := Lib.hid (ttB_t hbk)
  have hle := h.le
  have HL := Lib.hid h.1
  have hn16 := bOk_len hbk h.1
  have HBK := Lib.hid hbk
  have H := Lib.hid h
  clear h hbk
  go_enter Tryd.func28, Tryd.ntmps28
  go_wp2
  go_loopw [3, 4] (fun v i wr => ∃ (k : Nat), k ≤ n ∧ i = .int .i64 k ∧ v = .string (ttx xs k) ∧ Hid (Below (w.heap.size + 1) (w.alloc (.cells #[.int .i64 z, .slice A n c] 50)) wr)) (fun _ i _ => n - (intOf i).toNat)
  case atStart => exact ⟨0, by omega, rfl, rfl, Below.refl _ _⟩
  case round =>
    obtain ⟨k, hk, rfl, rfl, hb⟩ := hrel
    have hy := hb.out.size
    simp only [World.size_alloc] at hy
    have p0 := box_cell (by omega) hb.out 0
    have p1 := box_cell (by omega) hb.out 1
    have HW := Lib.hid (show Below w.heap.size w wr from ((Below.refl w.heap.size w).alloc (Nat.le_refl _) (.cells #[.int .i64 z, .slice A n c] 50)).trans (hb.out.mono (by omega)))
    by_cases hlt : k < n
    · go_wp2_with fail
      refine (spec_BlockOk _ _ _ _ _ _ (H.out.below' HW.out (by omega))).mono ?_
      rintro e w2 ⟨rfl, hb2⟩
      rw [HBK.out]
      have HB2 := Lib.hid (hb.out.trans (hb2.mono hy))
      have HW2 := Lib.hid (HW.out.trans (hb2.mono (by omega)))
      have hy2 := hb2.size
      clear hb2 p0 p1
      have p1 := box_cell (by omega) HB2.out 1
      obtain ⟨g, off, rfl, hc0, hc1, hc2⟩ := (H.out.below HW2.out).at_ hlt
      have i0 : (0 : Int) ≤ (k : Int) := by omega
      have i1 : (k : Int) < (n : Int) := by omega
      go_wp2_with fail
      refine (spec_CellText _ _ _ _).mono ?_
      rintro e w3 ⟨rfl, hb3⟩
      have HB3 := Lib.hid (HB2.out.trans (hb3.mono (by omega)))
      clear hb3
      have zt := ttx_size xs k
      have zc := ctx_size (cith xs k).s (cith xs k).a (cith xs k).b
      have HT := Lib.hid (show ttx xs k ++ ctx (cith xs k).s (cith xs k).a (cith xs k).b ++ ⟨#[59]⟩ = ttx xs (k + 1) from rfl)
      obtain ⟨t, ht⟩ : ∃ t, t = ttx xs k := ⟨_, rfl⟩
      obtain ⟨u, hu⟩ : ∃ u, u = ctx (cith xs k).s (cith xs k).a (cith xs k).b := ⟨_, rfl⟩
      rw [← ht] at zt
      rw [← hu] at zc
      simp only [← ht, ← hu]
      have HT1 := Lib.hid ht
      have HU1 := Lib.hid hu
      clear ht hu
      go_wp2
      go_roundw
      case rel => exact ⟨k + 1, by omega, by go_num, by rw [← HT.out, HT1.out, HU1.out], HB3.out⟩
      case measure => simp [intOf]; omega
    · obtain rfl : k = n := by omega
      go_wp2
      go_ret
      exact ⟨by rw [HE.out, HL.out]; rfl, HW.out⟩
theorem spec_TextOf (z : Int) (A : Option Addr) (n c : Nat) (xs : List C) (w : World) (h : RdC w w.heap.size A n xs) :
    Calls Tryd.prog 28 #[.agg #[.int .i64 z, .slice A n c]] w fun e w' => e = .returned (.string (ttB z xs)) ∧ Below w.heap.size w w' := by
  cases hp : bOk z xs with
  | true => exact spec_TextOf_yes z A n c xs w h hp
  | false => exact spec_TextOf_no z A n c xs w h hp

set_option maxHeartbeats 1000000 in
theorem impl_TextOf_no (z : Int) (A : Option Addr) (n c : Nat) (xs : List C) (w : World) (h : RdC w w.heap.size A n xs) (hbk : bOk z xs = false) :
    Calls Tryd.prog 30 #[.agg #[.int .i64 z, .slice A n c]] w fun e w' => e = .returned (.string (ttB z xs)) ∧ Below w.heap.size w w' := by
  have hs := lt2
  have H := Lib.hid h
  clear h
  have HE := Lib.hid (ttB_f hbk)
  go_enter Tryd.func30, Tryd.ntmps30
  go_wp2_with (go_at_call 54; (with_reducible refine (impl_BlockOk _ _ _ _ _ _ (H.out.below' (by (repeat' (first | (with_reducible exact Below.refl _ _) | (with_reducible refine Below.setCell ?_ ?_ _) | (with_reducible refine Below.alloc ?_ ?_ _) | (with_reducible refine Below.drew ?_) | (with_reducible refine Below.drewN ?_ _) | (with_reducible refine Below.trans ?_ (Below.mono (by with_reducible assumption) ?_)) | go_size | (dsimp only; omega)))) (by go_size))).mono ?_); rintro e w2 ⟨rfl, hb2⟩)
  go_ret
  exact ⟨by rw [HE.out]; rfl, by (repeat' (first | (with_reducible exact Below.refl _ _) | (with_reducible refine Below.setCell ?_ ?_ _) | (with_reducible refine Below.alloc ?_ ?_ _) | (with_reducible refine Below.drew ?_) | (with_reducible refine Below.drewN ?_ _) | (with_reducible refine Below.trans ?_ (Below.mono (by with_reducible assumption) ?_)) | go_size | (dsimp only; omega)))⟩

set_option maxRecDepth 100000 in
set_option maxHeartbeats 1000000 in
theorem impl_TextOf_yes (z : Int) (A : Option Addr) (n c : Nat) (xs : List C) (w : World) (h : RdC w w.heap.size A n xs) (hbk : bOk z xs = true) (ht : Hid (Pow w)) :
    Calls Tryd.prog 30 #[.agg #[.int .i64 z, .slice A n c]] w fun e w' => e = .returned (.string (ttB z xs)) ∧ Below w.heap.size w w' := by
  have hs := lt2
  have HE := Lib.hid (ttB_t hbk)
  have hle := h.le
  have HL := Lib.hid h.1
  have hn16 := bOk_len hbk h.1
  have HBK := Lib.hid hbk
  have H := Lib.hid h
  clear h hbk
  go_enter Tryd.func30, Tryd.ntmps30
  go_wp2_with fail
  refine (impl_BlockOk _ _ _ _ _ _ (H.out.below' (by (repeat' (first | (with_reducible exact Below.refl _ _) | (with_reducible refine Below.setCell ?_ ?_ _) | (with_reducible refine Below.alloc ?_ ?_ _) | (with_reducible refine Below.drew ?_) | (with_reducible refine Below.drewN ?_ _) | (with_reducible refine Below.trans ?_ (Below.mono (by with_reducible assumption) ?_)) | go_size | (dsimp only; omega)))) (by go_size))).mono ?_
  rintro e w1 ⟨rfl, hb1⟩
  rw [HBK.out]
  have hy1 := bsize hb1
  try simp at hy1
  obtain ⟨hc1, hf1, hz1⟩ := bcell hb1 (b := w.heap.size) (by go_size)
  have l0 : w1.cell? ⟨w.heap.size, 0, none⟩ = some (.int .i64 z) := (hc1 0).trans (by rw [World.cell?_alloc_new]; rfl)
  have l1 : w1.cell? ⟨w.heap.size, 1, none⟩ = some (.slice A n c) := (hc1 1).trans (by rw [World.cell?_alloc_new]; rfl)
  have HW := Lib.hid (show Below w.heap.size w w1 by (repeat' (first | (with_reducible exact Below.refl _ _) | (with_reducible refine Below.setCell ?_ ?_ _) | (with_reducible refine Below.alloc ?_ ?_ _) | (with_reducible refine Below.drew ?_) | (with_reducible refine Below.drewN ?_ _) | (with_reducible refine Below.trans ?_ (Below.mono (by with_reducible assumption) ?_)) | go_size | (dsimp only; omega))))
  clear hc1 hf1 hb1
  go_wp2_with fail
  go_loopw [3, 5, 12] (fun v q i wr => ∃ (k : Nat), k ≤ n ∧ i = .int .i64 k ∧ v = .string (ttx xs k) ∧ Hid (Below w1.heap.size w1 wr)) (fun _ _ i _ => n - (intOf i).toNat)
  case atStart => exact ⟨0, by omega, rfl, rfl, Below.refl _ _⟩
  case round =>
    obtain ⟨k, hk, rfl, rfl, hb⟩ := hrel
    have hy := hb.out.size
    by_cases hlt : k < n
    · obtain ⟨g, off, hA, hc0, hc1, hc2⟩ := (H.out.below (HW.out.trans (hb.out.mono (by omega)))).at_ hlt
      subst hA
      have i0 : (0 : Int) ≤ (k : Int) := by omega
      have i1 : (k : Int) < (n : Int) := by omega
      go_wp2_with fail
      refine (impl_CellText _ _ _ _ (Lib.hid (ht.out.below (B := w.heap.size) ((HW.out.trans (hb.out.mono (by omega))).alloc (by omega) _) (Nat.le_refl _)))).mono ?_
      rintro e w3 ⟨rfl, hb3⟩
      have HB3 := Lib.hid ((hb.out.alloc hy _).trans (hb3.mono (by simp; omega)))
      clear hb3
      have zt := ttx_size xs k
      have zc := ctx_size (cith xs k).s (cith xs k).a (cith xs k).b
      have HT := Lib.hid (show ttx xs k ++ (ctx (cith xs k).s (cith xs k).a (cith xs k).b ++ ⟨#[59]⟩) = ttx xs (k + 1) from app_assoc3 _ _ _)
      obtain ⟨t, ht1⟩ : ∃ t, t = ttx xs k := ⟨_, rfl⟩
      obtain ⟨u, hu⟩ : ∃ u, u = ctx (cith xs k).s (cith xs k).a (cith xs k).b := ⟨_, rfl⟩
      rw [← ht1] at zt
      rw [← hu] at zc
      simp only [← ht1, ← hu]
      have HT1 := Lib.hid ht1
      have HU1 := Lib.hid hu
      clear ht1 hu
      go_wp2
      go_roundw
      case rel => exact ⟨k + 1, by omega, by go_num, by rw [← HT.out, HT1.out, HU1.out], HB3.out⟩
      case measure => simp [intOf]; omega
    · obtain rfl : k = n := by omega
      go_wp2
      go_ret
      exact ⟨by rw [HE.out, HL.out]; rfl, HW.out.trans (hb.out.mono (by omega))⟩
theorem impl_TextOf (z : Int) (A : Option Addr) (n c : Nat) (xs : List C) (w : World) (h : RdC w w.heap.size A n xs) (ht : Hid (Pow w)) :
    Calls Tryd.prog 30 #[.agg #[.int .i64 z, .slice A n c]] w fun e w' => e = .returned (.string (ttB z xs)) ∧ Below w.heap.size w w' := by
  cases hp : bOk z xs with
  | true => exact impl_TextOf_yes z A n c xs w h hp ht
  | false => exact impl_TextOf_no z A n c xs w h hp
set_option maxRecDepth 100000 in
set_option maxHeartbeats 1000000 in
theorem walk_FnExactTextOf_small (z : Int) (A : Option Addr) (n c : Nat) (xs : List C) (w : World) (hz : I64 z) (h : RdC w w.heap.size A n xs) (hn : n ≤ 1048576) (ht : Pow w) :
    Calls Tryd.prog 9 #[.agg #[.int .i64 z, .slice A n c]] w fun e w' => e = .returned (.bool true) ∧ Below w.heap.size w w' := by
  have hsz := szB_small hn
  have HT := Lib.hid ht
  clear ht
  have a_x := h
  have HW := Below.refl w.heap.size w
  have hs := lt2
  have hs3 := lt3
  go_enter Tryd.func9, Tryd.ntmps9
  go_wp2_with fail
  refine (laws_szBlock _ _ _ _ _ (by omega)).mono ?_
  rintro e w1 ⟨rfl, hb1⟩
  have hy1 := bsize hb1
  try simp at hy1
  have HB1 : Below w.heap.size w w1 := by (repeat' (first | (with_reducible exact Below.refl _ _) | (with_reducible refine Below.setCell ?_ ?_ _) | (with_reducible refine Below.alloc ?_ ?_ _) | (with_reducible refine Below.drew ?_) | (with_reducible refine Below.drewN ?_ _) | (with_reducible refine Below.trans ?_ (Below.mono (by with_reducible assumption) ?_)) | go_size | (dsimp only; omega)))
  have hx1 := HB1.size
  obtain ⟨bc1, bf1, bz1⟩ := bcell hb1 (b := w.heap.size) (by go_size)
  have t0_0 : w1.cell? ⟨w.heap.size, 0, none⟩ = some (.int .i64 z) := (bc1 0).trans (by first | (rw [World.cell?_alloc_new]; done) | (rw [World.cell?_alloc_new]; rfl) | (simp [go_sem]; done) | (rw [World.cell?_alloc_lt _ _ _ (by go_size), World.cell?_alloc_new]; rfl))
  have t0_1 : w1.cell? ⟨w.heap.size, 1, none⟩ = some (.slice A n c) := (bc1 1).trans (by first | (rw [World.cell?_alloc_new]; done) | (rw [World.cell?_alloc_new]; rfl) | (simp [go_sem]; done) | (rw [World.cell?_alloc_lt _ _ _ (by go_size), World.cell?_alloc_new]; rfl))
  clear bc1 bf1
  replace a_x := a_x.below (HB1.mono (by omega))
  replace HW := HW.trans (HB1.mono (by omega))
  clear hb1 HB1
  go_wp2_with fail
  refine (laws_toBlock _ _ _ _ _ _ (a_x.below' (by go_grown) (by go_size))).mono ?_
  rintro e w2 ⟨g_p, rfl, f_p, hb2⟩
  have l_p := Lib.hid f_p.lt
  try simp only [World.size_alloc] at l_p
  have hy2 := bsize hb2
  try simp at hy2
  have HB2 : Below w1.heap.size w1 w2 := by (repeat' (first | (with_reducible exact Below.refl _ _) | (with_reducible refine Below.setCell ?_ ?_ _) | (with_reducible refine Below.alloc ?_ ?_ _) | (with_reducible refine Below.drew ?_) | (with_reducible refine Below.drewN ?_ _) | (with_reducible refine Below.trans ?_ (Below.mono (by with_reducible assumption) ?_)) | go_size | (dsimp only; omega)))
  have hx2 := HB2.size
  obtain ⟨bc2, bf2, bz2⟩ := bcell hb2 (b := w.heap.size) (by go_size)
  replace t0_0 : w2.cell? ⟨w.heap.size, 0, none⟩ = some (.int .i64 z) := (bc2 0).trans (by first | exact t0_0 | exact (World.cell?_alloc_lt _ _ _ (by go_size)).trans t0_0)
  replace t0_1 : w2.cell? ⟨w.heap.size, 1, none⟩ = some (.slice A n c) := (bc2 1).trans (by first | exact t0_1 | exact (World.cell?_alloc_lt _ _ _ (by go_size)).trans t0_1)
  clear bc2 bf2
  replace a_x := a_x.below (HB2.mono (by omega))
  replace HW := HW.trans (HB2.mono (by omega))
  clear hb2 HB2
  have m_p : ∀ k, (Value.slice (some ⟨g_p, 0, none⟩) n n).ownBlock = some k → w1.heap.size ≤ k ∧ k < w2.heap.size := fun k e => ⟨Nat.le_trans (by go_size) (f_p.lt k e).1, (f_p.lt k e).2⟩
  clear l_p
  have l_p := Lib.hid m_p
  clear m_p
  go_wp2_with fail
  refine (spec_TextOf _ _ _ _ _ _ (f_p.rd.below' (by go_grown) (by go_size))).mono ?_
  rintro e w3 ⟨rfl, hb3⟩
  have hy3 := bsize hb3
  try simp at hy3
  have HB3 : Below w2.heap.size w2 w3 := by (repeat' (first | (with_reducible exact Below.refl _ _) | (with_reducible refine Below.setCell ?_ ?_ _) | (with_reducible refine Below.alloc ?_ ?_ _) | (with_reducible refine Below.drew ?_) | (with_reducible refine Below.drewN ?_ _) | (with_reducible refine Below.trans ?_ (Below.mono (by with_reducible assumption) ?_)) | go_size | (dsimp only; omega)))
  have hx3 := HB3.size
  obtain ⟨bc3, bf3, bz3⟩ := bcell hb3 (b := w.heap.size) (by go_size)
  replace t0_0 : w3.cell? ⟨w.heap.size, 0, none⟩ = some (.int .i64 z) := (bc3 0).trans (by first | exact t0_0 | exact (World.cell?_alloc_lt _ _ _ (by go_size)).trans t0_0)
  replace t0_1 : w3.cell? ⟨w.heap.size, 1, none⟩ = some (.slice A n c) := (bc3 1).trans (by first | exact t0_1 | exact (World.cell?_alloc_lt _ _ _ (by go_size)).trans t0_1)
  clear bc3 bf3
  replace f_p := f_p.next HB3
  replace a_x := a_x.below (HB3.mono (by omega))
  replace HW := HW.trans (HB3.mono (by omega))
  clear hb3 HB3
  go_wp2_with fail
  refine (laws_toBlock _ _ _ _ _ _ (a_x.below' (by go_grown) (by go_size))).mono ?_
  rintro e w4 ⟨g_x0, rfl, f_x0, hb4⟩
  have l_x0 := Lib.hid f_x0.lt
  try simp only [World.size_alloc] at l_x0
  have hy4 := bsize hb4
  try simp at hy4
  have HB4 : Below w3.heap.size w3 w4 := by (repeat' (first | (with_reducible exact Below.refl _ _) | (with_reducible refine Below.setCell ?_ ?_ _) | (with_reducible refine Below.alloc ?_ ?_ _) | (with_reducible refine Below.drew ?_) | (with_reducible refine Below.drewN ?_ _) | (with_reducible refine Below.trans ?_ (Below.mono (by with_reducible assumption) ?_)) | go_size | (dsimp only; omega)))
  have hx4 := HB4.size
  obtain ⟨bc4, bf4, bz4⟩ := bcell hb4 (b := w.heap.size) (by go_size)
  replace t0_0 : w4.cell? ⟨w.heap.size, 0, none⟩ = some (.int .i64 z) := (bc4 0).trans (by first | exact t0_0 | exact (World.cell?_alloc_lt _ _ _ (by go_size)).trans t0_0)
  replace t0_1 : w4.cell? ⟨w.heap.size, 1, none⟩ = some (.slice A n c) := (bc4 1).trans (by first | exact t0_1 | exact (World.cell?_alloc_lt _ _ _ (by go_size)).trans t0_1)
  clear bc4 bf4
  replace f_p := f_p.next HB4
  replace a_x := a_x.below (HB4.mono (by omega))
  replace HW := HW.trans (HB4.mono (by omega))
  clear hb4 HB4
  have m_x0 : ∀ k, (Value.slice (some ⟨g_x0, 0, none⟩) n n).ownBlock = some k → w3.heap.size ≤ k ∧ k < w4.heap.size := fun k e => ⟨Nat.le_trans (by go_size) (f_x0.lt k e).1, (f_x0.lt k e).2⟩
  clear l_x0
  have l_x0 := Lib.hid m_x0
  clear m_x0
  go_wp2_with fail
  refine (impl_TextOf _ _ _ _ _ _ (f_x0.rd.below' (by go_grown) (by go_size)) (Lib.hid (HT.out.below (B := w.heap.size) (by (repeat' (first | (with_reducible exact Below.refl _ _) | (with_reducible refine Below.setCell ?_ ?_ _) | (with_reducible refine Below.alloc ?_ ?_ _) | (with_reducible refine Below.drew ?_) | (with_reducible refine Below.drewN ?_ _) | (with_reducible refine Below.trans ?_ (Below.mono (by with_reducible assumption) ?_)) | go_size | (dsimp only; omega)))) (Nat.le_refl _)))).mono ?_
  rintro e w5 ⟨rfl, hb5⟩
  have hy5 := bsize hb5
  try simp at hy5
  have HB5 : Below w4.heap.size w4 w5 := by (repeat' (first | (with_reducible exact Below.refl _ _) | (with_reducible refine Below.setCell ?_ ?_ _) | (with_reducible refine Below.alloc ?_ ?_ _) | (with_reducible refine Below.drew ?_) | (with_reducible refine Below.drewN ?_ _) | (with_reducible refine Below.trans ?_ (Below.mono (by with_reducible assumption) ?_)) | go_size | (dsimp only; omega)))
  have hx5 := HB5.size
  obtain ⟨bc5, bf5, bz5⟩ := bcell hb5 (b := w.heap.size) (by go_size)
  replace t0_0 : w5.cell? ⟨w.heap.size, 0, none⟩ = some (.int .i64 z) := (bc5 0).trans (by first | exact t0_0 | exact (World.cell?_alloc_lt _ _ _ (by go_size)).trans t0_0)
  replace t0_1 : w5.cell? ⟨w.heap.size, 1, none⟩ = some (.slice A n c) := (bc5 1).trans (by first | exact t0_1 | exact (World.cell?_alloc_lt _ _ _ (by go_size)).trans t0_1)
  clear bc5 bf5
  obtain ⟨bc5, bf5, bz5⟩ := bcell hb5 (b := w4.heap.size) (by go_size)
  have t1_0 : w5.cell? ⟨w4.heap.size, 0, none⟩ = some (.int .i64 z) := (bc5 0).trans (by first | (rw [World.cell?_alloc_new]; done) | (rw [World.cell?_alloc_new]; rfl) | (simp [go_sem]; done) | (rw [World.cell?_alloc_lt _ _ _ (by go_size), World.cell?_alloc_new]; rfl))
  have t1_1 : w5.cell? ⟨w4.heap.size, 1, none⟩ = some (.slice (some ⟨g_x0, 0, none⟩) n n) := (bc5 1).trans (by first | (rw [World.cell?_alloc_new]; done) | (rw [World.cell?_alloc_new]; rfl) | (simp [go_sem]; done) | (rw [World.cell?_alloc_lt _ _ _ (by go_size), World.cell?_alloc_new]; rfl))
  clear bc5 bf5
  replace f_p := f_p.next HB5
  replace f_x0 := f_x0.next HB5
  replace a_x := a_x.below (HB5.mono (by omega))
  replace HW := HW.trans (HB5.mono (by omega))
  clear hb5 HB5
  go_wp2_with fail
  go_region_held3 (fun w' => w'.cell? ⟨w4.heap.size, 0, none⟩ = some (.int .i64 z) ∧ w'.cell? ⟨w4.heap.size, 1, none⟩ = some (.slice (some ⟨g_x0, 0, none⟩) n n) ∧ w'.cell? ⟨w.heap.size, 0, none⟩ = some (.int .i64 z) ∧ w'.cell? ⟨w.heap.size, 1, none⟩ = some (.slice A n c)) (go_keep) (first
    | (go_at_call 29; refine (laws_toBlock _ _ _ _ _ _ (a_x.below' (by (repeat' (first | (with_reducible exact Below.refl _ _) | (with_reducible refine Below.setCell ?_ ?_ _) | (with_reducible refine Below.alloc ?_ ?_ _) | (with_reducible refine Below.drew ?_) | (with_reducible refine Below.drewN ?_ _) | (with_reducible refine Below.trans ?_ (Below.mono (by with_reducible assumption) ?_)) | go_size | (dsimp only; omega)))) (by go_size))).mono ?_; rintro e w6 ⟨g_q, rfl, f_q, hb6⟩; have hy6 := bsize hb6; (try simp at hy6); obtain ⟨bc6, bf6, bz6⟩ := bcell hb6 (b := w4.heap.size) (by go_size); obtain ⟨bc6, bf6, bz6⟩ := bcell hb6 (b := w.heap.size) (by go_size))
    | (go_at_call 31; refine (laws_eqBlock_self _ _ _ _ _ _ _ _ _ (f_x0.rd.below' (by (repeat' (first | (with_reducible exact Below.refl _ _) | (with_reducible refine Below.setCell ?_ ?_ _) | (with_reducible refine Below.alloc ?_ ?_ _) | (with_reducible refine Below.drew ?_) | (with_reducible refine Below.drewN ?_ _) | (with_reducible refine Below.trans ?_ (Below.mono (by with_reducible assumption) ?_)) | go_size | (dsimp only; omega)))) (by go_size)) (f_q.rd.below' (by (repeat' (first | (with_reducible exact Below.refl _ _) | (with_reducible refine Below.setCell ?_ ?_ _) | (with_reducible refine Below.alloc ?_ ?_ _) | (with_reducible refine Below.drew ?_) | (with_reducible refine Below.drewN ?_ _) | (with_reducible refine Below.trans ?_ (Below.mono (by with_reducible assumption) ?_)) | go_size | (dsimp only; omega)))) (by go_size))).mono ?_; rintro e w7 ⟨rfl, hb7⟩; have hy7 := bsize hb7; (try simp at hy7); obtain ⟨bc7, bf7, bz7⟩ := bcell hb7 (b := w4.heap.size) (by go_size); obtain ⟨bc7, bf7, bz7⟩ := bcell hb7 (b := w.heap.size) (by go_size)))
  go_wp2
  go_ret
  refine ⟨rfl, ?_⟩
  (repeat' (first | (with_reducible exact Below.refl _ _) | (with_reducible exact HW) | (with_reducible refine Below.setCell ?_ ?_ _) | (with_reducible refine Below.alloc ?_ ?_ _) | (with_reducible refine Below.drew ?_) | (with_reducible refine Below.drewN ?_ _) | (with_reducible refine Below.trans ?_ (Below.mono (by with_reducible assumption) ?_)) | go_size | (dsimp only; omega)))

set_option maxHeartbeats 400000 in
theorem walk_FnExactTextOf_big (z : Int) (A : Option Addr) (n c : Nat) (xs : List C) (w : World) (hb : 1048576 < n) (hm : n ≤ 9223372036854775807) :
    Calls Tryd.prog 9 #[.agg #[.int .i64 z, .slice A n c]] w fun e w' => e = .returned (.bool true) ∧ Below w.heap.size w w' := by
  have hsz := szB_big hb
  go_enter Tryd.func9, Tryd.ntmps9
  go_wp2_with (go_at_call 27; refine (laws_szBlock _ _ _ _ _ hm).mono ?_; rintro e w1 ⟨rfl, hb1⟩)
  go_ret
  refine ⟨rfl, ?_⟩
  (repeat' (first | (with_reducible exact Below.refl _ _) | (with_reducible refine Below.setCell ?_ ?_ _) | (with_reducible refine Below.alloc ?_ ?_ _) | (with_reducible refine Below.drew ?_) | (with_reducible refine Below.drewN ?_ _) | (with_reducible refine Below.trans ?_ (Below.mono (by with_reducible assumption) ?_)) | go_size | (dsimp only; omega)))

theorem walk_FnExactTextOf (z : Int) (A : Option Addr) (n c : Nat) (xs : List C) (w : World) (hz : I64 z) (h : ArgC w A n xs) (ht : Pow w) :
    Calls Tryd.prog 9 #[.agg #[.int .i64 z, .slice A n c]] w fun e w' => e = .returned (.bool true) ∧ Below w.heap.size w w' := by
  by_cases hb : n ≤ 1048576
  · exact walk_FnExactTextOf_small z A n c xs w hz (h.2 (by omega)) hb ht
  · exact walk_FnExactTextOf_big z A n c xs w (by omega) (by have := h.1; unfold maxLen at this; omega)

end Go.Proofs.YteoddpdjhkbaiaaDoor
