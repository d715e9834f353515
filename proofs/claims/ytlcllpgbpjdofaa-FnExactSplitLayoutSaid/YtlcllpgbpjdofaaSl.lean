/- Walks of SplitLayout, the program's side. No condition. -/
import Derived.Test.YtlcllpgbpjdofaaSd
set_option linter.unusedSimpArgs false
set_option linter.unusedVariables false
set_option maxRecDepth 100000
namespace Go.Proofs.Ytlcllpgbpjdofaa
open Go.RowKit

theorem six_cells {w2 : World} {P : Nat} {v0 v1 v2 v3 v4 v5 u0 u1 u2 u3 u4 u5 : Value} {o1 o2 : Obj} (h0 : w2.cell? ⟨P, 0, none⟩ = some u0) (h1 : w2.cell? ⟨P, 1, none⟩ = some u1) (h2 : w2.cell? ⟨P, 2, none⟩ = some u2) (h3 : w2.cell? ⟨P + 1, 0, none⟩ = some u3) (h4 : w2.cell? ⟨P + 1, 1, none⟩ = some u4) (h5 : w2.cell? ⟨P + 1, 2, none⟩ = some u5) (hP : P + 1 < w2.heap.size) {W : World}
    (hW : ((((((((w2.setCell ⟨P, 0, none⟩ v0).setCell ⟨P, 1, none⟩ v1).setCell ⟨P, 2, none⟩ v2).setCell ⟨P + 1, 0, none⟩ v3).setCell ⟨P + 1, 1, none⟩ v4).setCell ⟨P + 1, 2, none⟩ v5).alloc o1).alloc o2).drew = W) :
    W.cell? ⟨P, 0, none⟩ = some v0 ∧ W.cell? ⟨P, 1, none⟩ = some v1 ∧ W.cell? ⟨P, 2, none⟩ = some v2 ∧ W.cell? ⟨P + 1, 0, none⟩ = some v3 ∧ W.cell? ⟨P + 1, 1, none⟩ = some v4 ∧ W.cell? ⟨P + 1, 2, none⟩ = some v5 := by
  subst hW
  have g1 : P < w2.heap.size := by omega
  have g2 : P < w2.heap.size + 1 := by omega
  have g3 : P + 1 < w2.heap.size + 1 := by omega
  refine ⟨?_, ?_, ?_, ?_, ?_, ?_⟩ <;> simp [go_sem, h0, h1, h2, h3, h4, h5, hP, g1, g2, g3]
set_option maxRecDepth 100000 in
set_option maxHeartbeats 2000000 in
theorem impl_SplitLayout_no (z y : Int) (A : Option Addr) (n c : Nat) (ps : List Pt) (u : Bool) (a : Int) (w : World) (h : RdP w w.heap.size A n ps) (hc : cutB z y ps u a = false) :
    Calls Try.prog 60 #[.agg #[.int .i64 z, .int .i64 y, .slice A n c], .agg #[.bool u, .int .i64 a]] w fun e w' => ∃ A1 n1 c1 A2 n2 c2, e = .returned (.tuple #[.agg #[.int .i64 (spZ1 z y ps u a), .int .i64 (spY1 z y ps u a), .slice A1 n1 c1], .agg #[.int .i64 (spZ2 z y ps u a), .int .i64 (spY2 z y ps u a), .slice A2 n2 c2], .bool (cutB z y ps u a)]) ∧ OwnP w' w.heap.size A1 n1 c1 (spL1 z y ps u a) ∧ OwnP w' w.heap.size A2 n2 c2 (spL2 z y ps u a) ∧ Ap (.slice A1 n1 c1) (.slice A2 n2 c2) ∧ Below w.heap.size w w' := by
  have hs := lt2
  have E0 := Lib.hid (show spZ1 z y ps u a = 0 from if_neg (by rw [hc]; simp))
  have E1 := Lib.hid (show spY1 z y ps u a = 0 from if_neg (by rw [hc]; simp))
  have E2 := Lib.hid (show spZ2 z y ps u a = 0 from if_neg (by rw [hc]; simp))
  have E3 := Lib.hid (show spY2 z y ps u a = 0 from if_neg (by rw [hc]; simp))
  have E4 := Lib.hid (show spL1 z y ps u a = [] from if_neg (by rw [hc]; simp))
  have E5 := Lib.hid (show spL2 z y ps u a = [] from if_neg (by rw [hc]; simp))
  have HC := Lib.hid hc
  have hle := h.le
  have H := Lib.hid h
  clear h hc
  go_enter Try.func60, Try.ntmps60
  go_wp2_with (go_at_call 97; refine (impl_IsCut _ _ _ _ _ _ _ _ _ (H.out.below' (by (repeat' (first | (with_reducible exact Below.refl _ _) | (with_reducible refine Below.setCell ?_ ?_ _) | (with_reducible refine Below.alloc ?_ ?_ _) | (with_reducible refine Below.drew ?_) | (with_reducible refine Below.drewN ?_ _) | (with_reducible refine Below.trans ?_ (Below.mono (by with_reducible assumption) ?_)) | go_size | (dsimp only; omega)))) (by go_size))).mono ?_; rintro e w1 ⟨rfl, hb1⟩; rw [HC.out]; have HB1 := Lib.hid (show Below w.heap.size w w1 by (repeat' (first | (with_reducible exact Below.refl _ _) | (with_reducible refine Below.setCell ?_ ?_ _) | (with_reducible refine Below.alloc ?_ ?_ _) | (with_reducible refine Below.drew ?_) | (with_reducible refine Below.drewN ?_ _) | (with_reducible refine Below.trans ?_ (Below.mono (by with_reducible assumption) ?_)) | go_size | (dsimp only; omega)))); have hx1 := bsize hb1; (try simp at hx1); obtain ⟨c0, f0, z0⟩ := bcell hb1 (b := w.heap.size) (by go_size); obtain ⟨c1, f1, z1⟩ := bcell hb1 (b := w.heap.size + 1) (by go_size); obtain ⟨c2, f2, z2⟩ := bcell hb1 (b := w.heap.size + 2) (by go_size); obtain ⟨c3, f3, z3⟩ := bcell hb1 (b := w.heap.size + 3) (by go_size); have w10_0 : w1.cell? ⟨w.heap.size, 0, none⟩ = some (.int .i64 z) := (c0 0).trans (by simp [go_sem]); have w10_1 : w1.cell? ⟨w.heap.size, 1, none⟩ = some (.int .i64 y) := (c0 1).trans (by simp [go_sem]); have w10_2 : w1.cell? ⟨w.heap.size, 2, none⟩ = some (.slice A n c) := (c0 2).trans (by simp [go_sem]); have w11_0 : w1.cell? ⟨w.heap.size + 1, 0, none⟩ = some (.bool u) := (c1 0).trans (by simp [go_sem]); have w11_1 : w1.cell? ⟨w.heap.size + 1, 1, none⟩ = some (.int .i64 a) := (c1 1).trans (by simp [go_sem]); have w12_0 : w1.cell? ⟨w.heap.size + 2, 0, none⟩ = some (.int .i64 0) := (c2 0).trans (by simp [go_sem]); have w12_1 : w1.cell? ⟨w.heap.size + 2, 1, none⟩ = some (.int .i64 0) := (c2 1).trans (by simp [go_sem]); have w12_2 : w1.cell? ⟨w.heap.size + 2, 2, none⟩ = some (.slice none 0 0) := (c2 2).trans (by simp [go_sem]); have w13_0 : w1.cell? ⟨w.heap.size + 3, 0, none⟩ = some (.int .i64 0) := (c3 0).trans (by simp [go_sem]); have w13_1 : w1.cell? ⟨w.heap.size + 3, 1, none⟩ = some (.int .i64 0) := (c3 1).trans (by simp [go_sem]); have w13_2 : w1.cell? ⟨w.heap.size + 3, 2, none⟩ = some (.slice none 0 0) := (c3 2).trans (by simp [go_sem]); have w1f2 : ∀ o, w1.frozen? ⟨w.heap.size + 2, o, none⟩ = false := (fun o => (f2 o).trans (by simp [go_sem])); have w1f3 : ∀ o, w1.frozen? ⟨w.heap.size + 3, o, none⟩ = false := (fun o => (f3 o).trans (by simp [go_sem])); clear hb1 c0 f0 z0 c1 f1 z1 c2 f2 z2 c3 f3 z3)
  refine bodyPost_ret (by simp [results, Try.results60, go_sem, *]; try rfl) rfl ?_
  refine ⟨none, 0, 0, none, 0, 0, by rw [E0.out, E1.out, E2.out, E3.out, HC.out], by rw [E4.out]; exact OwnG.nil_, by rw [E5.out]; exact OwnG.nil_, Ap.nil_ _, ?_⟩
  have hB1 := HB1.out
  (repeat' (first | (with_reducible exact Below.refl _ _) | (with_reducible refine Below.setCell ?_ ?_ _) | (with_reducible refine Below.alloc ?_ ?_ _) | (with_reducible refine Below.drew ?_) | (with_reducible refine Below.drewN ?_ _) | (with_reducible refine Below.trans ?_ (Below.mono (by with_reducible assumption) ?_)) | go_size | (dsimp only; omega)))
set_option maxRecDepth 100000 in
set_option maxHeartbeats 2000000 in
theorem impl_SplitLayout_true (z y : Int) (A : Option Addr) (n c : Nat) (ps : List Pt) (a : Int) (w : World) (h : RdP w w.heap.size A n ps) (hc : cutB z y ps true a = true) :
    Calls Try.prog 60 #[.agg #[.int .i64 z, .int .i64 y, .slice A n c], .agg #[.bool true, .int .i64 a]] w fun e w' => ∃ A1 n1 c1 A2 n2 c2, e = .returned (.tuple #[.agg #[.int .i64 (spZ1 z y ps true a), .int .i64 (spY1 z y ps true a), .slice A1 n1 c1], .agg #[.int .i64 (spZ2 z y ps true a), .int .i64 (spY2 z y ps true a), .slice A2 n2 c2], .bool (cutB z y ps true a)]) ∧ OwnP w' w.heap.size A1 n1 c1 (spL1 z y ps true a) ∧ OwnP w' w.heap.size A2 n2 c2 (spL2 z y ps true a) ∧ Ap (.slice A1 n1 c1) (.slice A2 n2 c2) ∧ Below w.heap.size w w' := by
  have hs := lt2
  have E0 := Lib.hid (show spZ1 z y ps true a = a from if_pos hc)
  have E1 := Lib.hid (show spY1 z y ps true a = y from if_pos hc)
  have E2 := Lib.hid (show spZ2 z y ps true a = z - a from if_pos hc)
  have E3 := Lib.hid (show spY2 z y ps true a = y from if_pos hc)
  have E4 := Lib.hid (show spL1 z y ps true a = fstL true a ps from if_pos hc)
  have E5 := Lib.hid (show spL2 z y ps true a = sndL true a ps from if_pos hc)
  have HC := Lib.hid hc
  obtain ⟨hbk, ha1, ha2⟩ := cutB_p hc
  have HBK := Lib.hid hbk
  have hle := h.le
  have H := Lib.hid h
  clear h hc hbk
  go_enter Try.func60, Try.ntmps60
  go_wp2_with (first
    | (go_at_call 97; refine (impl_IsCut _ _ _ _ _ _ _ _ _ (H.out.below' (by (repeat' (first | (with_reducible exact Below.refl _ _) | (with_reducible refine Below.setCell ?_ ?_ _) | (with_reducible refine Below.alloc ?_ ?_ _) | (with_reducible refine Below.drew ?_) | (with_reducible refine Below.drewN ?_ _) | (with_reducible refine Below.trans ?_ (Below.mono (by with_reducible assumption) ?_)) | go_size | (dsimp only; omega)))) (by go_size))).mono ?_; rintro e w1 ⟨rfl, hb1⟩; rw [HC.out]; have HB1 := Lib.hid (show Below w.heap.size w w1 by (repeat' (first | (with_reducible exact Below.refl _ _) | (with_reducible refine Below.setCell ?_ ?_ _) | (with_reducible refine Below.alloc ?_ ?_ _) | (with_reducible refine Below.drew ?_) | (with_reducible refine Below.drewN ?_ _) | (with_reducible refine Below.trans ?_ (Below.mono (by with_reducible assumption) ?_)) | go_size | (dsimp only; omega)))); have hx1 := bsize hb1; (try simp at hx1); obtain ⟨c0, f0, z0⟩ := bcell hb1 (b := w.heap.size) (by go_size); obtain ⟨c1, f1, z1⟩ := bcell hb1 (b := w.heap.size + 1) (by go_size); obtain ⟨c2, f2, z2⟩ := bcell hb1 (b := w.heap.size + 2) (by go_size); obtain ⟨c3, f3, z3⟩ := bcell hb1 (b := w.heap.size + 3) (by go_size); have w10_0 : w1.cell? ⟨w.heap.size, 0, none⟩ = some (.int .i64 z) := (c0 0).trans (by simp [go_sem]); have w10_1 : w1.cell? ⟨w.heap.size, 1, none⟩ = some (.int .i64 y) := (c0 1).trans (by simp [go_sem]); have w10_2 : w1.cell? ⟨w.heap.size, 2, none⟩ = some (.slice A n c) := (c0 2).trans (by simp [go_sem]); have w11_0 : w1.cell? ⟨w.heap.size + 1, 0, none⟩ = some (.bool true) := (c1 0).trans (by simp [go_sem]); have w11_1 : w1.cell? ⟨w.heap.size + 1, 1, none⟩ = some (.int .i64 a) := (c1 1).trans (by simp [go_sem]); have w12_0 : w1.cell? ⟨w.heap.size + 2, 0, none⟩ = some (.int .i64 0) := (c2 0).trans (by simp [go_sem]); have w12_1 : w1.cell? ⟨w.heap.size + 2, 1, none⟩ = some (.int .i64 0) := (c2 1).trans (by simp [go_sem]); have w12_2 : w1.cell? ⟨w.heap.size + 2, 2, none⟩ = some (.slice none 0 0) := (c2 2).trans (by simp [go_sem]); have w13_0 : w1.cell? ⟨w.heap.size + 3, 0, none⟩ = some (.int .i64 0) := (c3 0).trans (by simp [go_sem]); have w13_1 : w1.cell? ⟨w.heap.size + 3, 1, none⟩ = some (.int .i64 0) := (c3 1).trans (by simp [go_sem]); have w13_2 : w1.cell? ⟨w.heap.size + 3, 2, none⟩ = some (.slice none 0 0) := (c3 2).trans (by simp [go_sem]); have w1f2 : ∀ o, w1.frozen? ⟨w.heap.size + 2, o, none⟩ = false := (fun o => (f2 o).trans (by simp [go_sem])); have w1f3 : ∀ o, w1.frozen? ⟨w.heap.size + 3, o, none⟩ = false := (fun o => (f3 o).trans (by simp [go_sem])); clear hb1 c0 f0 z0 c1 f1 z1 c2 f2 z2 c3 f3 z3)
    | (go_at_call 102; refine (impl_divide_true _ _ _ _ _ ps _ _ (H.out.below' HB1.out (by omega)) HBK.out (by omega) (by omega)).mono ?_; rintro e w2 ⟨A1, n1, c1, A2, n2, c2, A3, n3, c3, A4, n4, c4, is, js, rfl, hr, hb2⟩; have HR := Lib.hid hr; have HB2 := Lib.hid hb2; have hx2 := HB2.out.size; have w20_0 : w2.cell? ⟨w.heap.size, 0, none⟩ = some (.int .i64 z) := (HB2.out.cell (p := ⟨w.heap.size, 0, none⟩) (by dsimp only; omega)).trans w10_0; have w20_1 : w2.cell? ⟨w.heap.size, 1, none⟩ = some (.int .i64 y) := (HB2.out.cell (p := ⟨w.heap.size, 1, none⟩) (by dsimp only; omega)).trans w10_1; have w20_2 : w2.cell? ⟨w.heap.size, 2, none⟩ = some (.slice A n c) := (HB2.out.cell (p := ⟨w.heap.size, 2, none⟩) (by dsimp only; omega)).trans w10_2; have w21_0 : w2.cell? ⟨w.heap.size + 1, 0, none⟩ = some (.bool true) := (HB2.out.cell (p := ⟨w.heap.size + 1, 0, none⟩) (by dsimp only; omega)).trans w11_0; have w21_1 : w2.cell? ⟨w.heap.size + 1, 1, none⟩ = some (.int .i64 a) := (HB2.out.cell (p := ⟨w.heap.size + 1, 1, none⟩) (by dsimp only; omega)).trans w11_1; have w22_0 : w2.cell? ⟨w.heap.size + 2, 0, none⟩ = some (.int .i64 0) := (HB2.out.cell (p := ⟨w.heap.size + 2, 0, none⟩) (by dsimp only; omega)).trans w12_0; have w22_1 : w2.cell? ⟨w.heap.size + 2, 1, none⟩ = some (.int .i64 0) := (HB2.out.cell (p := ⟨w.heap.size + 2, 1, none⟩) (by dsimp only; omega)).trans w12_1; have w22_2 : w2.cell? ⟨w.heap.size + 2, 2, none⟩ = some (.slice none 0 0) := (HB2.out.cell (p := ⟨w.heap.size + 2, 2, none⟩) (by dsimp only; omega)).trans w12_2; have w23_0 : w2.cell? ⟨w.heap.size + 3, 0, none⟩ = some (.int .i64 0) := (HB2.out.cell (p := ⟨w.heap.size + 3, 0, none⟩) (by dsimp only; omega)).trans w13_0; have w23_1 : w2.cell? ⟨w.heap.size + 3, 1, none⟩ = some (.int .i64 0) := (HB2.out.cell (p := ⟨w.heap.size + 3, 1, none⟩) (by dsimp only; omega)).trans w13_1; have w23_2 : w2.cell? ⟨w.heap.size + 3, 2, none⟩ = some (.slice none 0 0) := (HB2.out.cell (p := ⟨w.heap.size + 3, 2, none⟩) (by dsimp only; omega)).trans w13_2; have w2f2 : ∀ o, w2.frozen? ⟨w.heap.size + 2, o, none⟩ = false := (fun o => (HB2.out.frozen (p := ⟨w.heap.size + 2, o, none⟩) (by dsimp only; omega)).trans (w1f2 o)); have w2f3 : ∀ o, w2.frozen? ⟨w.heap.size + 3, o, none⟩ = false := (fun o => (HB2.out.frozen (p := ⟨w.heap.size + 3, o, none⟩) (by dsimp only; omega)).trans (w1f3 o)); have hz2 : w.heap.size + 2 < w2.heap.size := (by omega); have hz3 : w.heap.size + 3 < w2.heap.size := (by omega); have hz2' : w.heap.size + 2 < w2.heap.size + 1 := (by omega); have hz3' : w.heap.size + 3 < w2.heap.size + 1 := (by omega); clear hb2 hr))
  go_region
  generalize hW : World.drew _ = W
  have HBW := Lib.hid (show Below w.heap.size w W by
    rw [← hW]
    have hB2 : Below w.heap.size w w2 := HB1.out.trans (HB2.out.mono (by omega))
    (repeat' (first | (with_reducible exact Below.refl _ _) | (with_reducible refine Below.setCell ?_ ?_ _) | (with_reducible refine Below.alloc ?_ ?_ _) | (with_reducible refine Below.drew ?_) | (with_reducible refine Below.drewN ?_ _) | (with_reducible refine Below.trans ?_ (Below.mono (by with_reducible assumption) ?_)) | go_size | (dsimp only; omega))))
  have HO1 := Lib.hid (show OwnP W w.heap.size A1 n1 c1 (spL1 z y ps true a) by
    rw [E4.out, ← hW]
    refine OwnG.base (B := w1.heap.size) ?_ (by omega)
    repeat' (first | (with_reducible exact HR.out.r1) | (with_reducible refine OwnG.drew_ ?_) | (with_reducible refine OwnG.alloc_ ?_ _) | (with_reducible refine OwnG.set_ ?_ (by dsimp only; omega) _)))
  have HO2 := Lib.hid (show OwnP W w.heap.size A2 n2 c2 (spL2 z y ps true a) by
    rw [E5.out, ← hW]
    refine OwnG.base (B := w1.heap.size) ?_ (by omega)
    repeat' (first | (with_reducible exact HR.out.r2) | (with_reducible refine OwnG.drew_ ?_) | (with_reducible refine OwnG.alloc_ ?_ _) | (with_reducible refine OwnG.set_ ?_ (by dsimp only; omega) _)))
  obtain ⟨r0, r1, r2, r3, r4, r5⟩ := six_cells w22_0 w22_1 w22_2 w23_0 w23_1 w23_2 hz3 hW
  rw [show w.heap.size + 2 + 1 = w.heap.size + 3 from rfl] at r3 r4 r5
  clear hW w10_0 w10_1 w10_2 w11_0 w11_1 w12_0 w12_1 w12_2 w13_0 w13_1 w13_2 w1f2 w1f3 w20_0 w20_1 w20_2 w21_0 w21_1 w22_0 w22_1 w22_2 w23_0 w23_1 w23_2 w2f2 w2f3 hz2 hz3 hz2' hz3' hx2 hx1
  go_wp2
  refine bodyPost_ret (by simp [results, Try.results60, go_sem, r0, r1, r2, r3, r4, r5]; try rfl) rfl ?_
  exact ⟨A1, n1, c1, A2, n2, c2, by rw [E0.out, E1.out, E2.out, E3.out, HC.out], HO1.out, HO2.out, HR.out.a12, HBW.out⟩
set_option maxRecDepth 100000 in
set_option maxHeartbeats 2000000 in
theorem impl_SplitLayout_false (z y : Int) (A : Option Addr) (n c : Nat) (ps : List Pt) (a : Int) (w : World) (h : RdP w w.heap.size A n ps) (hc : cutB z y ps false a = true) :
    Calls Try.prog 60 #[.agg #[.int .i64 z, .int .i64 y, .slice A n c], .agg #[.bool false, .int .i64 a]] w fun e w' => ∃ A1 n1 c1 A2 n2 c2, e = .returned (.tuple #[.agg #[.int .i64 (spZ1 z y ps false a), .int .i64 (spY1 z y ps false a), .slice A1 n1 c1], .agg #[.int .i64 (spZ2 z y ps false a), .int .i64 (spY2 z y ps false a), .slice A2 n2 c2], .bool (cutB z y ps false a)]) ∧ OwnP w' w.heap.size A1 n1 c1 (spL1 z y ps false a) ∧ OwnP w' w.heap.size A2 n2 c2 (spL2 z y ps false a) ∧ Ap (.slice A1 n1 c1) (.slice A2 n2 c2) ∧ Below w.heap.size w w' := by
  have hs := lt2
  have E0 := Lib.hid (show spZ1 z y ps false a = z from if_pos hc)
  have E1 := Lib.hid (show spY1 z y ps false a = a from if_pos hc)
  have E2 := Lib.hid (show spZ2 z y ps false a = z from if_pos hc)
  have E3 := Lib.hid (show spY2 z y ps false a = y - a from if_pos hc)
  have E4 := Lib.hid (show spL1 z y ps false a = fstL false a ps from if_pos hc)
  have E5 := Lib.hid (show spL2 z y ps false a = sndL false a ps from if_pos hc)
  have HC := Lib.hid hc
  obtain ⟨hbk, ha1, ha2⟩ := cutB_p hc
  have HBK := Lib.hid hbk
  have hle := h.le
  have H := Lib.hid h
  clear h hc hbk
  go_enter Try.func60, Try.ntmps60
  go_wp2_with (first
    | (go_at_call 97; refine (impl_IsCut _ _ _ _ _ _ _ _ _ (H.out.below' (by (repeat' (first | (with_reducible exact Below.refl _ _) | (with_reducible refine Below.setCell ?_ ?_ _) | (with_reducible refine Below.alloc ?_ ?_ _) | (with_reducible refine Below.drew ?_) | (with_reducible refine Below.drewN ?_ _) | (with_reducible refine Below.trans ?_ (Below.mono (by with_reducible assumption) ?_)) | go_size | (dsimp only; omega)))) (by go_size))).mono ?_; rintro e w1 ⟨rfl, hb1⟩; rw [HC.out]; have HB1 := Lib.hid (show Below w.heap.size w w1 by (repeat' (first | (with_reducible exact Below.refl _ _) | (with_reducible refine Below.setCell ?_ ?_ _) | (with_reducible refine Below.alloc ?_ ?_ _) | (with_reducible refine Below.drew ?_) | (with_reducible refine Below.drewN ?_ _) | (with_reducible refine Below.trans ?_ (Below.mono (by with_reducible assumption) ?_)) | go_size | (dsimp only; omega)))); have hx1 := bsize hb1; (try simp at hx1); obtain ⟨c0, f0, z0⟩ := bcell hb1 (b := w.heap.size) (by go_size); obtain ⟨c1, f1, z1⟩ := bcell hb1 (b := w.heap.size + 1) (by go_size); obtain ⟨c2, f2, z2⟩ := bcell hb1 (b := w.heap.size + 2) (by go_size); obtain ⟨c3, f3, z3⟩ := bcell hb1 (b := w.heap.size + 3) (by go_size); have w10_0 : w1.cell? ⟨w.heap.size, 0, none⟩ = some (.int .i64 z) := (c0 0).trans (by simp [go_sem]); have w10_1 : w1.cell? ⟨w.heap.size, 1, none⟩ = some (.int .i64 y) := (c0 1).trans (by simp [go_sem]); have w10_2 : w1.cell? ⟨w.heap.size, 2, none⟩ = some (.slice A n c) := (c0 2).trans (by simp [go_sem]); have w11_0 : w1.cell? ⟨w.heap.size + 1, 0, none⟩ = some (.bool false) := (c1 0).trans (by simp [go_sem]); have w11_1 : w1.cell? ⟨w.heap.size + 1, 1, none⟩ = some (.int .i64 a) := (c1 1).trans (by simp [go_sem]); have w12_0 : w1.cell? ⟨w.heap.size + 2, 0, none⟩ = some (.int .i64 0) := (c2 0).trans (by simp [go_sem]); have w12_1 : w1.cell? ⟨w.heap.size + 2, 1, none⟩ = some (.int .i64 0) := (c2 1).trans (by simp [go_sem]); have w12_2 : w1.cell? ⟨w.heap.size + 2, 2, none⟩ = some (.slice none 0 0) := (c2 2).trans (by simp [go_sem]); have w13_0 : w1.cell? ⟨w.heap.size + 3, 0, none⟩ = some (.int .i64 0) := (c3 0).trans (by simp [go_sem]); have w13_1 : w1.cell? ⟨w.heap.size + 3, 1, none⟩ = some (.int .i64 0) := (c3 1).trans (by simp [go_sem]); have w13_2 : w1.cell? ⟨w.heap.size + 3, 2, none⟩ = some (.slice none 0 0) := (c3 2).trans (by simp [go_sem]); have w1f2 : ∀ o, w1.frozen? ⟨w.heap.size + 2, o, none⟩ = false := (fun o => (f2 o).trans (by simp [go_sem])); have w1f3 : ∀ o, w1.frozen? ⟨w.heap.size + 3, o, none⟩ = false := (fun o => (f3 o).trans (by simp [go_sem])); clear hb1 c0 f0 z0 c1 f1 z1 c2 f2 z2 c3 f3 z3)
    | (go_at_call 102; refine (impl_divide_false _ _ _ _ _ ps _ _ (H.out.below' HB1.out (by omega)) HBK.out (by omega) (by omega)).mono ?_; rintro e w2 ⟨A1, n1, c1, A2, n2, c2, A3, n3, c3, A4, n4, c4, is, js, rfl, hr, hb2⟩; have HR := Lib.hid hr; have HB2 := Lib.hid hb2; have hx2 := HB2.out.size; have w20_0 : w2.cell? ⟨w.heap.size, 0, none⟩ = some (.int .i64 z) := (HB2.out.cell (p := ⟨w.heap.size, 0, none⟩) (by dsimp only; omega)).trans w10_0; have w20_1 : w2.cell? ⟨w.heap.size, 1, none⟩ = some (.int .i64 y) := (HB2.out.cell (p := ⟨w.heap.size, 1, none⟩) (by dsimp only; omega)).trans w10_1; have w20_2 : w2.cell? ⟨w.heap.size, 2, none⟩ = some (.slice A n c) := (HB2.out.cell (p := ⟨w.heap.size, 2, none⟩) (by dsimp only; omega)).trans w10_2; have w21_0 : w2.cell? ⟨w.heap.size + 1, 0, none⟩ = some (.bool false) := (HB2.out.cell (p := ⟨w.heap.size + 1, 0, none⟩) (by dsimp only; omega)).trans w11_0; have w21_1 : w2.cell? ⟨w.heap.size + 1, 1, none⟩ = some (.int .i64 a) := (HB2.out.cell (p := ⟨w.heap.size + 1, 1, none⟩) (by dsimp only; omega)).trans w11_1; have w22_0 : w2.cell? ⟨w.heap.size + 2, 0, none⟩ = some (.int .i64 0) := (HB2.out.cell (p := ⟨w.heap.size + 2, 0, none⟩) (by dsimp only; omega)).trans w12_0; have w22_1 : w2.cell? ⟨w.heap.size + 2, 1, none⟩ = some (.int .i64 0) := (HB2.out.cell (p := ⟨w.heap.size + 2, 1, none⟩) (by dsimp only; omega)).trans w12_1; have w22_2 : w2.cell? ⟨w.heap.size + 2, 2, none⟩ = some (.slice none 0 0) := (HB2.out.cell (p := ⟨w.heap.size + 2, 2, none⟩) (by dsimp only; omega)).trans w12_2; have w23_0 : w2.cell? ⟨w.heap.size + 3, 0, none⟩ = some (.int .i64 0) := (HB2.out.cell (p := ⟨w.heap.size + 3, 0, none⟩) (by dsimp only; omega)).trans w13_0; have w23_1 : w2.cell? ⟨w.heap.size + 3, 1, none⟩ = some (.int .i64 0) := (HB2.out.cell (p := ⟨w.heap.size + 3, 1, none⟩) (by dsimp only; omega)).trans w13_1; have w23_2 : w2.cell? ⟨w.heap.size + 3, 2, none⟩ = some (.slice none 0 0) := (HB2.out.cell (p := ⟨w.heap.size + 3, 2, none⟩) (by dsimp only; omega)).trans w13_2; have w2f2 : ∀ o, w2.frozen? ⟨w.heap.size + 2, o, none⟩ = false := (fun o => (HB2.out.frozen (p := ⟨w.heap.size + 2, o, none⟩) (by dsimp only; omega)).trans (w1f2 o)); have w2f3 : ∀ o, w2.frozen? ⟨w.heap.size + 3, o, none⟩ = false := (fun o => (HB2.out.frozen (p := ⟨w.heap.size + 3, o, none⟩) (by dsimp only; omega)).trans (w1f3 o)); have hz2 : w.heap.size + 2 < w2.heap.size := (by omega); have hz3 : w.heap.size + 3 < w2.heap.size := (by omega); have hz2' : w.heap.size + 2 < w2.heap.size + 1 := (by omega); have hz3' : w.heap.size + 3 < w2.heap.size + 1 := (by omega); clear hb2 hr))
  go_region
  generalize hW : World.drew _ = W
  have HBW := Lib.hid (show Below w.heap.size w W by
    rw [← hW]
    have hB2 : Below w.heap.size w w2 := HB1.out.trans (HB2.out.mono (by omega))
    (repeat' (first | (with_reducible exact Below.refl _ _) | (with_reducible refine Below.setCell ?_ ?_ _) | (with_reducible refine Below.alloc ?_ ?_ _) | (with_reducible refine Below.drew ?_) | (with_reducible refine Below.drewN ?_ _) | (with_reducible refine Below.trans ?_ (Below.mono (by with_reducible assumption) ?_)) | go_size | (dsimp only; omega))))
  have HO1 := Lib.hid (show OwnP W w.heap.size A1 n1 c1 (spL1 z y ps false a) by
    rw [E4.out, ← hW]
    refine OwnG.base (B := w1.heap.size) ?_ (by omega)
    repeat' (first | (with_reducible exact HR.out.r1) | (with_reducible refine OwnG.drew_ ?_) | (with_reducible refine OwnG.alloc_ ?_ _) | (with_reducible refine OwnG.set_ ?_ (by dsimp only; omega) _)))
  have HO2 := Lib.hid (show OwnP W w.heap.size A2 n2 c2 (spL2 z y ps false a) by
    rw [E5.out, ← hW]
    refine OwnG.base (B := w1.heap.size) ?_ (by omega)
    repeat' (first | (with_reducible exact HR.out.r2) | (with_reducible refine OwnG.drew_ ?_) | (with_reducible refine OwnG.alloc_ ?_ _) | (with_reducible refine OwnG.set_ ?_ (by dsimp only; omega) _)))
  obtain ⟨r0, r1, r2, r3, r4, r5⟩ := six_cells w22_0 w22_1 w22_2 w23_0 w23_1 w23_2 hz3 hW
  rw [show w.heap.size + 2 + 1 = w.heap.size + 3 from rfl] at r3 r4 r5
  clear hW w10_0 w10_1 w10_2 w11_0 w11_1 w12_0 w12_1 w12_2 w13_0 w13_1 w13_2 w1f2 w1f3 w20_0 w20_1 w20_2 w21_0 w21_1 w22_0 w22_1 w22_2 w23_0 w23_1 w23_2 w2f2 w2f3 hz2 hz3 hz2' hz3' hx2 hx1
  go_wp2
  refine bodyPost_ret (by simp [results, Try.results60, go_sem, r0, r1, r2, r3, r4, r5]; try rfl) rfl ?_
  exact ⟨A1, n1, c1, A2, n2, c2, by rw [E0.out, E1.out, E2.out, E3.out, HC.out], HO1.out, HO2.out, HR.out.a12, HBW.out⟩
set_option maxRecDepth 100000 in
set_option maxHeartbeats 2000000 in
theorem impl_SplitLayout (z y : Int) (A : Option Addr) (n c : Nat) (ps : List Pt) (u : Bool) (a : Int) (w : World) (h : RdP w w.heap.size A n ps) :
    Calls Try.prog 60 #[.agg #[.int .i64 z, .int .i64 y, .slice A n c], .agg #[.bool u, .int .i64 a]] w fun e w' => ∃ A1 n1 c1 A2 n2 c2, e = .returned (.tuple #[.agg #[.int .i64 (spZ1 z y ps u a), .int .i64 (spY1 z y ps u a), .slice A1 n1 c1], .agg #[.int .i64 (spZ2 z y ps u a), .int .i64 (spY2 z y ps u a), .slice A2 n2 c2], .bool (cutB z y ps u a)]) ∧ OwnP w' w.heap.size A1 n1 c1 (spL1 z y ps u a) ∧ OwnP w' w.heap.size A2 n2 c2 (spL2 z y ps u a) ∧ Ap (.slice A1 n1 c1) (.slice A2 n2 c2) ∧ Below w.heap.size w w' := by
  cases hc : cutB z y ps u a with
  | false => rw [← hc]; exact impl_SplitLayout_no z y A n c ps u a w h hc
  | true =>
    rw [← hc]
    cases u with
    | true => exact impl_SplitLayout_true z y A n c ps a w h hc
    | false => exact impl_SplitLayout_false z y A n c ps a w h hc
end Go.Proofs.Ytlcllpgbpjdofaa
