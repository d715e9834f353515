/- Walks of SplitLayout, the reference's side. No condition. -/
import Derived.Test.YtlcllpgbpjdofaaSd
set_option linter.unusedSimpArgs false
set_option linter.unusedVariables false
set_option maxRecDepth 100000
namespace Go.Proofs.Ytlcllpgbpjdofaa
open Go.RowKit

/-- the cells of two layouts' boxes (blocks P and Q) -/
structure Pair2 (w : World) (P Q : Nat) (z1 y1 : Int) (A1 : Option Addr) (n1 c1 : Nat) (z2 y2 : Int) (A2 : Option Addr) (n2 c2 : Nat) : Prop where
  x0 : w.cell? ⟨P, 0, none⟩ = some (.int .i64 z1)
  x1 : w.cell? ⟨P, 1, none⟩ = some (.int .i64 y1)
  x2 : w.cell? ⟨P, 2, none⟩ = some (.slice A1 n1 c1)
  x3 : w.cell? ⟨Q, 0, none⟩ = some (.int .i64 z2)
  x4 : w.cell? ⟨Q, 1, none⟩ = some (.int .i64 y2)
  x5 : w.cell? ⟨Q, 2, none⟩ = some (.slice A2 n2 c2)
  fx : ∀ o, w.frozen? ⟨P, o, none⟩ = false
  fk : ∀ o, w.frozen? ⟨Q, o, none⟩ = false
section
variable {w w' : World} {P Q n1 c1 n2 c2 : Nat} {A1 A2 : Option Addr} {z1 y1 z2 y2 : Int}
theorem Pair2.move (h : Pair2 w P Q z1 y1 A1 n1 c1 z2 y2 A2 n2 c2) (h1 : ∀ o, w'.cell? ⟨P, o, none⟩ = w.cell? ⟨P, o, none⟩) (h2 : ∀ o, w'.frozen? ⟨P, o, none⟩ = w.frozen? ⟨P, o, none⟩) (h3 : ∀ o, w'.cell? ⟨Q, o, none⟩ = w.cell? ⟨Q, o, none⟩) (h4 : ∀ o, w'.frozen? ⟨Q, o, none⟩ = w.frozen? ⟨Q, o, none⟩) : Pair2 w' P Q z1 y1 A1 n1 c1 z2 y2 A2 n2 c2 :=
  ⟨(h1 _).trans h.x0, (h1 _).trans h.x1, (h1 _).trans h.x2, (h3 _).trans h.x3, (h3 _).trans h.x4, (h3 _).trans h.x5, fun o => (h2 o).trans (h.fx o), fun o => (h4 o).trans (h.fk o)⟩
theorem Pair2.below (h : Pair2 w P Q z1 y1 A1 n1 c1 z2 y2 A2 n2 c2) {B : Nat} (hb : Below B w w') (hP : P < B) (hQ : Q < B) : Pair2 w' P Q z1 y1 A1 n1 c1 z2 y2 A2 n2 c2 :=
  h.move (fun o => hb.cell (p := ⟨P, o, none⟩) (by dsimp only; omega)) (fun o => hb.frozen (p := ⟨P, o, none⟩) (by dsimp only; omega)) (fun o => hb.cell (p := ⟨Q, o, none⟩) (by dsimp only; omega)) (fun o => hb.frozen (p := ⟨Q, o, none⟩) (by dsimp only; omega))
theorem Pair2.grown (h : Pair2 w P Q z1 y1 A1 n1 c1 z2 y2 A2 n2 c2) {row : Option Nat} (hg : w.grownBy w' row) (hP : P < w.heap.size) (hQ : Q < w.heap.size) (hr : ∀ g, row = some g → P < g ∧ Q < g) : Pair2 w' P Q z1 y1 A1 n1 c1 z2 y2 A2 n2 c2 := by
  obtain ⟨a, b, _⟩ := gcell hg (b := P) (by omega) (fun e => by have := hr _ e; omega)
  obtain ⟨c, d, _⟩ := gcell hg (b := Q) (by omega) (fun e => by have := hr _ e; omega)
  exact h.move a b c d
theorem Pair2.st1 (h : Pair2 w P Q z1 y1 A1 n1 c1 z2 y2 A2 n2 c2) (hPQ : P < Q) (A : Option Addr) (n c : Nat) : Pair2 (w.setCell ⟨P, 2, none⟩ (.slice A n c)) P Q z1 y1 A n c z2 y2 A2 n2 c2 :=
  ⟨(World.cell?_setCell_other _ _ _ _ (by simp <;> omega)).trans h.x0, (World.cell?_setCell_other _ _ _ _ (by simp <;> omega)).trans h.x1, World.cell?_setCell_same _ _ _ h.x2, (World.cell?_setCell_other _ _ _ _ (by simp <;> omega)).trans h.x3, (World.cell?_setCell_other _ _ _ _ (by simp <;> omega)).trans h.x4, (World.cell?_setCell_other _ _ _ _ (by simp <;> omega)).trans h.x5, fun o => by rw [World.frozen?_setCell]; exact h.fx o, fun o => by rw [World.frozen?_setCell]; exact h.fk o⟩
theorem Pair2.st2 (h : Pair2 w P Q z1 y1 A1 n1 c1 z2 y2 A2 n2 c2) (hPQ : P < Q) (A : Option Addr) (n c : Nat) : Pair2 (w.setCell ⟨Q, 2, none⟩ (.slice A n c)) P Q z1 y1 A1 n1 c1 z2 y2 A n c :=
  ⟨(World.cell?_setCell_other _ _ _ _ (by simp <;> omega)).trans h.x0, (World.cell?_setCell_other _ _ _ _ (by simp <;> omega)).trans h.x1, (World.cell?_setCell_other _ _ _ _ (by simp <;> omega)).trans h.x2, (World.cell?_setCell_other _ _ _ _ (by simp <;> omega)).trans h.x3, (World.cell?_setCell_other _ _ _ _ (by simp <;> omega)).trans h.x4, World.cell?_setCell_same _ _ _ h.x5, fun o => by rw [World.frozen?_setCell]; exact h.fx o, fun o => by rw [World.frozen?_setCell]; exact h.fk o⟩
end
theorem six_set {w2 : World} {P Q : Nat} {v0 v1 v2 v3 v4 v5 u0 u1 u2 u3 u4 u5 : Value} (hPQ : P ≠ Q) (h0 : w2.cell? ⟨P, 0, none⟩ = some u0) (h1 : w2.cell? ⟨P, 1, none⟩ = some u1) (h2 : w2.cell? ⟨P, 2, none⟩ = some u2) (h3 : w2.cell? ⟨Q, 0, none⟩ = some u3) (h4 : w2.cell? ⟨Q, 1, none⟩ = some u4) (h5 : w2.cell? ⟨Q, 2, none⟩ = some u5) {W : World}
    (hW : (((((((w2.setCell ⟨P, 0, none⟩ v0).setCell ⟨P, 1, none⟩ v1).setCell ⟨P, 2, none⟩ v2).setCell ⟨Q, 0, none⟩ v3).setCell ⟨Q, 1, none⟩ v4).setCell ⟨Q, 2, none⟩ v5).drew = W)) :
    W.cell? ⟨P, 0, none⟩ = some v0 ∧ W.cell? ⟨P, 1, none⟩ = some v1 ∧ W.cell? ⟨P, 2, none⟩ = some v2 ∧ W.cell? ⟨Q, 0, none⟩ = some v3 ∧ W.cell? ⟨Q, 1, none⟩ = some v4 ∧ W.cell? ⟨Q, 2, none⟩ = some v5 := by
  subst hW
  refine ⟨?_, ?_, ?_, ?_, ?_, ?_⟩ <;> simp [go_sem, h0, h1, h2, h3, h4, h5, hPQ, Ne.symm hPQ]

set_option maxRecDepth 100000 in
set_option maxHeartbeats 2000000 in
theorem spec_SplitLayout_no (z y : Int) (A : Option Addr) (n c : Nat) (ps : List Pt) (u : Bool) (a : Int) (w : World) (h : RdP w w.heap.size A n ps) (hc : cutB z y ps u a = false) :
    Calls Try.prog 58 #[.agg #[.int .i64 z, .int .i64 y, .slice A n c], .agg #[.bool u, .int .i64 a]] w fun e w' => ∃ A1 n1 c1 A2 n2 c2, e = .returned (.tuple #[.agg #[.int .i64 (spZ1 z y ps u a), .int .i64 (spY1 z y ps u a), .slice A1 n1 c1], .agg #[.int .i64 (spZ2 z y ps u a), .int .i64 (spY2 z y ps u a), .slice A2 n2 c2], .bool (cutB z y ps u a)]) ∧ OwnP w' w.heap.size A1 n1 c1 (spL1 z y ps u a) ∧ OwnP w' w.heap.size A2 n2 c2 (spL2 z y ps u a) ∧ Ap (.slice A1 n1 c1) (.slice A2 n2 c2) ∧ Below w.heap.size w w' := by
  have hs := lt2
  have E0 := Lib.hid (show spZ1 z y ps u a = 0 from if_neg (by rw [hc]; simp))
  have E1 := Lib.hid (show spY1 z y ps u a = 0 from if_neg (by rw [hc]; simp))
  have E2 := Lib.hid (show spZ2 z y ps u a = 0 from if_neg (by rw [hc]; simp))
  have E3 := Lib.hid (show spY2 z y ps u a = 0 from if_neg (by rw [hc]; simp))
  have E4 := Lib.hid (show spL1 z y ps u a = [] from if_neg (by rw [hc]; simp))
  have E5 := Lib.hid (show spL2 z y ps u a = [] from if_neg (by rw [hc]; simp))
  have HC := Lib.hid hc
  have hle := h.le
  have H := Lib.hid h
  clear h hc
  go_enter Try.func58, Try.ntmps58
  go_wp2_with (go_at_call 95; refine (spec_IsCut _ _ _ _ _ _ _ _ _ (H.out.below' (by (repeat' (first | (with_reducible exact Below.refl _ _) | (with_reducible refine Below.setCell ?_ ?_ _) | (with_reducible refine Below.alloc ?_ ?_ _) | (with_reducible refine Below.drew ?_) | (with_reducible refine Below.drewN ?_ _) | (with_reducible refine Below.trans ?_ (Below.mono (by with_reducible assumption) ?_)) | go_size | (dsimp only; omega)))) (by go_size))).mono ?_; rintro e w1 ⟨rfl, hb1⟩; rw [HC.out]; have HB1 := Lib.hid (show Below w.heap.size w w1 by (repeat' (first | (with_reducible exact Below.refl _ _) | (with_reducible refine Below.setCell ?_ ?_ _) | (with_reducible refine Below.alloc ?_ ?_ _) | (with_reducible refine Below.drew ?_) | (with_reducible refine Below.drewN ?_ _) | (with_reducible refine Below.trans ?_ (Below.mono (by with_reducible assumption) ?_)) | go_size | (dsimp only; omega)))); have hx1 := bsize hb1; (try simp at hx1); obtain ⟨c0, f0, z0⟩ := bcell hb1 (b := w.heap.size) (by go_size); obtain ⟨c1, f1, z1⟩ := bcell hb1 (b := w.heap.size + 1) (by go_size); obtain ⟨c2, f2, z2⟩ := bcell hb1 (b := w.heap.size + 2) (by go_size); obtain ⟨c3, f3, z3⟩ := bcell hb1 (b := w.heap.size + 3) (by go_size); have w10_0 : w1.cell? ⟨w.heap.size, 0, none⟩ = some (.int .i64 z) := (c0 0).trans (by simp [go_sem]); have w10_1 : w1.cell? ⟨w.heap.size, 1, none⟩ = some (.int .i64 y) := (c0 1).trans (by simp [go_sem]); have w10_2 : w1.cell? ⟨w.heap.size, 2, none⟩ = some (.slice A n c) := (c0 2).trans (by simp [go_sem]); have w11_0 : w1.cell? ⟨w.heap.size + 1, 0, none⟩ = some (.bool u) := (c1 0).trans (by simp [go_sem]); have w11_1 : w1.cell? ⟨w.heap.size + 1, 1, none⟩ = some (.int .i64 a) := (c1 1).trans (by simp [go_sem]); have w12_0 : w1.cell? ⟨w.heap.size + 2, 0, none⟩ = some (.int .i64 0) := (c2 0).trans (by simp [go_sem]); have w12_1 : w1.cell? ⟨w.heap.size + 2, 1, none⟩ = some (.int .i64 0) := (c2 1).trans (by simp [go_sem]); have w12_2 : w1.cell? ⟨w.heap.size + 2, 2, none⟩ = some (.slice none 0 0) := (c2 2).trans (by simp [go_sem]); have w13_0 : w1.cell? ⟨w.heap.size + 3, 0, none⟩ = some (.int .i64 0) := (c3 0).trans (by simp [go_sem]); have w13_1 : w1.cell? ⟨w.heap.size + 3, 1, none⟩ = some (.int .i64 0) := (c3 1).trans (by simp [go_sem]); have w13_2 : w1.cell? ⟨w.heap.size + 3, 2, none⟩ = some (.slice none 0 0) := (c3 2).trans (by simp [go_sem]); have w1f2 : ∀ o, w1.frozen? ⟨w.heap.size + 2, o, none⟩ = false := (fun o => (f2 o).trans (by simp [go_sem])); have w1f3 : ∀ o, w1.frozen? ⟨w.heap.size + 3, o, none⟩ = false := (fun o => (f3 o).trans (by simp [go_sem])); clear hb1 c0 f0 z0 c1 f1 z1 c2 f2 z2 c3 f3 z3)
  refine bodyPost_ret (by simp [results, Try.results58, go_sem, *]; try rfl) rfl ?_
  refine ⟨none, 0, 0, none, 0, 0, by rw [E0.out, E1.out, E2.out, E3.out, HC.out], by rw [E4.out]; exact OwnG.nil_, by rw [E5.out]; exact OwnG.nil_, Ap.nil_ _, ?_⟩
  have hB1 := HB1.out
  (repeat' (first | (with_reducible exact Below.refl _ _) | (with_reducible refine Below.setCell ?_ ?_ _) | (with_reducible refine Below.alloc ?_ ?_ _) | (with_reducible refine Below.drew ?_) | (with_reducible refine Below.drewN ?_ _) | (with_reducible refine Below.trans ?_ (Below.mono (by with_reducible assumption) ?_)) | go_size | (dsimp only; omega)))
set_option maxRecDepth 100000 in
set_option maxHeartbeats 2000000 in
theorem spec_SplitLayout_true (z y : Int) (A : Option Addr) (n c : Nat) (ps : List Pt) (a : Int) (w : World) (h : RdP w w.heap.size A n ps) (hc : cutB z y ps true a = true) :
    Calls Try.prog 58 #[.agg #[.int .i64 z, .int .i64 y, .slice A n c], .agg #[.bool true, .int .i64 a]] w fun e w' => ∃ A1 n1 c1 A2 n2 c2, e = .returned (.tuple #[.agg #[.int .i64 (spZ1 z y ps true a), .int .i64 (spY1 z y ps true a), .slice A1 n1 c1], .agg #[.int .i64 (spZ2 z y ps true a), .int .i64 (spY2 z y ps true a), .slice A2 n2 c2], .bool (cutB z y ps true a)]) ∧ OwnP w' w.heap.size A1 n1 c1 (spL1 z y ps true a) ∧ OwnP w' w.heap.size A2 n2 c2 (spL2 z y ps true a) ∧ Ap (.slice A1 n1 c1) (.slice A2 n2 c2) ∧ Below w.heap.size w w' := by
  have hs := lt2
  have E0 := Lib.hid (show spZ1 z y ps true a = a from if_pos hc)
  have E1 := Lib.hid (show spY1 z y ps true a = y from if_pos hc)
  have E2 := Lib.hid (show spZ2 z y ps true a = z - a from if_pos hc)
  have E3 := Lib.hid (show spY2 z y ps true a = y from if_pos hc)
  have E4 := Lib.hid (show spL1 z y ps true a = fstL true a ps from if_pos hc)
  have E5 := Lib.hid (show spL2 z y ps true a = sndL true a ps from if_pos hc)
  have HC := Lib.hid hc
  obtain ⟨hbk, ha1, ha2⟩ := cutB_p hc
  obtain ⟨hz1', hz2', hq1', hq2', hn1', hn2'⟩ := dimOk_t (layB_p hbk).1
  have hle := h.le
  have HL := Lib.hid h.1
  have HA := Lib.hid (layB_p hbk).2.1
  have H := Lib.hid h
  rw [h.1] at hn1' hn2'
  clear h hc hbk
  go_enter Try.func58, Try.ntmps58
  go_wp2_with (go_at_call 95; refine (spec_IsCut _ _ _ _ _ _ _ _ _ (H.out.below' (by (repeat' (first | (with_reducible exact Below.refl _ _) | (with_reducible refine Below.setCell ?_ ?_ _) | (with_reducible refine Below.alloc ?_ ?_ _) | (with_reducible refine Below.drew ?_) | (with_reducible refine Below.drewN ?_ _) | (with_reducible refine Below.trans ?_ (Below.mono (by with_reducible assumption) ?_)) | go_size | (dsimp only; omega)))) (by go_size))).mono ?_; rintro e w1 ⟨rfl, hb1⟩; rw [HC.out]; have HB1 := Lib.hid (show Below w.heap.size w w1 by (repeat' (first | (with_reducible exact Below.refl _ _) | (with_reducible refine Below.setCell ?_ ?_ _) | (with_reducible refine Below.alloc ?_ ?_ _) | (with_reducible refine Below.drew ?_) | (with_reducible refine Below.drewN ?_ _) | (with_reducible refine Below.trans ?_ (Below.mono (by with_reducible assumption) ?_)) | go_size | (dsimp only; omega)))); have hx1 := bsize hb1; (try simp at hx1); obtain ⟨c0, f0, z0⟩ := bcell hb1 (b := w.heap.size) (by go_size); obtain ⟨c1, f1, z1⟩ := bcell hb1 (b := w.heap.size + 1) (by go_size); obtain ⟨c2, f2, z2⟩ := bcell hb1 (b := w.heap.size + 2) (by go_size); obtain ⟨c3, f3, z3⟩ := bcell hb1 (b := w.heap.size + 3) (by go_size); have w10_0 : w1.cell? ⟨w.heap.size, 0, none⟩ = some (.int .i64 z) := (c0 0).trans (by simp [go_sem]); have w10_1 : w1.cell? ⟨w.heap.size, 1, none⟩ = some (.int .i64 y) := (c0 1).trans (by simp [go_sem]); have w10_2 : w1.cell? ⟨w.heap.size, 2, none⟩ = some (.slice A n c) := (c0 2).trans (by simp [go_sem]); have w11_0 : w1.cell? ⟨w.heap.size + 1, 0, none⟩ = some (.bool true) := (c1 0).trans (by simp [go_sem]); have w11_1 : w1.cell? ⟨w.heap.size + 1, 1, none⟩ = some (.int .i64 a) := (c1 1).trans (by simp [go_sem]); have w12_0 : w1.cell? ⟨w.heap.size + 2, 0, none⟩ = some (.int .i64 0) := (c2 0).trans (by simp [go_sem]); have w12_1 : w1.cell? ⟨w.heap.size + 2, 1, none⟩ = some (.int .i64 0) := (c2 1).trans (by simp [go_sem]); have w12_2 : w1.cell? ⟨w.heap.size + 2, 2, none⟩ = some (.slice none 0 0) := (c2 2).trans (by simp [go_sem]); have w13_0 : w1.cell? ⟨w.heap.size + 3, 0, none⟩ = some (.int .i64 0) := (c3 0).trans (by simp [go_sem]); have w13_1 : w1.cell? ⟨w.heap.size + 3, 1, none⟩ = some (.int .i64 0) := (c3 1).trans (by simp [go_sem]); have w13_2 : w1.cell? ⟨w.heap.size + 3, 2, none⟩ = some (.slice none 0 0) := (c3 2).trans (by simp [go_sem]); have w1f2 : ∀ o, w1.frozen? ⟨w.heap.size + 2, o, none⟩ = false := (fun o => (f2 o).trans (by simp [go_sem])); have w1f3 : ∀ o, w1.frozen? ⟨w.heap.size + 3, o, none⟩ = false := (fun o => (f3 o).trans (by simp [go_sem])); have zz0 : w.heap.size < w1.heap.size + 1 := (by omega); have zz1 : w.heap.size + 1 < w1.heap.size + 1 := (by omega); have zz2 : w.heap.size + 2 < w1.heap.size + 1 := (by omega); have zz3 : w.heap.size + 3 < w1.heap.size + 1 := (by omega); clear hb1 c0 f0 c1 f1 c2 f2 c3 f3)
  have hxw : w.heap.size + 3 < w1.heap.size := by omega
  clear hx1 z0 z1 z2 z3 zz0 zz1 zz2 zz3
  go_loopw [9] (fun i wr => ∃ (k n1 c1 n2 c2 : Nat) (A1 A2 : Option Addr), k ≤ n ∧ n1 ≤ k ∧ n2 ≤ k ∧ i = .int .i64 k ∧ w1.heap.size + 1 < wr.heap.size ∧ Hid (Pair2 wr w1.heap.size (w1.heap.size + 1) a y A1 n1 c1 (z - a) y A2 n2 c2) ∧ Hid (Rows4 wr (w1.heap.size + 2) A1 n1 c1 A2 n2 c2 none 0 0 none 0 0 (fstL true a (ps.take k)) (sndL true a (ps.take k)) [] []) ∧ Hid (Below w1.heap.size w1 wr)) (fun i _ => n - (intOf i).toNat)
  case atStart =>
    refine ⟨0, 0, 0, 0, 0, none, none, by omega, by omega, by omega, rfl, by simp, ⟨by simp [go_sem], by simp [go_sem], by simp [go_sem], by simp [go_sem], by simp [go_sem], by simp [go_sem], fun o => by simp [go_sem], fun o => by simp [go_sem]⟩, ?_, ?_⟩
    · exact ⟨OwnG.nil_, OwnG.nil_, ⟨by omega, World.ownsRow_nil _ _ _ 1⟩, ⟨by omega, World.ownsRow_nil _ _ _ 1⟩, Ap.nil_ _, Ap.nil_ _, Ap.nil_ _, Ap.nil_ _, Ap.nil_ _, Ap.nil_ _⟩
    · show Below _ _ _
      (repeat' (first | (with_reducible exact Below.refl _ _) | (with_reducible refine Below.setCell ?_ ?_ _) | (with_reducible refine Below.alloc ?_ ?_ _) | (with_reducible refine Below.drew ?_) | (with_reducible refine Below.drewN ?_ _) | (with_reducible refine Below.trans ?_ (Below.mono (by with_reducible assumption) ?_)) | go_size | (dsimp only; omega)))
  case round =>
    obtain ⟨k, n1, c1, n2, c2, A1, A2, hk, hm1, hm2, rfl, hwr, hpr, hro, hb⟩ := hrel
    have p2 : wr.cell? ⟨w.heap.size, 2, none⟩ = some (.slice A n c) := (hb.out.cell (p := ⟨w.heap.size, 2, none⟩) (by dsimp only; omega)).trans w10_2
    have q0 : wr.cell? ⟨w.heap.size + 1, 0, none⟩ = some (.bool true) := (hb.out.cell (p := ⟨w.heap.size + 1, 0, none⟩) (by dsimp only; omega)).trans w11_0
    have q1 : wr.cell? ⟨w.heap.size + 1, 1, none⟩ = some (.int .i64 a) := (hb.out.cell (p := ⟨w.heap.size + 1, 1, none⟩) (by dsimp only; omega)).trans w11_1
    have HRD := Lib.hid (H.out.below' (HB1.out.trans (hb.out.mono (by omega))) (show w.heap.size ≤ wr.heap.size by omega))
    have hzr : w.heap.size < wr.heap.size := by omega
    have hzr1 : w.heap.size + 1 < wr.heap.size := by omega
    by_cases hlt : k < n
    · obtain ⟨g, off, rfl, d0, d1, d2, d3, d4⟩ := RdP.at5 HRD.out hlt
      obtain ⟨a1, a2, a3, a4, a5, a6, _, _⟩ := okPt_t (HA.out k (by rw [HL.out]; exact hlt))
      have hkp : k < ps.length := by rw [HL.out]; exact hlt
      have HK := Lib.hid hkp
      clear hkp
      obtain ⟨x0, x1, x2, x3, x4, x5, fx, fk⟩ := hpr.out
      have hzw : w1.heap.size < wr.heap.size := by omega
      by_cases hq : (pith ps k).x < a
      · have HS1 := Lib.hid (fstL_t (u := true) (a := a) HK.out (show fstB true a (pith ps k) = true from decide_eq_true hq))
        have HS2 := Lib.hid (sndL_t (u := true) (a := a) HK.out (show fstB true a (pith ps k) = true from decide_eq_true hq))
        have hq2 : ¬ a ≤ (pith ps k).x := by omega
        have HB0 := Lib.hid (show Below wr.heap.size wr (wr.alloc (.cells #[.int .i64 (pith ps k).x, .int .i64 (pith ps k).y, .int .i64 (pith ps k).w, .int .i64 (pith ps k).h, .int .i64 (pith ps k).c] 34)) from ((Below.refl wr.heap.size wr).alloc (Nat.le_refl _) _))
        have HRq := Lib.hid (hro.out.next HB0.out)
        go_wp2_with (at_builtin; refine wpList_pushP' (wr.alloc (.cells #[.int .i64 (pith ps k).x, .int .i64 (pith ps k).y, .int .i64 (pith ps k).w, .int .i64 (pith ps k).h, .int .i64 (pith ps k).c] 34)) (pith ps k) rfl _ _ rfl rfl (w1.heap.size + 2) _ _ _ _ rfl HRq.out.r1 rfl (by simp) (by omega) (by simp; omega) ?_; intro g5 c5 w5 ho5 hg5 hn5; have HR5 := Lib.hid (HRq.out.push1 ho5 hg5 hn5); have HP5 := Lib.hid ((hpr.out.below HB0.out (by omega) (by omega)).grown hg5 (by simp; omega) (by simp; omega) (fun g e => by have := (HRq.out.r1.lt g e).1; omega)); obtain ⟨y0, yy1, y2, y3, y4, y5, gx, gk⟩ := HP5.out; have hx5 := hg5.size; (try simp at hx5); have HB5 := Lib.hid (show Below w1.heap.size wr w5 from (HB0.out.mono (show w1.heap.size ≤ wr.heap.size by omega)).trans ((HRq.out.r1.belowOwn hg5 (by simp; omega)).mono (by omega))); clear ho5 hg5 hn5)
        go_roundw
        case rel =>
          refine ⟨k + 1, n1 + 1, c5, n2, c2, some ⟨g5, 0, none⟩, A2, by omega, by omega, by omega, by go_num, by simp; omega, HP5.out.st1 (by omega) _ _ _, ?_, ?_⟩
          · rw [HS1.out, HS2.out]
            exact HR5.out.set_ (by dsimp only; omega) _
          · exact hb.out.trans (HB5.out.setCell (by dsimp only; omega) _)
        case measure => simp [intOf]; omega
      · have HS1 := Lib.hid (fstL_f (u := true) (a := a) HK.out (show fstB true a (pith ps k) = false from decide_eq_false hq))
        have HS2 := Lib.hid (sndL_f (u := true) (a := a) HK.out (show fstB true a (pith ps k) = false from decide_eq_false hq))
        have hq2 : a ≤ (pith ps k).x := by omega
        have HB0 := Lib.hid (show Below wr.heap.size wr (wr.alloc (.cells #[.int .i64 ((pith ps k).x - a), .int .i64 (pith ps k).y, .int .i64 (pith ps k).w, .int .i64 (pith ps k).h, .int .i64 (pith ps k).c] 34)) from ((Below.refl wr.heap.size wr).alloc (Nat.le_refl _) _))
        have HRq := Lib.hid (hro.out.next HB0.out)
        go_wp2_with (at_builtin; refine wpList_pushP' (wr.alloc (.cells #[.int .i64 ((pith ps k).x - a), .int .i64 (pith ps k).y, .int .i64 (pith ps k).w, .int .i64 (pith ps k).h, .int .i64 (pith ps k).c] 34)) (behP true a (pith ps k)) rfl _ _ rfl rfl (w1.heap.size + 2) _ _ _ _ rfl HRq.out.r2 rfl (by simp) (by omega) (by simp; omega) ?_; intro g5 c5 w5 ho5 hg5 hn5; have HR5 := Lib.hid (HRq.out.push2 ho5 hg5 hn5); have HP5 := Lib.hid ((hpr.out.below HB0.out (by omega) (by omega)).grown hg5 (by simp; omega) (by simp; omega) (fun g e => by have := (HRq.out.r2.lt g e).1; omega)); obtain ⟨y0, yy1, y2, y3, y4, y5, gx, gk⟩ := HP5.out; have hx5 := hg5.size; (try simp at hx5); have HB5 := Lib.hid (show Below w1.heap.size wr w5 from (HB0.out.mono (show w1.heap.size ≤ wr.heap.size by omega)).trans ((HRq.out.r2.belowOwn hg5 (by simp; omega)).mono (by omega))); clear ho5 hg5 hn5)
        go_roundw
        case rel =>
          refine ⟨k + 1, n1, c1, n2 + 1, c5, A1, some ⟨g5, 0, none⟩, by omega, by omega, by omega, by go_num, by simp; omega, HP5.out.st2 (by omega) _ _ _, ?_, ?_⟩
          · rw [HS1.out, HS2.out]
            exact HR5.out.set_ (by dsimp only; omega) _
          · exact hb.out.trans (HB5.out.setCell (by dsimp only; omega) _)
        case measure => simp [intOf]; omega
    · obtain rfl : k = n := by omega
      have hzr2 : w.heap.size + 2 < wr.heap.size := by omega
      have hzr3 : w.heap.size + 3 < wr.heap.size := by omega
      have b2_0 : wr.cell? ⟨w.heap.size + 2, 0, none⟩ = some (.int .i64 0) := (hb.out.cell (p := ⟨w.heap.size + 2, 0, none⟩) (by dsimp only; omega)).trans w12_0
      have b2_1 : wr.cell? ⟨w.heap.size + 2, 1, none⟩ = some (.int .i64 0) := (hb.out.cell (p := ⟨w.heap.size + 2, 1, none⟩) (by dsimp only; omega)).trans w12_1
      have b2_2 : wr.cell? ⟨w.heap.size + 2, 2, none⟩ = some (.slice none 0 0) := (hb.out.cell (p := ⟨w.heap.size + 2, 2, none⟩) (by dsimp only; omega)).trans w12_2
      have b3_0 : wr.cell? ⟨w.heap.size + 3, 0, none⟩ = some (.int .i64 0) := (hb.out.cell (p := ⟨w.heap.size + 3, 0, none⟩) (by dsimp only; omega)).trans w13_0
      have b3_1 : wr.cell? ⟨w.heap.size + 3, 1, none⟩ = some (.int .i64 0) := (hb.out.cell (p := ⟨w.heap.size + 3, 1, none⟩) (by dsimp only; omega)).trans w13_1
      have b3_2 : wr.cell? ⟨w.heap.size + 3, 2, none⟩ = some (.slice none 0 0) := (hb.out.cell (p := ⟨w.heap.size + 3, 2, none⟩) (by dsimp only; omega)).trans w13_2
      have rf2 : ∀ o, wr.frozen? ⟨w.heap.size + 2, o, none⟩ = false := fun o => (hb.out.frozen (p := ⟨w.heap.size + 2, o, none⟩) (by dsimp only; omega)).trans (w1f2 o)
      have rf3 : ∀ o, wr.frozen? ⟨w.heap.size + 3, o, none⟩ = false := fun o => (hb.out.frozen (p := ⟨w.heap.size + 3, o, none⟩) (by dsimp only; omega)).trans (w1f3 o)
      obtain ⟨x0, x1, x2, x3, x4, x5, fx, fk⟩ := hpr.out
      clear w10_0 w10_1 w10_2 w11_0 w11_1 w12_0 w12_1 w12_2 w13_0 w13_1 w13_2 w1f2 w1f3 fx fk
      go_wp2
      go_region
      generalize hW : World.drew _ = W
      have HBW := Lib.hid (show Below w.heap.size w W by
        rw [← hW]
        have hB2 : Below w.heap.size w wr := HB1.out.trans (hb.out.mono (by omega))
        (repeat' (first | (with_reducible exact Below.refl _ _) | (with_reducible refine Below.setCell ?_ ?_ _) | (with_reducible refine Below.alloc ?_ ?_ _) | (with_reducible refine Below.drew ?_) | (with_reducible refine Below.drewN ?_ _) | (with_reducible refine Below.trans ?_ (Below.mono (by with_reducible assumption) ?_)) | go_size | (dsimp only; omega))))
      have hr := hro.out
      rw [show ps.take k = ps from by rw [← HL.out]; exact List.take_length] at hr
      have HR := Lib.hid hr
      clear hr
      have HO1 := Lib.hid (show OwnP W w.heap.size A1 n1 c1 (spL1 z y ps true a) by
        rw [E4.out, ← hW]
        refine OwnG.base (B := w1.heap.size + 2) ?_ (by omega)
        repeat' (first | (with_reducible exact HR.out.r1) | (with_reducible refine OwnG.drew_ ?_) | (with_reducible refine OwnG.set_ ?_ (by dsimp only; omega) _)))
      have HO2 := Lib.hid (show OwnP W w.heap.size A2 n2 c2 (spL2 z y ps true a) by
        rw [E5.out, ← hW]
        refine OwnG.base (B := w1.heap.size + 2) ?_ (by omega)
        repeat' (first | (with_reducible exact HR.out.r2) | (with_reducible refine OwnG.drew_ ?_) | (with_reducible refine OwnG.set_ ?_ (by dsimp only; omega) _)))
      obtain ⟨r0, r1, r2, r3, r4, r5⟩ := six_set (P := w.heap.size + 2) (Q := w.heap.size + 3) (by omega) b2_0 b2_1 b2_2 b3_0 b3_1 b3_2 hW
      clear hW b2_0 b2_1 b2_2 b3_0 b3_1 b3_2 rf2 rf3 x0 x1 x2 x3 x4 x5 p2 q0 q1
      go_wp2
      refine bodyPost_ret (by simp [results, Try.results58, go_sem, r0, r1, r2, r3, r4, r5]; try rfl) rfl ?_
      exact ⟨A1, n1, c1, A2, n2, c2, by rw [E0.out, E1.out, E2.out, E3.out, HC.out], HO1.out, HO2.out, HR.out.a12, HBW.out⟩
set_option maxRecDepth 100000 in
set_option maxHeartbeats 2000000 in
theorem spec_SplitLayout_false (z y : Int) (A : Option Addr) (n c : Nat) (ps : List Pt) (a : Int) (w : World) (h : RdP w w.heap.size A n ps) (hc : cutB z y ps false a = true) :
    Calls Try.prog 58 #[.agg #[.int .i64 z, .int .i64 y, .slice A n c], .agg #[.bool false, .int .i64 a]] w fun e w' => ∃ A1 n1 c1 A2 n2 c2, e = .returned (.tuple #[.agg #[.int .i64 (spZ1 z y ps false a), .int .i64 (spY1 z y ps false a), .slice A1 n1 c1], .agg #[.int .i64 (spZ2 z y ps false a), .int .i64 (spY2 z y ps false a), .slice A2 n2 c2], .bool (cutB z y ps false a)]) ∧ OwnP w' w.heap.size A1 n1 c1 (spL1 z y ps false a) ∧ OwnP w' w.heap.size A2 n2 c2 (spL2 z y ps false a) ∧ Ap (.slice A1 n1 c1) (.slice A2 n2 c2) ∧ Below w.heap.size w w' := by
  have hs := lt2
  have E0 := Lib.hid (show spZ1 z y ps false a = z from if_pos hc)
  have E1 := Lib.hid (show spY1 z y ps false a = a from if_pos hc)
  have E2 := Lib.hid (show spZ2 z y ps false a = z from if_pos hc)
  have E3 := Lib.hid (show spY2 z y ps false a = y - a from if_pos hc)
  have E4 := Lib.hid (show spL1 z y ps false a = fstL false a ps from if_pos hc)
  have E5 := Lib.hid (show spL2 z y ps false a = sndL false a ps from if_pos hc)
  have HC := Lib.hid hc
  obtain ⟨hbk, ha1, ha2⟩ := cutB_p hc
  obtain ⟨hz1', hz2', hq1', hq2', hn1', hn2'⟩ := dimOk_t (layB_p hbk).1
  have hle := h.le
  have HL := Lib.hid h.1
  have HA := Lib.hid (layB_p hbk).2.1
  have H := Lib.hid h
  rw [h.1] at hn1' hn2'
  clear h hc hbk
  go_enter Try.func58, Try.ntmps58
  go_wp2_with (go_at_call 95; refine (spec_IsCut _ _ _ _ _ _ _ _ _ (H.out.below' (by (repeat' (first | (with_reducible exact Below.refl _ _) | (with_reducible refine Below.setCell ?_ ?_ _) | (with_reducible refine Below.alloc ?_ ?_ _) | (with_reducible refine Below.drew ?_) | (with_reducible refine Below.drewN ?_ _) | (with_reducible refine Below.trans ?_ (Below.mono (by with_reducible assumption) ?_)) | go_size | (dsimp only; omega)))) (by go_size))).mono ?_; rintro e w1 ⟨rfl, hb1⟩; rw [HC.out]; have HB1 := Lib.hid (show Below w.heap.size w w1 by (repeat' (first | (with_reducible exact Below.refl _ _) | (with_reducible refine Below.setCell ?_ ?_ _) | (with_reducible refine Below.alloc ?_ ?_ _) | (with_reducible refine Below.drew ?_) | (with_reducible refine Below.drewN ?_ _) | (with_reducible refine Below.trans ?_ (Below.mono (by with_reducible assumption) ?_)) | go_size | (dsimp only; omega)))); have hx1 := bsize hb1; (try simp at hx1); obtain ⟨c0, f0, z0⟩ := bcell hb1 (b := w.heap.size) (by go_size); obtain ⟨c1, f1, z1⟩ := bcell hb1 (b := w.heap.size + 1) (by go_size); obtain ⟨c2, f2, z2⟩ := bcell hb1 (b := w.heap.size + 2) (by go_size); obtain ⟨c3, f3, z3⟩ := bcell hb1 (b := w.heap.size + 3) (by go_size); have w10_0 : w1.cell? ⟨w.heap.size, 0, none⟩ = some (.int .i64 z) := (c0 0).trans (by simp [go_sem]); have w10_1 : w1.cell? ⟨w.heap.size, 1, none⟩ = some (.int .i64 y) := (c0 1).trans (by simp [go_sem]); have w10_2 : w1.cell? ⟨w.heap.size, 2, none⟩ = some (.slice A n c) := (c0 2).trans (by simp [go_sem]); have w11_0 : w1.cell? ⟨w.heap.size + 1, 0, none⟩ = some (.bool false) := (c1 0).trans (by simp [go_sem]); have w11_1 : w1.cell? ⟨w.heap.size + 1, 1, none⟩ = some (.int .i64 a) := (c1 1).trans (by simp [go_sem]); have w12_0 : w1.cell? ⟨w.heap.size + 2, 0, none⟩ = some (.int .i64 0) := (c2 0).trans (by simp [go_sem]); have w12_1 : w1.cell? ⟨w.heap.size + 2, 1, none⟩ = some (.int .i64 0) := (c2 1).trans (by simp [go_sem]); have w12_2 : w1.cell? ⟨w.heap.size + 2, 2, none⟩ = some (.slice none 0 0) := (c2 2).trans (by simp [go_sem]); have w13_0 : w1.cell? ⟨w.heap.size + 3, 0, none⟩ = some (.int .i64 0) := (c3 0).trans (by simp [go_sem]); have w13_1 : w1.cell? ⟨w.heap.size + 3, 1, none⟩ = some (.int .i64 0) := (c3 1).trans (by simp [go_sem]); have w13_2 : w1.cell? ⟨w.heap.size + 3, 2, none⟩ = some (.slice none 0 0) := (c3 2).trans (by simp [go_sem]); have w1f2 : ∀ o, w1.frozen? ⟨w.heap.size + 2, o, none⟩ = false := (fun o => (f2 o).trans (by simp [go_sem])); have w1f3 : ∀ o, w1.frozen? ⟨w.heap.size + 3, o, none⟩ = false := (fun o => (f3 o).trans (by simp [go_sem])); have zz0 : w.heap.size < w1.heap.size + 1 := (by omega); have zz1 : w.heap.size + 1 < w1.heap.size + 1 := (by omega); have zz2 : w.heap.size + 2 < w1.heap.size + 1 := (by omega); have zz3 : w.heap.size + 3 < w1.heap.size + 1 := (by omega); clear hb1 c0 f0 c1 f1 c2 f2 c3 f3)
  have hxw : w.heap.size + 3 < w1.heap.size := by omega
  clear hx1 z0 z1 z2 z3 zz0 zz1 zz2 zz3
  go_loopw [9] (fun i wr => ∃ (k n1 c1 n2 c2 : Nat) (A1 A2 : Option Addr), k ≤ n ∧ n1 ≤ k ∧ n2 ≤ k ∧ i = .int .i64 k ∧ w1.heap.size + 1 < wr.heap.size ∧ Hid (Pair2 wr w1.heap.size (w1.heap.size + 1) z a A1 n1 c1 z (y - a) A2 n2 c2) ∧ Hid (Rows4 wr (w1.heap.size + 2) A1 n1 c1 A2 n2 c2 none 0 0 none 0 0 (fstL false a (ps.take k)) (sndL false a (ps.take k)) [] []) ∧ Hid (Below w1.heap.size w1 wr)) (fun i _ => n - (intOf i).toNat)
  case atStart =>
    refine ⟨0, 0, 0, 0, 0, none, none, by omega, by omega, by omega, rfl, by simp, ⟨by simp [go_sem], by simp [go_sem], by simp [go_sem], by simp [go_sem], by simp [go_sem], by simp [go_sem], fun o => by simp [go_sem], fun o => by simp [go_sem]⟩, ?_, ?_⟩
    · exact ⟨OwnG.nil_, OwnG.nil_, ⟨by omega, World.ownsRow_nil _ _ _ 1⟩, ⟨by omega, World.ownsRow_nil _ _ _ 1⟩, Ap.nil_ _, Ap.nil_ _, Ap.nil_ _, Ap.nil_ _, Ap.nil_ _, Ap.nil_ _⟩
    · show Below _ _ _
      (repeat' (first | (with_reducible exact Below.refl _ _) | (with_reducible refine Below.setCell ?_ ?_ _) | (with_reducible refine Below.alloc ?_ ?_ _) | (with_reducible refine Below.drew ?_) | (with_reducible refine Below.drewN ?_ _) | (with_reducible refine Below.trans ?_ (Below.mono (by with_reducible assumption) ?_)) | go_size | (dsimp only; omega)))
  case round =>
    obtain ⟨k, n1, c1, n2, c2, A1, A2, hk, hm1, hm2, rfl, hwr, hpr, hro, hb⟩ := hrel
    have p2 : wr.cell? ⟨w.heap.size, 2, none⟩ = some (.slice A n c) := (hb.out.cell (p := ⟨w.heap.size, 2, none⟩) (by dsimp only; omega)).trans w10_2
    have q0 : wr.cell? ⟨w.heap.size + 1, 0, none⟩ = some (.bool false) := (hb.out.cell (p := ⟨w.heap.size + 1, 0, none⟩) (by dsimp only; omega)).trans w11_0
    have q1 : wr.cell? ⟨w.heap.size + 1, 1, none⟩ = some (.int .i64 a) := (hb.out.cell (p := ⟨w.heap.size + 1, 1, none⟩) (by dsimp only; omega)).trans w11_1
    have HRD := Lib.hid (H.out.below' (HB1.out.trans (hb.out.mono (by omega))) (show w.heap.size ≤ wr.heap.size by omega))
    have hzr : w.heap.size < wr.heap.size := by omega
    have hzr1 : w.heap.size + 1 < wr.heap.size := by omega
    by_cases hlt : k < n
    · obtain ⟨g, off, rfl, d0, d1, d2, d3, d4⟩ := RdP.at5 HRD.out hlt
      obtain ⟨a1, a2, a3, a4, a5, a6, _, _⟩ := okPt_t (HA.out k (by rw [HL.out]; exact hlt))
      have hkp : k < ps.length := by rw [HL.out]; exact hlt
      have HK := Lib.hid hkp
      clear hkp
      obtain ⟨x0, x1, x2, x3, x4, x5, fx, fk⟩ := hpr.out
      have hzw : w1.heap.size < wr.heap.size := by omega
      by_cases hq : (pith ps k).y < a
      · have HS1 := Lib.hid (fstL_t (u := false) (a := a) HK.out (show fstB false a (pith ps k) = true from decide_eq_true hq))
        have HS2 := Lib.hid (sndL_t (u := false) (a := a) HK.out (show fstB false a (pith ps k) = true from decide_eq_true hq))
        have hq2 : ¬ a ≤ (pith ps k).y := by omega
        have HB0 := Lib.hid (show Below wr.heap.size wr (wr.alloc (.cells #[.int .i64 (pith ps k).x, .int .i64 (pith ps k).y, .int .i64 (pith ps k).w, .int .i64 (pith ps k).h, .int .i64 (pith ps k).c] 34)) from ((Below.refl wr.heap.size wr).alloc (Nat.le_refl _) _))
        have HRq := Lib.hid (hro.out.next HB0.out)
        go_wp2_with (at_builtin; refine wpList_pushP' (wr.alloc (.cells #[.int .i64 (pith ps k).x, .int .i64 (pith ps k).y, .int .i64 (pith ps k).w, .int .i64 (pith ps k).h, .int .i64 (pith ps k).c] 34)) (pith ps k) rfl _ _ rfl rfl (w1.heap.size + 2) _ _ _ _ rfl HRq.out.r1 rfl (by simp) (by omega) (by simp; omega) ?_; intro g5 c5 w5 ho5 hg5 hn5; have HR5 := Lib.hid (HRq.out.push1 ho5 hg5 hn5); have HP5 := Lib.hid ((hpr.out.below HB0.out (by omega) (by omega)).grown hg5 (by simp; omega) (by simp; omega) (fun g e => by have := (HRq.out.r1.lt g e).1; omega)); obtain ⟨y0, yy1, y2, y3, y4, y5, gx, gk⟩ := HP5.out; have hx5 := hg5.size; (try simp at hx5); have HB5 := Lib.hid (show Below w1.heap.size wr w5 from (HB0.out.mono (show w1.heap.size ≤ wr.heap.size by omega)).trans ((HRq.out.r1.belowOwn hg5 (by simp; omega)).mono (by omega))); clear ho5 hg5 hn5)
        go_roundw
        case rel =>
          refine ⟨k + 1, n1 + 1, c5, n2, c2, some ⟨g5, 0, none⟩, A2, by omega, by omega, by omega, by go_num, by simp; omega, HP5.out.st1 (by omega) _ _ _, ?_, ?_⟩
          · rw [HS1.out, HS2.out]
            exact HR5.out.set_ (by dsimp only; omega) _
          · exact hb.out.trans (HB5.out.setCell (by dsimp only; omega) _)
        case measure => simp [intOf]; omega
      · have HS1 := Lib.hid (fstL_f (u := false) (a := a) HK.out (show fstB false a (pith ps k) = false from decide_eq_false hq))
        have HS2 := Lib.hid (sndL_f (u := false) (a := a) HK.out (show fstB false a (pith ps k) = false from decide_eq_false hq))
        have hq2 : a ≤ (pith ps k).y := by omega
        have HB0 := Lib.hid (show Below wr.heap.size wr (wr.alloc (.cells #[.int .i64 (pith ps k).x, .int .i64 ((pith ps k).y - a), .int .i64 (pith ps k).w, .int .i64 (pith ps k).h, .int .i64 (pith ps k).c] 34)) from ((Below.refl wr.heap.size wr).alloc (Nat.le_refl _) _))
        have HRq := Lib.hid (hro.out.next HB0.out)
        go_wp2_with (at_builtin; refine wpList_pushP' (wr.alloc (.cells #[.int .i64 (pith ps k).x, .int .i64 ((pith ps k).y - a), .int .i64 (pith ps k).w, .int .i64 (pith ps k).h, .int .i64 (pith ps k).c] 34)) (behP false a (pith ps k)) rfl _ _ rfl rfl (w1.heap.size + 2) _ _ _ _ rfl HRq.out.r2 rfl (by simp) (by omega) (by simp; omega) ?_; intro g5 c5 w5 ho5 hg5 hn5; have HR5 := Lib.hid (HRq.out.push2 ho5 hg5 hn5); have HP5 := Lib.hid ((hpr.out.below HB0.out (by omega) (by omega)).grown hg5 (by simp; omega) (by simp; omega) (fun g e => by have := (HRq.out.r2.lt g e).1; omega)); obtain ⟨y0, yy1, y2, y3, y4, y5, gx, gk⟩ := HP5.out; have hx5 := hg5.size; (try simp at hx5); have HB5 := Lib.hid (show Below w1.heap.size wr w5 from (HB0.out.mono (show w1.heap.size ≤ wr.heap.size by omega)).trans ((HRq.out.r2.belowOwn hg5 (by simp; omega)).mono (by omega))); clear ho5 hg5 hn5)
        go_roundw
        case rel =>
          refine ⟨k + 1, n1, c1, n2 + 1, c5, A1, some ⟨g5, 0, none⟩, by omega, by omega, by omega, by go_num, by simp; omega, HP5.out.st2 (by omega) _ _ _, ?_, ?_⟩
          · rw [HS1.out, HS2.out]
            exact HR5.out.set_ (by dsimp only; omega) _
          · exact hb.out.trans (HB5.out.setCell (by dsimp only; omega) _)
        case measure => simp [intOf]; omega
    · obtain rfl : k = n := by omega
      have hzr2 : w.heap.size + 2 < wr.heap.size := by omega
      have hzr3 : w.heap.size + 3 < wr.heap.size := by omega
      have b2_0 : wr.cell? ⟨w.heap.size + 2, 0, none⟩ = some (.int .i64 0) := (hb.out.cell (p := ⟨w.heap.size + 2, 0, none⟩) (by dsimp only; omega)).trans w12_0
      have b2_1 : wr.cell? ⟨w.heap.size + 2, 1, none⟩ = some (.int .i64 0) := (hb.out.cell (p := ⟨w.heap.size + 2, 1, none⟩) (by dsimp only; omega)).trans w12_1
      have b2_2 : wr.cell? ⟨w.heap.size + 2, 2, none⟩ = some (.slice none 0 0) := (hb.out.cell (p := ⟨w.heap.size + 2, 2, none⟩) (by dsimp only; omega)).trans w12_2
      have b3_0 : wr.cell? ⟨w.heap.size + 3, 0, none⟩ = some (.int .i64 0) := (hb.out.cell (p := ⟨w.heap.size + 3, 0, none⟩) (by dsimp only; omega)).trans w13_0
      have b3_1 : wr.cell? ⟨w.heap.size + 3, 1, none⟩ = some (.int .i64 0) := (hb.out.cell (p := ⟨w.heap.size + 3, 1, none⟩) (by dsimp only; omega)).trans w13_1
      have b3_2 : wr.cell? ⟨w.heap.size + 3, 2, none⟩ = some (.slice none 0 0) := (hb.out.cell (p := ⟨w.heap.size + 3, 2, none⟩) (by dsimp only; omega)).trans w13_2
      have rf2 : ∀ o, wr.frozen? ⟨w.heap.size + 2, o, none⟩ = false := fun o => (hb.out.frozen (p := ⟨w.heap.size + 2, o, none⟩) (by dsimp only; omega)).trans (w1f2 o)
      have rf3 : ∀ o, wr.frozen? ⟨w.heap.size + 3, o, none⟩ = false := fun o => (hb.out.frozen (p := ⟨w.heap.size + 3, o, none⟩) (by dsimp only; omega)).trans (w1f3 o)
      obtain ⟨x0, x1, x2, x3, x4, x5, fx, fk⟩ := hpr.out
      clear w10_0 w10_1 w10_2 w11_0 w11_1 w12_0 w12_1 w12_2 w13_0 w13_1 w13_2 w1f2 w1f3 fx fk
      go_wp2
      go_region
      generalize hW : World.drew _ = W
      have HBW := Lib.hid (show Below w.heap.size w W by
        rw [← hW]
        have hB2 : Below w.heap.size w wr := HB1.out.trans (hb.out.mono (by omega))
        (repeat' (first | (with_reducible exact Below.refl _ _) | (with_reducible refine Below.setCell ?_ ?_ _) | (with_reducible refine Below.alloc ?_ ?_ _) | (with_reducible refine Below.drew ?_) | (with_reducible refine Below.drewN ?_ _) | (with_reducible refine Below.trans ?_ (Below.mono (by with_reducible assumption) ?_)) | go_size | (dsimp only; omega))))
      have hr := hro.out
      rw [show ps.take k = ps from by rw [← HL.out]; exact List.take_length] at hr
      have HR := Lib.hid hr
      clear hr
      have HO1 := Lib.hid (show OwnP W w.heap.size A1 n1 c1 (spL1 z y ps false a) by
        rw [E4.out, ← hW]
        refine OwnG.base (B := w1.heap.size + 2) ?_ (by omega)
        repeat' (first | (with_reducible exact HR.out.r1) | (with_reducible refine OwnG.drew_ ?_) | (with_reducible refine OwnG.set_ ?_ (by dsimp only; omega) _)))
      have HO2 := Lib.hid (show OwnP W w.heap.size A2 n2 c2 (spL2 z y ps false a) by
        rw [E5.out, ← hW]
        refine OwnG.base (B := w1.heap.size + 2) ?_ (by omega)
        repeat' (first | (with_reducible exact HR.out.r2) | (with_reducible refine OwnG.drew_ ?_) | (with_reducible refine OwnG.set_ ?_ (by dsimp only; omega) _)))
      obtain ⟨r0, r1, r2, r3, r4, r5⟩ := six_set (P := w.heap.size + 2) (Q := w.heap.size + 3) (by omega) b2_0 b2_1 b2_2 b3_0 b3_1 b3_2 hW
      clear hW b2_0 b2_1 b2_2 b3_0 b3_1 b3_2 rf2 rf3 x0 x1 x2 x3 x4 x5 p2 q0 q1
      go_wp2
      refine bodyPost_ret (by simp [results, Try.results58, go_sem, r0, r1, r2, r3, r4, r5]; try rfl) rfl ?_
      exact ⟨A1, n1, c1, A2, n2, c2, by rw [E0.out, E1.out, E2.out, E3.out, HC.out], HO1.out, HO2.out, HR.out.a12, HBW.out⟩
set_option maxRecDepth 100000 in
set_option maxHeartbeats 2000000 in
theorem spec_SplitLayout (z y : Int) (A : Option Addr) (n c : Nat) (ps : List Pt) (u : Bool) (a : Int) (w : World) (h : RdP w w.heap.size A n ps) :
    Calls Try.prog 58 #[.agg #[.int .i64 z, .int .i64 y, .slice A n c], .agg #[.bool u, .int .i64 a]] w fun e w' => ∃ A1 n1 c1 A2 n2 c2, e = .returned (.tuple #[.agg #[.int .i64 (spZ1 z y ps u a), .int .i64 (spY1 z y ps u a), .slice A1 n1 c1], .agg #[.int .i64 (spZ2 z y ps u a), .int .i64 (spY2 z y ps u a), .slice A2 n2 c2], .bool (cutB z y ps u a)]) ∧ OwnP w' w.heap.size A1 n1 c1 (spL1 z y ps u a) ∧ OwnP w' w.heap.size A2 n2 c2 (spL2 z y ps u a) ∧ Ap (.slice A1 n1 c1) (.slice A2 n2 c2) ∧ Below w.heap.size w w' := by
  cases hc : cutB z y ps u a with
  | false => rw [← hc]; exact spec_SplitLayout_no z y A n c ps u a w h hc
  | true =>
    rw [← hc]
    cases u with
    | true => exact spec_SplitLayout_true z y A n c ps a w h hc
    | false => exact spec_SplitLayout_false z y A n c ps a w h hc
end Go.Proofs.Ytlcllpgbpjdofaa
