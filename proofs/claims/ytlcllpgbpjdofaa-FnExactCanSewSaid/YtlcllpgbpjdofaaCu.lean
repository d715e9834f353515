/- Walks of IsCut, both sides. No condition. -/
import Derived.Test.YtlcllpgbpjdofaaSe
set_option linter.unusedSimpArgs false
set_option linter.unusedVariables false
namespace Go.Proofs.Ytlcllpgbpjdofaa
open Go.RowKit

/-- a patch lies on both sides of a line -/
def crossP (u : Bool) (a : Int) (p : Pt) : Bool := if u = true then decide (p.x < a) && decide (a < p.x + p.w) else decide (p.y < a) && decide (a < p.y + p.h)
def sideOf (u : Bool) (z y : Int) : Int := if u = true then z else y
noncomputable def cutB (z y : Int) (ps : List Pt) (u : Bool) (a : Int) : Bool := layB z y ps && (inB a 1 (sideOf u z y - 1) && ps.all (fun p => !crossP u a p))
theorem cutB_1 {z y a : Int} {ps : List Pt} {u : Bool} (h : layB z y ps = false) : cutB z y ps u a = false := by rw [cutB, h]; rfl
theorem cutB_2 {z y a : Int} {ps : List Pt} {u : Bool} (h : inB a 1 (sideOf u z y - 1) = false) : cutB z y ps u a = false := by rw [cutB, h, Bool.false_and, Bool.and_false]
theorem cutB_3 {z y a : Int} {ps : List Pt} {u : Bool} {k : Nat} (hk : k < ps.length) (h : crossP u a (pith ps k) = true) : cutB z y ps u a = false := by
  have e : ps.all (fun p => !crossP u a p) = false := by
    rw [List.all_eq_false]
    exact ⟨ps[k], List.getElem_mem hk, by rw [pith_get hk] at h; simp [h]⟩
  rw [cutB, e, Bool.and_false, Bool.and_false]
theorem cutB_t {z y a : Int} {ps : List Pt} {u : Bool} (h1 : layB z y ps = true) (h2 : inB a 1 (sideOf u z y - 1) = true) (h3 : ∀ k, k < ps.length → crossP u a (pith ps k) = false) : cutB z y ps u a = true := by
  have e : ps.all (fun p => !crossP u a p) = true := by
    rw [List.all_eq_true]
    intro p hp
    obtain ⟨k, hk, rfl⟩ := List.getElem_of_mem hp
    have := h3 k hk
    rw [pith_get hk] at this
    simp [this]
  rw [cutB, h1, h2, e]; rfl

set_option maxRecDepth 100000 in
set_option maxHeartbeats 1000000 in
theorem impl_sides_true (a : Int) (p : Pt) (w : World) (h1 : 0 ≤ p.x) (h2 : p.x ≤ 1000) (h3 : 0 ≤ p.w) (h4 : p.w ≤ 1000) :
    Calls Try.prog 117 #[.agg #[.bool true, .int .i64 a], .agg #[.int .i64 p.x, .int .i64 p.y, .int .i64 p.w, .int .i64 p.h, .int .i64 p.c]] w fun e w' => e = .returned (.tuple #[.bool (decide (p.x < a)), .bool (decide (a < p.x + p.w))]) ∧ Below w.heap.size w w' := by
  have hs := lt2
  have i3 : IntKind.i64.wrap (p.x + p.w) = p.x + p.w := IntWalk.i64_in _ (by omega)
  go_enter Try.func117, Try.ntmps117
  go_wp2
  go_quiet (fail)
  go_wp2
  go_ret2
  exact ⟨rfl, by (repeat' (first | (with_reducible exact Below.refl _ _) | (with_reducible refine Below.setCell ?_ ?_ _) | (with_reducible refine Below.alloc ?_ ?_ _) | (with_reducible refine Below.drew ?_) | (with_reducible refine Below.drewN ?_ _) | (with_reducible refine Below.trans ?_ (Below.mono (by with_reducible assumption) ?_)) | go_size | (dsimp only; omega)))⟩
set_option maxRecDepth 100000 in
set_option maxHeartbeats 2000000 in
theorem impl_IsCut_true_no (z y : Int) (A : Option Addr) (n c : Nat) (ps : List Pt) (a : Int) (w : World) (h : RdP w w.heap.size A n ps) (hbk : layB z y ps = false) :
    Calls Try.prog 97 #[.agg #[.int .i64 z, .int .i64 y, .slice A n c], .agg #[.bool true, .int .i64 a]] w fun e w' => e = .returned (.bool (cutB z y ps true a)) ∧ Below w.heap.size w w' := by
  have hs := lt2
  have HE := Lib.hid (cutB_1 (u := true) (a := a) hbk)
  have hle := h.le
  have H := Lib.hid h
  clear h
  go_enter Try.func97, Try.ntmps97
  go_wp2_with (go_at_call 19; refine (impl_LayoutOk _ _ _ _ _ _ _ (H.out.below' (by (repeat' (first | (with_reducible exact Below.refl _ _) | (with_reducible refine Below.setCell ?_ ?_ _) | (with_reducible refine Below.alloc ?_ ?_ _) | (with_reducible refine Below.drew ?_) | (with_reducible refine Below.drewN ?_ _) | (with_reducible refine Below.trans ?_ (Below.mono (by with_reducible assumption) ?_)) | go_size | (dsimp only; omega)))) (by go_size))).mono ?_; rintro e w1 ⟨rfl, hb1⟩; have hx1 := bsize hb1; (try simp at hx1); obtain ⟨hc1, hf1, hz1⟩ := bcell hb1 (b := w.heap.size) (by go_size); obtain ⟨hd1, hg1, hz1'⟩ := bcell hb1 (b := w.heap.size + 1) (by go_size); have HW := Lib.hid (show Below w.heap.size w w1 by (repeat' (first | (with_reducible exact Below.refl _ _) | (with_reducible refine Below.setCell ?_ ?_ _) | (with_reducible refine Below.alloc ?_ ?_ _) | (with_reducible refine Below.drew ?_) | (with_reducible refine Below.drewN ?_ _) | (with_reducible refine Below.trans ?_ (Below.mono (by with_reducible assumption) ?_)) | go_size | (dsimp only; omega)))); have l0 : w1.cell? ⟨w.heap.size, 0, none⟩ = some (.int .i64 z) := (hc1 0).trans (by rw [World.cell?_alloc_lt _ _ _ (by go_size), World.cell?_alloc_new]; rfl); have l1 : w1.cell? ⟨w.heap.size, 1, none⟩ = some (.int .i64 y) := (hc1 1).trans (by rw [World.cell?_alloc_lt _ _ _ (by go_size), World.cell?_alloc_new]; rfl); have l2 : w1.cell? ⟨w.heap.size, 2, none⟩ = some (.slice A n c) := (hc1 2).trans (by rw [World.cell?_alloc_lt _ _ _ (by go_size), World.cell?_alloc_new]; rfl); have m0 : w1.cell? ⟨w.heap.size + 1, 0, none⟩ = some (.bool true) := (hd1 0).trans (by simp [go_sem]); have m1 : w1.cell? ⟨w.heap.size + 1, 1, none⟩ = some (.int .i64 a) := (hd1 1).trans (by simp [go_sem]); clear hc1 hf1 hd1 hg1)
  go_ret
  exact ⟨ret_bool HE.out.symm, by (repeat' (first | (with_reducible exact Below.refl _ _) | (with_reducible refine Below.setCell ?_ ?_ _) | (with_reducible refine Below.alloc ?_ ?_ _) | (with_reducible refine Below.drew ?_) | (with_reducible refine Below.drewN ?_ _) | (with_reducible refine Below.trans ?_ (Below.mono (by with_reducible assumption) ?_)) | go_size | (dsimp only; omega)))⟩
set_option maxRecDepth 100000 in
set_option maxHeartbeats 2000000 in
theorem impl_IsCut_true_out (z y : Int) (A : Option Addr) (n c : Nat) (ps : List Pt) (a : Int) (w : World) (h : RdP w w.heap.size A n ps) (hbk : layB z y ps = true) (ha : inB a 1 (z - 1) = false) :
    Calls Try.prog 97 #[.agg #[.int .i64 z, .int .i64 y, .slice A n c], .agg #[.bool true, .int .i64 a]] w fun e w' => e = .returned (.bool (cutB z y ps true a)) ∧ Below w.heap.size w w' := by
  have hs := lt2
  have HE := Lib.hid (show cutB z y ps true a = false from cutB_2 (by exact ha))
  obtain ⟨hz1', hz2', hy1', hy2', hn1', hn2'⟩ := dimOk_t (layB_p hbk).1
  have hle := h.le
  have HL := Lib.hid h.1
  have HA := Lib.hid (layB_p hbk).2.1
  have H := Lib.hid h
  rw [h.1] at hn1' hn2'
  clear h
  by_cases h0 : a ≤ 0
  · clear ha
    go_enter Try.func97, Try.ntmps97
    go_wp2_with (go_at_call 19; refine (impl_LayoutOk _ _ _ _ _ _ _ (H.out.below' (by (repeat' (first | (with_reducible exact Below.refl _ _) | (with_reducible refine Below.setCell ?_ ?_ _) | (with_reducible refine Below.alloc ?_ ?_ _) | (with_reducible refine Below.drew ?_) | (with_reducible refine Below.drewN ?_ _) | (with_reducible refine Below.trans ?_ (Below.mono (by with_reducible assumption) ?_)) | go_size | (dsimp only; omega)))) (by go_size))).mono ?_; rintro e w1 ⟨rfl, hb1⟩; have hx1 := bsize hb1; (try simp at hx1); obtain ⟨hc1, hf1, hz1⟩ := bcell hb1 (b := w.heap.size) (by go_size); obtain ⟨hd1, hg1, hz1'⟩ := bcell hb1 (b := w.heap.size + 1) (by go_size); have HW := Lib.hid (show Below w.heap.size w w1 by (repeat' (first | (with_reducible exact Below.refl _ _) | (with_reducible refine Below.setCell ?_ ?_ _) | (with_reducible refine Below.alloc ?_ ?_ _) | (with_reducible refine Below.drew ?_) | (with_reducible refine Below.drewN ?_ _) | (with_reducible refine Below.trans ?_ (Below.mono (by with_reducible assumption) ?_)) | go_size | (dsimp only; omega)))); have l0 : w1.cell? ⟨w.heap.size, 0, none⟩ = some (.int .i64 z) := (hc1 0).trans (by rw [World.cell?_alloc_lt _ _ _ (by go_size), World.cell?_alloc_new]; rfl); have l1 : w1.cell? ⟨w.heap.size, 1, none⟩ = some (.int .i64 y) := (hc1 1).trans (by rw [World.cell?_alloc_lt _ _ _ (by go_size), World.cell?_alloc_new]; rfl); have l2 : w1.cell? ⟨w.heap.size, 2, none⟩ = some (.slice A n c) := (hc1 2).trans (by rw [World.cell?_alloc_lt _ _ _ (by go_size), World.cell?_alloc_new]; rfl); have m0 : w1.cell? ⟨w.heap.size + 1, 0, none⟩ = some (.bool true) := (hd1 0).trans (by simp [go_sem]); have m1 : w1.cell? ⟨w.heap.size + 1, 1, none⟩ = some (.int .i64 a) := (hd1 1).trans (by simp [go_sem]); clear hc1 hf1 hd1 hg1)
    go_ret
    exact ⟨ret_bool HE.out.symm, by (repeat' (first | (with_reducible exact Below.refl _ _) | (with_reducible refine Below.setCell ?_ ?_ _) | (with_reducible refine Below.alloc ?_ ?_ _) | (with_reducible refine Below.drew ?_) | (with_reducible refine Below.drewN ?_ _) | (with_reducible refine Below.trans ?_ (Below.mono (by with_reducible assumption) ?_)) | go_size | (dsimp only; omega)))⟩
  · have h1 : z ≤ a := by
      rcases Int.lt_or_le a z with h | h
      · rw [inB_t (by omega) (by omega)] at ha; cases ha
      · exact h
    clear ha
    go_enter Try.func97, Try.ntmps97
    go_wp2_with (go_at_call 19; refine (impl_LayoutOk _ _ _ _ _ _ _ (H.out.below' (by (repeat' (first | (with_reducible exact Below.refl _ _) | (with_reducible refine Below.setCell ?_ ?_ _) | (with_reducible refine Below.alloc ?_ ?_ _) | (with_reducible refine Below.drew ?_) | (with_reducible refine Below.drewN ?_ _) | (with_reducible refine Below.trans ?_ (Below.mono (by with_reducible assumption) ?_)) | go_size | (dsimp only; omega)))) (by go_size))).mono ?_; rintro e w1 ⟨rfl, hb1⟩; have hx1 := bsize hb1; (try simp at hx1); obtain ⟨hc1, hf1, hz1⟩ := bcell hb1 (b := w.heap.size) (by go_size); obtain ⟨hd1, hg1, hz1'⟩ := bcell hb1 (b := w.heap.size + 1) (by go_size); have HW := Lib.hid (show Below w.heap.size w w1 by (repeat' (first | (with_reducible exact Below.refl _ _) | (with_reducible refine Below.setCell ?_ ?_ _) | (with_reducible refine Below.alloc ?_ ?_ _) | (with_reducible refine Below.drew ?_) | (with_reducible refine Below.drewN ?_ _) | (with_reducible refine Below.trans ?_ (Below.mono (by with_reducible assumption) ?_)) | go_size | (dsimp only; omega)))); have l0 : w1.cell? ⟨w.heap.size, 0, none⟩ = some (.int .i64 z) := (hc1 0).trans (by rw [World.cell?_alloc_lt _ _ _ (by go_size), World.cell?_alloc_new]; rfl); have l1 : w1.cell? ⟨w.heap.size, 1, none⟩ = some (.int .i64 y) := (hc1 1).trans (by rw [World.cell?_alloc_lt _ _ _ (by go_size), World.cell?_alloc_new]; rfl); have l2 : w1.cell? ⟨w.heap.size, 2, none⟩ = some (.slice A n c) := (hc1 2).trans (by rw [World.cell?_alloc_lt _ _ _ (by go_size), World.cell?_alloc_new]; rfl); have m0 : w1.cell? ⟨w.heap.size + 1, 0, none⟩ = some (.bool true) := (hd1 0).trans (by simp [go_sem]); have m1 : w1.cell? ⟨w.heap.size + 1, 1, none⟩ = some (.int .i64 a) := (hd1 1).trans (by simp [go_sem]); clear hc1 hf1 hd1 hg1)
    go_ret
    exact ⟨ret_bool HE.out.symm, by (repeat' (first | (with_reducible exact Below.refl _ _) | (with_reducible refine Below.setCell ?_ ?_ _) | (with_reducible refine Below.alloc ?_ ?_ _) | (with_reducible refine Below.drew ?_) | (with_reducible refine Below.drewN ?_ _) | (with_reducible refine Below.trans ?_ (Below.mono (by with_reducible assumption) ?_)) | go_size | (dsimp only; omega)))⟩
set_option maxRecDepth 100000 in
set_option maxHeartbeats 2000000 in
theorem impl_IsCut_true_in (z y : Int) (A : Option Addr) (n c : Nat) (ps : List Pt) (a : Int) (w : World) (h : RdP w w.heap.size A n ps) (hbk : layB z y ps = true) (ha : inB a 1 (z - 1) = true) :
    Calls Try.prog 97 #[.agg #[.int .i64 z, .int .i64 y, .slice A n c], .agg #[.bool true, .int .i64 a]] w fun e w' => e = .returned (.bool (cutB z y ps true a)) ∧ Below w.heap.size w w' := by
  have hs := lt2
  have HA1 := Lib.hid (show inB a 1 (sideOf true z y - 1) = true from ha)
  have HB1 := Lib.hid hbk
  have ha' := inB_r ha
  clear ha
  obtain ⟨hz1', hz2', hy1', hy2', hn1', hn2'⟩ := dimOk_t (layB_p hbk).1
  have hle := h.le
  have HL := Lib.hid h.1
  have HA := Lib.hid (layB_p hbk).2.1
  have H := Lib.hid h
  rw [h.1] at hn1' hn2'
  clear h
  have h0 : ¬ a ≤ 0 := by omega
  have h1 : ¬ z ≤ a := by omega
  clear hbk
  go_enter Try.func97, Try.ntmps97
  go_wp2_with (go_at_call 19; refine (impl_LayoutOk _ _ _ _ _ _ _ (H.out.below' (by (repeat' (first | (with_reducible exact Below.refl _ _) | (with_reducible refine Below.setCell ?_ ?_ _) | (with_reducible refine Below.alloc ?_ ?_ _) | (with_reducible refine Below.drew ?_) | (with_reducible refine Below.drewN ?_ _) | (with_reducible refine Below.trans ?_ (Below.mono (by with_reducible assumption) ?_)) | go_size | (dsimp only; omega)))) (by go_size))).mono ?_; rintro e w1 ⟨rfl, hb1⟩; have hx1 := bsize hb1; (try simp at hx1); obtain ⟨hc1, hf1, hz1⟩ := bcell hb1 (b := w.heap.size) (by go_size); obtain ⟨hd1, hg1, hz1'⟩ := bcell hb1 (b := w.heap.size + 1) (by go_size); have HW := Lib.hid (show Below w.heap.size w w1 by (repeat' (first | (with_reducible exact Below.refl _ _) | (with_reducible refine Below.setCell ?_ ?_ _) | (with_reducible refine Below.alloc ?_ ?_ _) | (with_reducible refine Below.drew ?_) | (with_reducible refine Below.drewN ?_ _) | (with_reducible refine Below.trans ?_ (Below.mono (by with_reducible assumption) ?_)) | go_size | (dsimp only; omega)))); have l0 : w1.cell? ⟨w.heap.size, 0, none⟩ = some (.int .i64 z) := (hc1 0).trans (by rw [World.cell?_alloc_lt _ _ _ (by go_size), World.cell?_alloc_new]; rfl); have l1 : w1.cell? ⟨w.heap.size, 1, none⟩ = some (.int .i64 y) := (hc1 1).trans (by rw [World.cell?_alloc_lt _ _ _ (by go_size), World.cell?_alloc_new]; rfl); have l2 : w1.cell? ⟨w.heap.size, 2, none⟩ = some (.slice A n c) := (hc1 2).trans (by rw [World.cell?_alloc_lt _ _ _ (by go_size), World.cell?_alloc_new]; rfl); have m0 : w1.cell? ⟨w.heap.size + 1, 0, none⟩ = some (.bool true) := (hd1 0).trans (by simp [go_sem]); have m1 : w1.cell? ⟨w.heap.size + 1, 1, none⟩ = some (.int .i64 a) := (hd1 1).trans (by simp [go_sem]); clear hc1 hf1 hd1 hg1)
  have hxw : w.heap.size + 1 + 1 ≤ w1.heap.size := by omega
  clear hb1
  go_loopw [33] (fun i wr => ∃ (k : Nat), k ≤ n ∧ i = .int .i64 k ∧ Hid (∀ j, j < k → crossP true a (pith ps j) = false) ∧ Hid (Below w1.heap.size w1 wr)) (fun i _ => n - (intOf i).toNat)
  case atStart => exact ⟨0, by omega, rfl, fun j hj => absurd hj (by omega), Below.refl _ _⟩
  case round =>
    obtain ⟨k, hk, rfl, hp, hb⟩ := hrel
    have hy := hb.out.size
    have p0 : wr.cell? ⟨w.heap.size, 0, none⟩ = some (.int .i64 z) := (hb.out.cell (p := ⟨w.heap.size, 0, none⟩) (by dsimp only; omega)).trans l0
    have p1 : wr.cell? ⟨w.heap.size, 1, none⟩ = some (.int .i64 y) := (hb.out.cell (p := ⟨w.heap.size, 1, none⟩) (by dsimp only; omega)).trans l1
    have p2 : wr.cell? ⟨w.heap.size, 2, none⟩ = some (.slice A n c) := (hb.out.cell (p := ⟨w.heap.size, 2, none⟩) (by dsimp only; omega)).trans l2
    have HRD := Lib.hid (H.out.below' (HW.out.trans (hb.out.mono (by omega))) (show w.heap.size ≤ wr.heap.size by have := hb.out.size; omega))
    have q0 : wr.cell? ⟨w.heap.size + 1, 0, none⟩ = some (.bool true) := (hb.out.cell (p := ⟨w.heap.size + 1, 0, none⟩) (by dsimp only; omega)).trans m0
    have q1 : wr.cell? ⟨w.heap.size + 1, 1, none⟩ = some (.int .i64 a) := (hb.out.cell (p := ⟨w.heap.size + 1, 1, none⟩) (by dsimp only; omega)).trans m1
    have hzr : w.heap.size < wr.heap.size := by omega
    have hzs : w.heap.size + 1 < wr.heap.size := by omega
    by_cases hlt : k < n
    · obtain ⟨g, off, rfl, d0, d1, d2, d3, d4⟩ := RdP.at5 HRD.out hlt
      obtain ⟨a1, a2, a3, a4, a5, a6, _, _⟩ := okPt_t (HA.out k (by rw [HL.out]; exact hlt))
      cases t1 : decide ((pith ps k).x < a) with
      | false =>
        have HC := Lib.hid (show crossP true a (pith ps k) = false by unfold crossP; simp [t1])
        go_wp2_with (go_at_call 117; (with_reducible refine (impl_sides_true _ (pith ps k) _ ?_ ?_ ?_ ?_).mono ?_); (iterate 4 omega); rintro e w4 ⟨rfl, hb4⟩; have HB4 := Lib.hid ((hb.out.alloc (by omega) _).trans (hb4.mono (by simp; omega))); clear hb4)
        go_roundw
        case rel => exact ⟨k + 1, by omega, by go_num, step_all (P := fun j => crossP true a (pith ps j) = false) hp.out HC.out, HB4.out⟩
        case measure => simp [intOf]; omega
      | true =>
        cases t2 : decide (a < (pith ps k).x + (pith ps k).w) with
        | false =>
          have HC := Lib.hid (show crossP true a (pith ps k) = false by unfold crossP; simp [t2])
          go_wp2_with (go_at_call 117; (with_reducible refine (impl_sides_true _ (pith ps k) _ ?_ ?_ ?_ ?_).mono ?_); (iterate 4 omega); rintro e w4 ⟨rfl, hb4⟩; have HB4 := Lib.hid ((hb.out.alloc (by omega) _).trans (hb4.mono (by simp; omega))); clear hb4)
          go_roundw
          case rel => exact ⟨k + 1, by omega, by go_num, step_all (P := fun j => crossP true a (pith ps j) = false) hp.out HC.out, HB4.out⟩
          case measure => simp [intOf]; omega
        | true =>
          have HC := Lib.hid (show crossP true a (pith ps k) = true by unfold crossP; simp [t1, t2])
          go_wp2_with (go_at_call 117; (with_reducible refine (impl_sides_true _ (pith ps k) _ ?_ ?_ ?_ ?_).mono ?_); (iterate 4 omega); rintro e w4 ⟨rfl, hb4⟩; have HB4 := Lib.hid ((hb.out.alloc (by omega) _).trans (hb4.mono (by simp; omega))); clear hb4)
          go_ret
          exact ⟨ret_bool (cutB_3 (by rw [HL.out]; exact hlt) HC.out).symm, HW.out.trans (HB4.out.mono (by omega))⟩
    · go_wp2
      go_ret
      exact ⟨ret_bool (cutB_t HB1.out HA1.out (fun j hj => hp.out j (by have := HL.out; omega))).symm, HW.out.trans (hb.out.mono (by omega))⟩
set_option maxRecDepth 100000 in
set_option maxHeartbeats 1000000 in
theorem impl_sides_false (a : Int) (p : Pt) (w : World) (h1 : 0 ≤ p.y) (h2 : p.y ≤ 1000) (h3 : 0 ≤ p.h) (h4 : p.h ≤ 1000) :
    Calls Try.prog 117 #[.agg #[.bool false, .int .i64 a], .agg #[.int .i64 p.x, .int .i64 p.y, .int .i64 p.w, .int .i64 p.h, .int .i64 p.c]] w fun e w' => e = .returned (.tuple #[.bool (decide (p.y < a)), .bool (decide (a < p.y + p.h))]) ∧ Below w.heap.size w w' := by
  have hs := lt2
  have i3 : IntKind.i64.wrap (p.y + p.h) = p.y + p.h := IntWalk.i64_in _ (by omega)
  go_enter Try.func117, Try.ntmps117
  go_wp2
  go_quiet (fail)
  go_wp2
  go_ret2
  exact ⟨rfl, by (repeat' (first | (with_reducible exact Below.refl _ _) | (with_reducible refine Below.setCell ?_ ?_ _) | (with_reducible refine Below.alloc ?_ ?_ _) | (with_reducible refine Below.drew ?_) | (with_reducible refine Below.drewN ?_ _) | (with_reducible refine Below.trans ?_ (Below.mono (by with_reducible assumption) ?_)) | go_size | (dsimp only; omega)))⟩
set_option maxRecDepth 100000 in
set_option maxHeartbeats 2000000 in
theorem impl_IsCut_false_no (z y : Int) (A : Option Addr) (n c : Nat) (ps : List Pt) (a : Int) (w : World) (h : RdP w w.heap.size A n ps) (hbk : layB z y ps = false) :
    Calls Try.prog 97 #[.agg #[.int .i64 z, .int .i64 y, .slice A n c], .agg #[.bool false, .int .i64 a]] w fun e w' => e = .returned (.bool (cutB z y ps false a)) ∧ Below w.heap.size w w' := by
  have hs := lt2
  have HE := Lib.hid (cutB_1 (u := false) (a := a) hbk)
  have hle := h.le
  have H := Lib.hid h
  clear h
  go_enter Try.func97, Try.ntmps97
  go_wp2_with (go_at_call 19; refine (impl_LayoutOk _ _ _ _ _ _ _ (H.out.below' (by (repeat' (first | (with_reducible exact Below.refl _ _) | (with_reducible refine Below.setCell ?_ ?_ _) | (with_reducible refine Below.alloc ?_ ?_ _) | (with_reducible refine Below.drew ?_) | (with_reducible refine Below.drewN ?_ _) | (with_reducible refine Below.trans ?_ (Below.mono (by with_reducible assumption) ?_)) | go_size | (dsimp only; omega)))) (by go_size))).mono ?_; rintro e w1 ⟨rfl, hb1⟩; have hx1 := bsize hb1; (try simp at hx1); obtain ⟨hc1, hf1, hz1⟩ := bcell hb1 (b := w.heap.size) (by go_size); obtain ⟨hd1, hg1, hz1'⟩ := bcell hb1 (b := w.heap.size + 1) (by go_size); have HW := Lib.hid (show Below w.heap.size w w1 by (repeat' (first | (with_reducible exact Below.refl _ _) | (with_reducible refine Below.setCell ?_ ?_ _) | (with_reducible refine Below.alloc ?_ ?_ _) | (with_reducible refine Below.drew ?_) | (with_reducible refine Below.drewN ?_ _) | (with_reducible refine Below.trans ?_ (Below.mono (by with_reducible assumption) ?_)) | go_size | (dsimp only; omega)))); have l0 : w1.cell? ⟨w.heap.size, 0, none⟩ = some (.int .i64 z) := (hc1 0).trans (by rw [World.cell?_alloc_lt _ _ _ (by go_size), World.cell?_alloc_new]; rfl); have l1 : w1.cell? ⟨w.heap.size, 1, none⟩ = some (.int .i64 y) := (hc1 1).trans (by rw [World.cell?_alloc_lt _ _ _ (by go_size), World.cell?_alloc_new]; rfl); have l2 : w1.cell? ⟨w.heap.size, 2, none⟩ = some (.slice A n c) := (hc1 2).trans (by rw [World.cell?_alloc_lt _ _ _ (by go_size), World.cell?_alloc_new]; rfl); have m0 : w1.cell? ⟨w.heap.size + 1, 0, none⟩ = some (.bool false) := (hd1 0).trans (by simp [go_sem]); have m1 : w1.cell? ⟨w.heap.size + 1, 1, none⟩ = some (.int .i64 a) := (hd1 1).trans (by simp [go_sem]); clear hc1 hf1 hd1 hg1)
  go_ret
  exact ⟨ret_bool HE.out.symm, by (repeat' (first | (with_reducible exact Below.refl _ _) | (with_reducible refine Below.setCell ?_ ?_ _) | (with_reducible refine Below.alloc ?_ ?_ _) | (with_reducible refine Below.drew ?_) | (with_reducible refine Below.drewN ?_ _) | (with_reducible refine Below.trans ?_ (Below.mono (by with_reducible assumption) ?_)) | go_size | (dsimp only; omega)))⟩
set_option maxRecDepth 100000 in
set_option maxHeartbeats 2000000 in
theorem impl_IsCut_false_out (z y : Int) (A : Option Addr) (n c : Nat) (ps : List Pt) (a : Int) (w : World) (h : RdP w w.heap.size A n ps) (hbk : layB z y ps = true) (ha : inB a 1 (y - 1) = false) :
    Calls Try.prog 97 #[.agg #[.int .i64 z, .int .i64 y, .slice A n c], .agg #[.bool false, .int .i64 a]] w fun e w' => e = .returned (.bool (cutB z y ps false a)) ∧ Below w.heap.size w w' := by
  have hs := lt2
  have HE := Lib.hid (show cutB z y ps false a = false from cutB_2 (by exact ha))
  obtain ⟨hz1', hz2', hy1', hy2', hn1', hn2'⟩ := dimOk_t (layB_p hbk).1
  have hle := h.le
  have HL := Lib.hid h.1
  have HA := Lib.hid (layB_p hbk).2.1
  have H := Lib.hid h
  rw [h.1] at hn1' hn2'
  clear h
  by_cases h0 : a ≤ 0
  · clear ha
    go_enter Try.func97, Try.ntmps97
    go_wp2_with (go_at_call 19; refine (impl_LayoutOk _ _ _ _ _ _ _ (H.out.below' (by (repeat' (first | (with_reducible exact Below.refl _ _) | (with_reducible refine Below.setCell ?_ ?_ _) | (with_reducible refine Below.alloc ?_ ?_ _) | (with_reducible refine Below.drew ?_) | (with_reducible refine Below.drewN ?_ _) | (with_reducible refine Below.trans ?_ (Below.mono (by with_reducible assumption) ?_)) | go_size | (dsimp only; omega)))) (by go_size))).mono ?_; rintro e w1 ⟨rfl, hb1⟩; have hx1 := bsize hb1; (try simp at hx1); obtain ⟨hc1, hf1, hz1⟩ := bcell hb1 (b := w.heap.size) (by go_size); obtain ⟨hd1, hg1, hz1'⟩ := bcell hb1 (b := w.heap.size + 1) (by go_size); have HW := Lib.hid (show Below w.heap.size w w1 by (repeat' (first | (with_reducible exact Below.refl _ _) | (with_reducible refine Below.setCell ?_ ?_ _) | (with_reducible refine Below.alloc ?_ ?_ _) | (with_reducible refine Below.drew ?_) | (with_reducible refine Below.drewN ?_ _) | (with_reducible refine Below.trans ?_ (Below.mono (by with_reducible assumption) ?_)) | go_size | (dsimp only; omega)))); have l0 : w1.cell? ⟨w.heap.size, 0, none⟩ = some (.int .i64 z) := (hc1 0).trans (by rw [World.cell?_alloc_lt _ _ _ (by go_size), World.cell?_alloc_new]; rfl); have l1 : w1.cell? ⟨w.heap.size, 1, none⟩ = some (.int .i64 y) := (hc1 1).trans (by rw [World.cell?_alloc_lt _ _ _ (by go_size), World.cell?_alloc_new]; rfl); have l2 : w1.cell? ⟨w.heap.size, 2, none⟩ = some (.slice A n c) := (hc1 2).trans (by rw [World.cell?_alloc_lt _ _ _ (by go_size), World.cell?_alloc_new]; rfl); have m0 : w1.cell? ⟨w.heap.size + 1, 0, none⟩ = some (.bool false) := (hd1 0).trans (by simp [go_sem]); have m1 : w1.cell? ⟨w.heap.size + 1, 1, none⟩ = some (.int .i64 a) := (hd1 1).trans (by simp [go_sem]); clear hc1 hf1 hd1 hg1)
    go_ret
    exact ⟨ret_bool HE.out.symm, by (repeat' (first | (with_reducible exact Below.refl _ _) | (with_reducible refine Below.setCell ?_ ?_ _) | (with_reducible refine Below.alloc ?_ ?_ _) | (with_reducible refine Below.drew ?_) | (with_reducible refine Below.drewN ?_ _) | (with_reducible refine Below.trans ?_ (Below.mono (by with_reducible assumption) ?_)) | go_size | (dsimp only; omega)))⟩
  · have h1 : y ≤ a := by
      rcases Int.lt_or_le a y with h | h
      · rw [inB_t (by omega) (by omega)] at ha; cases ha
      · exact h
    clear ha
    go_enter Try.func97, Try.ntmps97
    go_wp2_with (go_at_call 19; refine (impl_LayoutOk _ _ _ _ _ _ _ (H.out.below' (by (repeat' (first | (with_reducible exact Below.refl _ _) | (with_reducible refine Below.setCell ?_ ?_ _) | (with_reducible refine Below.alloc ?_ ?_ _) | (with_reducible refine Below.drew ?_) | (with_reducible refine Below.drewN ?_ _) | (with_reducible refine Below.trans ?_ (Below.mono (by with_reducible assumption) ?_)) | go_size | (dsimp only; omega)))) (by go_size))).mono ?_; rintro e w1 ⟨rfl, hb1⟩; have hx1 := bsize hb1; (try simp at hx1); obtain ⟨hc1, hf1, hz1⟩ := bcell hb1 (b := w.heap.size) (by go_size); obtain ⟨hd1, hg1, hz1'⟩ := bcell hb1 (b := w.heap.size + 1) (by go_size); have HW := Lib.hid (show Below w.heap.size w w1 by (repeat' (first | (with_reducible exact Below.refl _ _) | (with_reducible refine Below.setCell ?_ ?_ _) | (with_reducible refine Below.alloc ?_ ?_ _) | (with_reducible refine Below.drew ?_) | (with_reducible refine Below.drewN ?_ _) | (with_reducible refine Below.trans ?_ (Below.mono (by with_reducible assumption) ?_)) | go_size | (dsimp only; omega)))); have l0 : w1.cell? ⟨w.heap.size, 0, none⟩ = some (.int .i64 z) := (hc1 0).trans (by rw [World.cell?_alloc_lt _ _ _ (by go_size), World.cell?_alloc_new]; rfl); have l1 : w1.cell? ⟨w.heap.size, 1, none⟩ = some (.int .i64 y) := (hc1 1).trans (by rw [World.cell?_alloc_lt _ _ _ (by go_size), World.cell?_alloc_new]; rfl); have l2 : w1.cell? ⟨w.heap.size, 2, none⟩ = some (.slice A n c) := (hc1 2).trans (by rw [World.cell?_alloc_lt _ _ _ (by go_size), World.cell?_alloc_new]; rfl); have m0 : w1.cell? ⟨w.heap.size + 1, 0, none⟩ = some (.bool false) := (hd1 0).trans (by simp [go_sem]); have m1 : w1.cell? ⟨w.heap.size + 1, 1, none⟩ = some (.int .i64 a) := (hd1 1).trans (by simp [go_sem]); clear hc1 hf1 hd1 hg1)
    go_ret
    exact ⟨ret_bool HE.out.symm, by (repeat' (first | (with_reducible exact Below.refl _ _) | (with_reducible refine Below.setCell ?_ ?_ _) | (with_reducible refine Below.alloc ?_ ?_ _) | (with_reducible refine Below.drew ?_) | (with_reducible refine Below.drewN ?_ _) | (with_reducible refine Below.trans ?_ (Below.mono (by with_reducible assumption) ?_)) | go_size | (dsimp only; omega)))⟩
set_option maxRecDepth 100000 in
set_option maxHeartbeats 2000000 in
theorem impl_IsCut_false_in (z y : Int) (A : Option Addr) (n c : Nat) (ps : List Pt) (a : Int) (w : World) (h : RdP w w.heap.size A n ps) (hbk : layB z y ps = true) (ha : inB a 1 (y - 1) = true) :
    Calls Try.prog 97 #[.agg #[.int .i64 z, .int .i64 y, .slice A n c], .agg #[.bool false, .int .i64 a]] w fun e w' => e = .returned (.bool (cutB z y ps false a)) ∧ Below w.heap.size w w' := by
  have hs := lt2
  have HA1 := Lib.hid (show inB a 1 (sideOf false z y - 1) = true from ha)
  have HB1 := Lib.hid hbk
  have ha' := inB_r ha
  clear ha
  obtain ⟨hz1', hz2', hy1', hy2', hn1', hn2'⟩ := dimOk_t (layB_p hbk).1
  have hle := h.le
  have HL := Lib.hid h.1
  have HA := Lib.hid (layB_p hbk).2.1
  have H := Lib.hid h
  rw [h.1] at hn1' hn2'
  clear h
  have h0 : ¬ a ≤ 0 := by omega
  have h1 : ¬ y ≤ a := by omega
  clear hbk
  go_enter Try.func97, Try.ntmps97
  go_wp2_with (go_at_call 19; refine (impl_LayoutOk _ _ _ _ _ _ _ (H.out.below' (by (repeat' (first | (with_reducible exact Below.refl _ _) | (with_reducible refine Below.setCell ?_ ?_ _) | (with_reducible refine Below.alloc ?_ ?_ _) | (with_reducible refine Below.drew ?_) | (with_reducible refine Below.drewN ?_ _) | (with_reducible refine Below.trans ?_ (Below.mono (by with_reducible assumption) ?_)) | go_size | (dsimp only; omega)))) (by go_size))).mono ?_; rintro e w1 ⟨rfl, hb1⟩; have hx1 := bsize hb1; (try simp at hx1); obtain ⟨hc1, hf1, hz1⟩ := bcell hb1 (b := w.heap.size) (by go_size); obtain ⟨hd1, hg1, hz1'⟩ := bcell hb1 (b := w.heap.size + 1) (by go_size); have HW := Lib.hid (show Below w.heap.size w w1 by (repeat' (first | (with_reducible exact Below.refl _ _) | (with_reducible refine Below.setCell ?_ ?_ _) | (with_reducible refine Below.alloc ?_ ?_ _) | (with_reducible refine Below.drew ?_) | (with_reducible refine Below.drewN ?_ _) | (with_reducible refine Below.trans ?_ (Below.mono (by with_reducible assumption) ?_)) | go_size | (dsimp only; omega)))); have l0 : w1.cell? ⟨w.heap.size, 0, none⟩ = some (.int .i64 z) := (hc1 0).trans (by rw [World.cell?_alloc_lt _ _ _ (by go_size), World.cell?_alloc_new]; rfl); have l1 : w1.cell? ⟨w.heap.size, 1, none⟩ = some (.int .i64 y) := (hc1 1).trans (by rw [World.cell?_alloc_lt _ _ _ (by go_size), World.cell?_alloc_new]; rfl); have l2 : w1.cell? ⟨w.heap.size, 2, none⟩ = some (.slice A n c) := (hc1 2).trans (by rw [World.cell?_alloc_lt _ _ _ (by go_size), World.cell?_alloc_new]; rfl); have m0 : w1.cell? ⟨w.heap.size + 1, 0, none⟩ = some (.bool false) := (hd1 0).trans (by simp [go_sem]); have m1 : w1.cell? ⟨w.heap.size + 1, 1, none⟩ = some (.int .i64 a) := (hd1 1).trans (by simp [go_sem]); clear hc1 hf1 hd1 hg1)
  have hxw : w.heap.size + 1 + 1 ≤ w1.heap.size := by omega
  clear hb1
  go_loopw [33] (fun i wr => ∃ (k : Nat), k ≤ n ∧ i = .int .i64 k ∧ Hid (∀ j, j < k → crossP false a (pith ps j) = false) ∧ Hid (Below w1.heap.size w1 wr)) (fun i _ => n - (intOf i).toNat)
  case atStart => exact ⟨0, by omega, rfl, fun j hj => absurd hj (by omega), Below.refl _ _⟩
  case round =>
    obtain ⟨k, hk, rfl, hp, hb⟩ := hrel
    have hy := hb.out.size
    have p0 : wr.cell? ⟨w.heap.size, 0, none⟩ = some (.int .i64 z) := (hb.out.cell (p := ⟨w.heap.size, 0, none⟩) (by dsimp only; omega)).trans l0
    have p1 : wr.cell? ⟨w.heap.size, 1, none⟩ = some (.int .i64 y) := (hb.out.cell (p := ⟨w.heap.size, 1, none⟩) (by dsimp only; omega)).trans l1
    have p2 : wr.cell? ⟨w.heap.size, 2, none⟩ = some (.slice A n c) := (hb.out.cell (p := ⟨w.heap.size, 2, none⟩) (by dsimp only; omega)).trans l2
    have HRD := Lib.hid (H.out.below' (HW.out.trans (hb.out.mono (by omega))) (show w.heap.size ≤ wr.heap.size by have := hb.out.size; omega))
    have q0 : wr.cell? ⟨w.heap.size + 1, 0, none⟩ = some (.bool false) := (hb.out.cell (p := ⟨w.heap.size + 1, 0, none⟩) (by dsimp only; omega)).trans m0
    have q1 : wr.cell? ⟨w.heap.size + 1, 1, none⟩ = some (.int .i64 a) := (hb.out.cell (p := ⟨w.heap.size + 1, 1, none⟩) (by dsimp only; omega)).trans m1
    have hzr : w.heap.size < wr.heap.size := by omega
    have hzs : w.heap.size + 1 < wr.heap.size := by omega
    by_cases hlt : k < n
    · obtain ⟨g, off, rfl, d0, d1, d2, d3, d4⟩ := RdP.at5 HRD.out hlt
      obtain ⟨a1, a2, a3, a4, a5, a6, _, _⟩ := okPt_t (HA.out k (by rw [HL.out]; exact hlt))
      cases t1 : decide ((pith ps k).y < a) with
      | false =>
        have HC := Lib.hid (show crossP false a (pith ps k) = false by unfold crossP; simp [t1])
        go_wp2_with (go_at_call 117; (with_reducible refine (impl_sides_false _ (pith ps k) _ ?_ ?_ ?_ ?_).mono ?_); (iterate 4 omega); rintro e w4 ⟨rfl, hb4⟩; have HB4 := Lib.hid ((hb.out.alloc (by omega) _).trans (hb4.mono (by simp; omega))); clear hb4)
        go_roundw
        case rel => exact ⟨k + 1, by omega, by go_num, step_all (P := fun j => crossP false a (pith ps j) = false) hp.out HC.out, HB4.out⟩
        case measure => simp [intOf]; omega
      | true =>
        cases t2 : decide (a < (pith ps k).y + (pith ps k).h) with
        | false =>
          have HC := Lib.hid (show crossP false a (pith ps k) = false by unfold crossP; simp [t2])
          go_wp2_with (go_at_call 117; (with_reducible refine (impl_sides_false _ (pith ps k) _ ?_ ?_ ?_ ?_).mono ?_); (iterate 4 omega); rintro e w4 ⟨rfl, hb4⟩; have HB4 := Lib.hid ((hb.out.alloc (by omega) _).trans (hb4.mono (by simp; omega))); clear hb4)
          go_roundw
          case rel => exact ⟨k + 1, by omega, by go_num, step_all (P := fun j => crossP false a (pith ps j) = false) hp.out HC.out, HB4.out⟩
          case measure => simp [intOf]; omega
        | true =>
          have HC := Lib.hid (show crossP false a (pith ps k) = true by unfold crossP; simp [t1, t2])
          go_wp2_with (go_at_call 117; (with_reducible refine (impl_sides_false _ (pith ps k) _ ?_ ?_ ?_ ?_).mono ?_); (iterate 4 omega); rintro e w4 ⟨rfl, hb4⟩; have HB4 := Lib.hid ((hb.out.alloc (by omega) _).trans (hb4.mono (by simp; omega))); clear hb4)
          go_ret
          exact ⟨ret_bool (cutB_3 (by rw [HL.out]; exact hlt) HC.out).symm, HW.out.trans (HB4.out.mono (by omega))⟩
    · go_wp2
      go_ret
      exact ⟨ret_bool (cutB_t HB1.out HA1.out (fun j hj => hp.out j (by have := HL.out; omega))).symm, HW.out.trans (hb.out.mono (by omega))⟩
theorem impl_IsCut (z y : Int) (A : Option Addr) (n c : Nat) (ps : List Pt) (u : Bool) (a : Int) (w : World) (h : RdP w w.heap.size A n ps) :
    Calls Try.prog 97 #[.agg #[.int .i64 z, .int .i64 y, .slice A n c], .agg #[.bool u, .int .i64 a]] w fun e w' => e = .returned (.bool (cutB z y ps u a)) ∧ Below w.heap.size w w' := by
  cases u with
  | true =>
    cases hbk : layB z y ps with
    | false => exact impl_IsCut_true_no z y A n c ps a w h hbk
    | true =>
      cases ha : inB a 1 (z - 1) with
      | false => exact impl_IsCut_true_out z y A n c ps a w h hbk ha
      | true => exact impl_IsCut_true_in z y A n c ps a w h hbk ha
  | false =>
    cases hbk : layB z y ps with
    | false => exact impl_IsCut_false_no z y A n c ps a w h hbk
    | true =>
      cases ha : inB a 1 (y - 1) with
      | false => exact impl_IsCut_false_out z y A n c ps a w h hbk ha
      | true => exact impl_IsCut_false_in z y A n c ps a w h hbk ha

set_option maxRecDepth 100000 in
set_option maxHeartbeats 2000000 in
theorem spec_IsCut_true_no (z y : Int) (A : Option Addr) (n c : Nat) (ps : List Pt) (a : Int) (w : World) (h : RdP w w.heap.size A n ps) (hbk : layB z y ps = false) :
    Calls Try.prog 95 #[.agg #[.int .i64 z, .int .i64 y, .slice A n c], .agg #[.bool true, .int .i64 a]] w fun e w' => e = .returned (.bool (cutB z y ps true a)) ∧ Below w.heap.size w w' := by
  have hs := lt2
  have HE := Lib.hid (cutB_1 (u := true) (a := a) hbk)
  have hle := h.le
  have H := Lib.hid h
  clear h
  go_enter Try.func95, Try.ntmps95
  go_wp2_with (go_at_call 94; refine (spec_LayoutOk _ _ _ _ _ _ _ (H.out.below' (by (repeat' (first | (with_reducible exact Below.refl _ _) | (with_reducible refine Below.setCell ?_ ?_ _) | (with_reducible refine Below.alloc ?_ ?_ _) | (with_reducible refine Below.drew ?_) | (with_reducible refine Below.drewN ?_ _) | (with_reducible refine Below.trans ?_ (Below.mono (by with_reducible assumption) ?_)) | go_size | (dsimp only; omega)))) (by go_size))).mono ?_; rintro e w1 ⟨rfl, hb1⟩; have hx1 := bsize hb1; (try simp at hx1); obtain ⟨hc1, hf1, hz1⟩ := bcell hb1 (b := w.heap.size) (by go_size); obtain ⟨hd1, hg1, hz1'⟩ := bcell hb1 (b := w.heap.size + 1) (by go_size); have HW := Lib.hid (show Below w.heap.size w w1 by (repeat' (first | (with_reducible exact Below.refl _ _) | (with_reducible refine Below.setCell ?_ ?_ _) | (with_reducible refine Below.alloc ?_ ?_ _) | (with_reducible refine Below.drew ?_) | (with_reducible refine Below.drewN ?_ _) | (with_reducible refine Below.trans ?_ (Below.mono (by with_reducible assumption) ?_)) | go_size | (dsimp only; omega)))); have l0 : w1.cell? ⟨w.heap.size, 0, none⟩ = some (.int .i64 z) := (hc1 0).trans (by rw [World.cell?_alloc_lt _ _ _ (by go_size), World.cell?_alloc_new]; rfl); have l1 : w1.cell? ⟨w.heap.size, 1, none⟩ = some (.int .i64 y) := (hc1 1).trans (by rw [World.cell?_alloc_lt _ _ _ (by go_size), World.cell?_alloc_new]; rfl); have l2 : w1.cell? ⟨w.heap.size, 2, none⟩ = some (.slice A n c) := (hc1 2).trans (by rw [World.cell?_alloc_lt _ _ _ (by go_size), World.cell?_alloc_new]; rfl); have m0 : w1.cell? ⟨w.heap.size + 1, 0, none⟩ = some (.bool true) := (hd1 0).trans (by simp [go_sem]); have m1 : w1.cell? ⟨w.heap.size + 1, 1, none⟩ = some (.int .i64 a) := (hd1 1).trans (by simp [go_sem]); clear hc1 hf1 hd1 hg1)
  go_ret
  exact ⟨ret_bool HE.out.symm, by (repeat' (first | (with_reducible exact Below.refl _ _) | (with_reducible refine Below.setCell ?_ ?_ _) | (with_reducible refine Below.alloc ?_ ?_ _) | (with_reducible refine Below.drew ?_) | (with_reducible refine Below.drewN ?_ _) | (with_reducible refine Below.trans ?_ (Below.mono (by with_reducible assumption) ?_)) | go_size | (dsimp only; omega)))⟩
set_option maxRecDepth 100000 in
set_option maxHeartbeats 2000000 in
theorem spec_IsCut_true_out (z y : Int) (A : Option Addr) (n c : Nat) (ps : List Pt) (a : Int) (w : World) (h : RdP w w.heap.size A n ps) (hbk : layB z y ps = true) (ha : inB a 1 (z - 1) = false) :
    Calls Try.prog 95 #[.agg #[.int .i64 z, .int .i64 y, .slice A n c], .agg #[.bool true, .int .i64 a]] w fun e w' => e = .returned (.bool (cutB z y ps true a)) ∧ Below w.heap.size w w' := by
  have hs := lt2
  have HE := Lib.hid (show cutB z y ps true a = false from cutB_2 (by exact ha))
  obtain ⟨hz1', hz2', hy1', hy2', hn1', hn2'⟩ := dimOk_t (layB_p hbk).1
  have hle := h.le
  have HL := Lib.hid h.1
  have HA := Lib.hid (layB_p hbk).2.1
  have H := Lib.hid h
  rw [h.1] at hn1' hn2'
  clear h
  go_enter Try.func95, Try.ntmps95
  go_wp2_with (first
    | (go_at_call 94; refine (spec_LayoutOk _ _ _ _ _ _ _ (H.out.below' (by (repeat' (first | (with_reducible exact Below.refl _ _) | (with_reducible refine Below.setCell ?_ ?_ _) | (with_reducible refine Below.alloc ?_ ?_ _) | (with_reducible refine Below.drew ?_) | (with_reducible refine Below.drewN ?_ _) | (with_reducible refine Below.trans ?_ (Below.mono (by with_reducible assumption) ?_)) | go_size | (dsimp only; omega)))) (by go_size))).mono ?_; rintro e w1 ⟨rfl, hb1⟩; have hx1 := bsize hb1; (try simp at hx1); obtain ⟨hc1, hf1, hz1⟩ := bcell hb1 (b := w.heap.size) (by go_size); obtain ⟨hd1, hg1, hz1'⟩ := bcell hb1 (b := w.heap.size + 1) (by go_size); have HW := Lib.hid (show Below w.heap.size w w1 by (repeat' (first | (with_reducible exact Below.refl _ _) | (with_reducible refine Below.setCell ?_ ?_ _) | (with_reducible refine Below.alloc ?_ ?_ _) | (with_reducible refine Below.drew ?_) | (with_reducible refine Below.drewN ?_ _) | (with_reducible refine Below.trans ?_ (Below.mono (by with_reducible assumption) ?_)) | go_size | (dsimp only; omega)))); have l0 : w1.cell? ⟨w.heap.size, 0, none⟩ = some (.int .i64 z) := (hc1 0).trans (by rw [World.cell?_alloc_lt _ _ _ (by go_size), World.cell?_alloc_new]; rfl); have l1 : w1.cell? ⟨w.heap.size, 1, none⟩ = some (.int .i64 y) := (hc1 1).trans (by rw [World.cell?_alloc_lt _ _ _ (by go_size), World.cell?_alloc_new]; rfl); have l2 : w1.cell? ⟨w.heap.size, 2, none⟩ = some (.slice A n c) := (hc1 2).trans (by rw [World.cell?_alloc_lt _ _ _ (by go_size), World.cell?_alloc_new]; rfl); have m0 : w1.cell? ⟨w.heap.size + 1, 0, none⟩ = some (.bool true) := (hd1 0).trans (by simp [go_sem]); have m1 : w1.cell? ⟨w.heap.size + 1, 1, none⟩ = some (.int .i64 a) := (hd1 1).trans (by simp [go_sem]); clear hc1 hf1 hd1 hg1)
    | (go_at_call 110; refine (spec_l01In _ _ _ _).mono ?_; rintro e w' ⟨rfl, rfl⟩))
  go_ret
  exact ⟨ret_bool HE.out.symm, by (repeat' (first | (with_reducible exact Below.refl _ _) | (with_reducible refine Below.setCell ?_ ?_ _) | (with_reducible refine Below.alloc ?_ ?_ _) | (with_reducible refine Below.drew ?_) | (with_reducible refine Below.drewN ?_ _) | (with_reducible refine Below.trans ?_ (Below.mono (by with_reducible assumption) ?_)) | go_size | (dsimp only; omega)))⟩
set_option maxRecDepth 100000 in
set_option maxHeartbeats 2000000 in
theorem spec_IsCut_true_in (z y : Int) (A : Option Addr) (n c : Nat) (ps : List Pt) (a : Int) (w : World) (h : RdP w w.heap.size A n ps) (hbk : layB z y ps = true) (ha : inB a 1 (z - 1) = true) :
    Calls Try.prog 95 #[.agg #[.int .i64 z, .int .i64 y, .slice A n c], .agg #[.bool true, .int .i64 a]] w fun e w' => e = .returned (.bool (cutB z y ps true a)) ∧ Below w.heap.size w w' := by
  have hs := lt2
  have HA1 := Lib.hid (show inB a 1 (sideOf true z y - 1) = true from ha)
  have HB1 := Lib.hid hbk
  have ha' := inB_r ha
  obtain ⟨hz1', hz2', hy1', hy2', hn1', hn2'⟩ := dimOk_t (layB_p hbk).1
  have hle := h.le
  have HL := Lib.hid h.1
  have HA := Lib.hid (layB_p hbk).2.1
  have H := Lib.hid h
  rw [h.1] at hn1' hn2'
  clear h
  go_enter Try.func95, Try.ntmps95
  go_wp2_with (first
    | (go_at_call 94; refine (spec_LayoutOk _ _ _ _ _ _ _ (H.out.below' (by (repeat' (first | (with_reducible exact Below.refl _ _) | (with_reducible refine Below.setCell ?_ ?_ _) | (with_reducible refine Below.alloc ?_ ?_ _) | (with_reducible refine Below.drew ?_) | (with_reducible refine Below.drewN ?_ _) | (with_reducible refine Below.trans ?_ (Below.mono (by with_reducible assumption) ?_)) | go_size | (dsimp only; omega)))) (by go_size))).mono ?_; rintro e w1 ⟨rfl, hb1⟩; have hx1 := bsize hb1; (try simp at hx1); obtain ⟨hc1, hf1, hz1⟩ := bcell hb1 (b := w.heap.size) (by go_size); obtain ⟨hd1, hg1, hz1'⟩ := bcell hb1 (b := w.heap.size + 1) (by go_size); have HW := Lib.hid (show Below w.heap.size w w1 by (repeat' (first | (with_reducible exact Below.refl _ _) | (with_reducible refine Below.setCell ?_ ?_ _) | (with_reducible refine Below.alloc ?_ ?_ _) | (with_reducible refine Below.drew ?_) | (with_reducible refine Below.drewN ?_ _) | (with_reducible refine Below.trans ?_ (Below.mono (by with_reducible assumption) ?_)) | go_size | (dsimp only; omega)))); have l0 : w1.cell? ⟨w.heap.size, 0, none⟩ = some (.int .i64 z) := (hc1 0).trans (by rw [World.cell?_alloc_lt _ _ _ (by go_size), World.cell?_alloc_new]; rfl); have l1 : w1.cell? ⟨w.heap.size, 1, none⟩ = some (.int .i64 y) := (hc1 1).trans (by rw [World.cell?_alloc_lt _ _ _ (by go_size), World.cell?_alloc_new]; rfl); have l2 : w1.cell? ⟨w.heap.size, 2, none⟩ = some (.slice A n c) := (hc1 2).trans (by rw [World.cell?_alloc_lt _ _ _ (by go_size), World.cell?_alloc_new]; rfl); have m0 : w1.cell? ⟨w.heap.size + 1, 0, none⟩ = some (.bool true) := (hd1 0).trans (by simp [go_sem]); have m1 : w1.cell? ⟨w.heap.size + 1, 1, none⟩ = some (.int .i64 a) := (hd1 1).trans (by simp [go_sem]); clear hc1 hf1 hd1 hg1)
    | (go_at_call 110; refine (spec_l01In _ _ _ _).mono ?_; rintro e w' ⟨rfl, rfl⟩))
  have hxw : w.heap.size + 1 + 1 ≤ w1.heap.size := by omega
  clear hb1 ha hbk
  go_loopw [6] (fun i wr => ∃ (k : Nat), k ≤ n ∧ i = .int .i64 k ∧ Hid (∀ j, j < k → crossP true a (pith ps j) = false) ∧ Hid (Below w1.heap.size w1 wr)) (fun i _ => n - (intOf i).toNat)
  case atStart => exact ⟨0, by omega, rfl, fun j hj => absurd hj (by omega), Below.refl _ _⟩
  case round =>
    obtain ⟨k, hk, rfl, hp, hb⟩ := hrel
    have hy := hb.out.size
    have p0 : wr.cell? ⟨w.heap.size, 0, none⟩ = some (.int .i64 z) := (hb.out.cell (p := ⟨w.heap.size, 0, none⟩) (by dsimp only; omega)).trans l0
    have p1 : wr.cell? ⟨w.heap.size, 1, none⟩ = some (.int .i64 y) := (hb.out.cell (p := ⟨w.heap.size, 1, none⟩) (by dsimp only; omega)).trans l1
    have p2 : wr.cell? ⟨w.heap.size, 2, none⟩ = some (.slice A n c) := (hb.out.cell (p := ⟨w.heap.size, 2, none⟩) (by dsimp only; omega)).trans l2
    have HRD := Lib.hid (H.out.below' (HW.out.trans (hb.out.mono (by omega))) (show w.heap.size ≤ wr.heap.size by have := hb.out.size; omega))
    have q0 : wr.cell? ⟨w.heap.size + 1, 0, none⟩ = some (.bool true) := (hb.out.cell (p := ⟨w.heap.size + 1, 0, none⟩) (by dsimp only; omega)).trans m0
    have q1 : wr.cell? ⟨w.heap.size + 1, 1, none⟩ = some (.int .i64 a) := (hb.out.cell (p := ⟨w.heap.size + 1, 1, none⟩) (by dsimp only; omega)).trans m1
    have hzr : w.heap.size < wr.heap.size := by omega
    have hzs : w.heap.size + 1 < wr.heap.size := by omega
    by_cases hlt : k < n
    · obtain ⟨g, off, rfl, d0, d1, d2, d3, d4⟩ := RdP.at5 HRD.out hlt
      obtain ⟨a1, a2, a3, a4, a5, a6, _, _⟩ := okPt_t (HA.out k (by rw [HL.out]; exact hlt))
      cases t1 : decide ((pith ps k).x < a) with
      | false =>
        have HC := Lib.hid (show crossP true a (pith ps k) = false by unfold crossP; simp [t1])
        go_wp2
        go_roundw
        case rel => exact ⟨k + 1, by omega, by go_num, step_all (P := fun j => crossP true a (pith ps j) = false) hp.out HC.out, hb.out.alloc (by omega) _⟩
        case measure => simp [intOf]; omega
      | true =>
        cases t2 : decide (a < (pith ps k).x + (pith ps k).w) with
        | false =>
          have HC := Lib.hid (show crossP true a (pith ps k) = false by unfold crossP; simp [t2])
          go_wp2
          go_roundw
          case rel => exact ⟨k + 1, by omega, by go_num, step_all (P := fun j => crossP true a (pith ps j) = false) hp.out HC.out, hb.out.alloc (by omega) _⟩
          case measure => simp [intOf]; omega
        | true =>
          have HC := Lib.hid (show crossP true a (pith ps k) = true by unfold crossP; simp [t1, t2])
          go_wp2
          go_ret
          exact ⟨ret_bool (cutB_3 (by rw [HL.out]; exact hlt) HC.out).symm, HW.out.trans ((hb.out.alloc (by omega) _).mono (by omega))⟩
    · go_wp2
      go_ret
      exact ⟨ret_bool (cutB_t HB1.out HA1.out (fun j hj => hp.out j (by have := HL.out; omega))).symm, HW.out.trans (hb.out.mono (by omega))⟩
set_option maxRecDepth 100000 in
set_option maxHeartbeats 2000000 in
theorem spec_IsCut_false_no (z y : Int) (A : Option Addr) (n c : Nat) (ps : List Pt) (a : Int) (w : World) (h : RdP w w.heap.size A n ps) (hbk : layB z y ps = false) :
    Calls Try.prog 95 #[.agg #[.int .i64 z, .int .i64 y, .slice A n c], .agg #[.bool false, .int .i64 a]] w fun e w' => e = .returned (.bool (cutB z y ps false a)) ∧ Below w.heap.size w w' := by
  have hs := lt2
  have HE := Lib.hid (cutB_1 (u := false) (a := a) hbk)
  have hle := h.le
  have H := Lib.hid h
  clear h
  go_enter Try.func95, Try.ntmps95
  go_wp2_with (go_at_call 94; refine (spec_LayoutOk _ _ _ _ _ _ _ (H.out.below' (by (repeat' (first | (with_reducible exact Below.refl _ _) | (with_reducible refine Below.setCell ?_ ?_ _) | (with_reducible refine Below.alloc ?_ ?_ _) | (with_reducible refine Below.drew ?_) | (with_reducible refine Below.drewN ?_ _) | (with_reducible refine Below.trans ?_ (Below.mono (by with_reducible assumption) ?_)) | go_size | (dsimp only; omega)))) (by go_size))).mono ?_; rintro e w1 ⟨rfl, hb1⟩; have hx1 := bsize hb1; (try simp at hx1); obtain ⟨hc1, hf1, hz1⟩ := bcell hb1 (b := w.heap.size) (by go_size); obtain ⟨hd1, hg1, hz1'⟩ := bcell hb1 (b := w.heap.size + 1) (by go_size); have HW := Lib.hid (show Below w.heap.size w w1 by (repeat' (first | (with_reducible exact Below.refl _ _) | (with_reducible refine Below.setCell ?_ ?_ _) | (with_reducible refine Below.alloc ?_ ?_ _) | (with_reducible refine Below.drew ?_) | (with_reducible refine Below.drewN ?_ _) | (with_reducible refine Below.trans ?_ (Below.mono (by with_reducible assumption) ?_)) | go_size | (dsimp only; omega)))); have l0 : w1.cell? ⟨w.heap.size, 0, none⟩ = some (.int .i64 z) := (hc1 0).trans (by rw [World.cell?_alloc_lt _ _ _ (by go_size), World.cell?_alloc_new]; rfl); have l1 : w1.cell? ⟨w.heap.size, 1, none⟩ = some (.int .i64 y) := (hc1 1).trans (by rw [World.cell?_alloc_lt _ _ _ (by go_size), World.cell?_alloc_new]; rfl); have l2 : w1.cell? ⟨w.heap.size, 2, none⟩ = some (.slice A n c) := (hc1 2).trans (by rw [World.cell?_alloc_lt _ _ _ (by go_size), World.cell?_alloc_new]; rfl); have m0 : w1.cell? ⟨w.heap.size + 1, 0, none⟩ = some (.bool false) := (hd1 0).trans (by simp [go_sem]); have m1 : w1.cell? ⟨w.heap.size + 1, 1, none⟩ = some (.int .i64 a) := (hd1 1).trans (by simp [go_sem]); clear hc1 hf1 hd1 hg1)
  go_ret
  exact ⟨ret_bool HE.out.symm, by (repeat' (first | (with_reducible exact Below.refl _ _) | (with_reducible refine Below.setCell ?_ ?_ _) | (with_reducible refine Below.alloc ?_ ?_ _) | (with_reducible refine Below.drew ?_) | (with_reducible refine Below.drewN ?_ _) | (with_reducible refine Below.trans ?_ (Below.mono (by with_reducible assumption) ?_)) | go_size | (dsimp only; omega)))⟩
set_option maxRecDepth 100000 in
set_option maxHeartbeats 2000000 in
theorem spec_IsCut_false_out (z y : Int) (A : Option Addr) (n c : Nat) (ps : List Pt) (a : Int) (w : World) (h : RdP w w.heap.size A n ps) (hbk : layB z y ps = true) (ha : inB a 1 (y - 1) = false) :
    Calls Try.prog 95 #[.agg #[.int .i64 z, .int .i64 y, .slice A n c], .agg #[.bool false, .int .i64 a]] w fun e w' => e = .returned (.bool (cutB z y ps false a)) ∧ Below w.heap.size w w' := by
  have hs := lt2
  have HE := Lib.hid (show cutB z y ps false a = false from cutB_2 (by exact ha))
  obtain ⟨hz1', hz2', hy1', hy2', hn1', hn2'⟩ := dimOk_t (layB_p hbk).1
  have hle := h.le
  have HL := Lib.hid h.1
  have HA := Lib.hid (layB_p hbk).2.1
  have H := Lib.hid h
  rw [h.1] at hn1' hn2'
  clear h
  go_enter Try.func95, Try.ntmps95
  go_wp2_with (first
    | (go_at_call 94; refine (spec_LayoutOk _ _ _ _ _ _ _ (H.out.below' (by (repeat' (first | (with_reducible exact Below.refl _ _) | (with_reducible refine Below.setCell ?_ ?_ _) | (with_reducible refine Below.alloc ?_ ?_ _) | (with_reducible refine Below.drew ?_) | (with_reducible refine Below.drewN ?_ _) | (with_reducible refine Below.trans ?_ (Below.mono (by with_reducible assumption) ?_)) | go_size | (dsimp only; omega)))) (by go_size))).mono ?_; rintro e w1 ⟨rfl, hb1⟩; have hx1 := bsize hb1; (try simp at hx1); obtain ⟨hc1, hf1, hz1⟩ := bcell hb1 (b := w.heap.size) (by go_size); obtain ⟨hd1, hg1, hz1'⟩ := bcell hb1 (b := w.heap.size + 1) (by go_size); have HW := Lib.hid (show Below w.heap.size w w1 by (repeat' (first | (with_reducible exact Below.refl _ _) | (with_reducible refine Below.setCell ?_ ?_ _) | (with_reducible refine Below.alloc ?_ ?_ _) | (with_reducible refine Below.drew ?_) | (with_reducible refine Below.drewN ?_ _) | (with_reducible refine Below.trans ?_ (Below.mono (by with_reducible assumption) ?_)) | go_size | (dsimp only; omega)))); have l0 : w1.cell? ⟨w.heap.size, 0, none⟩ = some (.int .i64 z) := (hc1 0).trans (by rw [World.cell?_alloc_lt _ _ _ (by go_size), World.cell?_alloc_new]; rfl); have l1 : w1.cell? ⟨w.heap.size, 1, none⟩ = some (.int .i64 y) := (hc1 1).trans (by rw [World.cell?_alloc_lt _ _ _ (by go_size), World.cell?_alloc_new]; rfl); have l2 : w1.cell? ⟨w.heap.size, 2, none⟩ = some (.slice A n c) := (hc1 2).trans (by rw [World.cell?_alloc_lt _ _ _ (by go_size), World.cell?_alloc_new]; rfl); have m0 : w1.cell? ⟨w.heap.size + 1, 0, none⟩ = some (.bool false) := (hd1 0).trans (by simp [go_sem]); have m1 : w1.cell? ⟨w.heap.size + 1, 1, none⟩ = some (.int .i64 a) := (hd1 1).trans (by simp [go_sem]); clear hc1 hf1 hd1 hg1)
    | (go_at_call 110; refine (spec_l01In _ _ _ _).mono ?_; rintro e w' ⟨rfl, rfl⟩))
  go_ret
  exact ⟨ret_bool HE.out.symm, by (repeat' (first | (with_reducible exact Below.refl _ _) | (with_reducible refine Below.setCell ?_ ?_ _) | (with_reducible refine Below.alloc ?_ ?_ _) | (with_reducible refine Below.drew ?_) | (with_reducible refine Below.drewN ?_ _) | (with_reducible refine Below.trans ?_ (Below.mono (by with_reducible assumption) ?_)) | go_size | (dsimp only; omega)))⟩
set_option maxRecDepth 100000 in
set_option maxHeartbeats 2000000 in
theorem spec_IsCut_false_in (z y : Int) (A : Option Addr) (n c : Nat) (ps : List Pt) (a : Int) (w : World) (h : RdP w w.heap.size A n ps) (hbk : layB z y ps = true) (ha : inB a 1 (y - 1) = true) :
    Calls Try.prog 95 #[.agg #[.int .i64 z, .int .i64 y, .slice A n c], .agg #[.bool false, .int .i64 a]] w fun e w' => e = .returned (.bool (cutB z y ps false a)) ∧ Below w.heap.size w w' := by
  have hs := lt2
  have HA1 := Lib.hid (show inB a 1 (sideOf false z y - 1) = true from ha)
  have HB1 := Lib.hid hbk
  have ha' := inB_r ha
  obtain ⟨hz1', hz2', hy1', hy2', hn1', hn2'⟩ := dimOk_t (layB_p hbk).1
  have hle := h.le
  have HL := Lib.hid h.1
  have HA := Lib.hid (layB_p hbk).2.1
  have H := Lib.hid h
  rw [h.1] at hn1' hn2'
  clear h
  go_enter Try.func95, Try.ntmps95
  go_wp2_with (first
    | (go_at_call 94; refine (spec_LayoutOk _ _ _ _ _ _ _ (H.out.below' (by (repeat' (first | (with_reducible exact Below.refl _ _) | (with_reducible refine Below.setCell ?_ ?_ _) | (with_reducible refine Below.alloc ?_ ?_ _) | (with_reducible refine Below.drew ?_) | (with_reducible refine Below.drewN ?_ _) | (with_reducible refine Below.trans ?_ (Below.mono (by with_reducible assumption) ?_)) | go_size | (dsimp only; omega)))) (by go_size))).mono ?_; rintro e w1 ⟨rfl, hb1⟩; have hx1 := bsize hb1; (try simp at hx1); obtain ⟨hc1, hf1, hz1⟩ := bcell hb1 (b := w.heap.size) (by go_size); obtain ⟨hd1, hg1, hz1'⟩ := bcell hb1 (b := w.heap.size + 1) (by go_size); have HW := Lib.hid (show Below w.heap.size w w1 by (repeat' (first | (with_reducible exact Below.refl _ _) | (with_reducible refine Below.setCell ?_ ?_ _) | (with_reducible refine Below.alloc ?_ ?_ _) | (with_reducible refine Below.drew ?_) | (with_reducible refine Below.drewN ?_ _) | (with_reducible refine Below.trans ?_ (Below.mono (by with_reducible assumption) ?_)) | go_size | (dsimp only; omega)))); have l0 : w1.cell? ⟨w.heap.size, 0, none⟩ = some (.int .i64 z) := (hc1 0).trans (by rw [World.cell?_alloc_lt _ _ _ (by go_size), World.cell?_alloc_new]; rfl); have l1 : w1.cell? ⟨w.heap.size, 1, none⟩ = some (.int .i64 y) := (hc1 1).trans (by rw [World.cell?_alloc_lt _ _ _ (by go_size), World.cell?_alloc_new]; rfl); have l2 : w1.cell? ⟨w.heap.size, 2, none⟩ = some (.slice A n c) := (hc1 2).trans (by rw [World.cell?_alloc_lt _ _ _ (by go_size), World.cell?_alloc_new]; rfl); have m0 : w1.cell? ⟨w.heap.size + 1, 0, none⟩ = some (.bool false) := (hd1 0).trans (by simp [go_sem]); have m1 : w1.cell? ⟨w.heap.size + 1, 1, none⟩ = some (.int .i64 a) := (hd1 1).trans (by simp [go_sem]); clear hc1 hf1 hd1 hg1)
    | (go_at_call 110; refine (spec_l01In _ _ _ _).mono ?_; rintro e w' ⟨rfl, rfl⟩))
  have hxw : w.heap.size + 1 + 1 ≤ w1.heap.size := by omega
  clear hb1 ha hbk
  go_loopw [6] (fun i wr => ∃ (k : Nat), k ≤ n ∧ i = .int .i64 k ∧ Hid (∀ j, j < k → crossP false a (pith ps j) = false) ∧ Hid (Below w1.heap.size w1 wr)) (fun i _ => n - (intOf i).toNat)
  case atStart => exact ⟨0, by omega, rfl, fun j hj => absurd hj (by omega), Below.refl _ _⟩
  case round =>
    obtain ⟨k, hk, rfl, hp, hb⟩ := hrel
    have hy := hb.out.size
    have p0 : wr.cell? ⟨w.heap.size, 0, none⟩ = some (.int .i64 z) := (hb.out.cell (p := ⟨w.heap.size, 0, none⟩) (by dsimp only; omega)).trans l0
    have p1 : wr.cell? ⟨w.heap.size, 1, none⟩ = some (.int .i64 y) := (hb.out.cell (p := ⟨w.heap.size, 1, none⟩) (by dsimp only; omega)).trans l1
    have p2 : wr.cell? ⟨w.heap.size, 2, none⟩ = some (.slice A n c) := (hb.out.cell (p := ⟨w.heap.size, 2, none⟩) (by dsimp only; omega)).trans l2
    have HRD := Lib.hid (H.out.below' (HW.out.trans (hb.out.mono (by omega))) (show w.heap.size ≤ wr.heap.size by have := hb.out.size; omega))
    have q0 : wr.cell? ⟨w.heap.size + 1, 0, none⟩ = some (.bool false) := (hb.out.cell (p := ⟨w.heap.size + 1, 0, none⟩) (by dsimp only; omega)).trans m0
    have q1 : wr.cell? ⟨w.heap.size + 1, 1, none⟩ = some (.int .i64 a) := (hb.out.cell (p := ⟨w.heap.size + 1, 1, none⟩) (by dsimp only; omega)).trans m1
    have hzr : w.heap.size < wr.heap.size := by omega
    have hzs : w.heap.size + 1 < wr.heap.size := by omega
    by_cases hlt : k < n
    · obtain ⟨g, off, rfl, d0, d1, d2, d3, d4⟩ := RdP.at5 HRD.out hlt
      obtain ⟨a1, a2, a3, a4, a5, a6, _, _⟩ := okPt_t (HA.out k (by rw [HL.out]; exact hlt))
      cases t1 : decide ((pith ps k).y < a) with
      | false =>
        have HC := Lib.hid (show crossP false a (pith ps k) = false by unfold crossP; simp [t1])
        go_wp2
        go_roundw
        case rel => exact ⟨k + 1, by omega, by go_num, step_all (P := fun j => crossP false a (pith ps j) = false) hp.out HC.out, hb.out.alloc (by omega) _⟩
        case measure => simp [intOf]; omega
      | true =>
        cases t2 : decide (a < (pith ps k).y + (pith ps k).h) with
        | false =>
          have HC := Lib.hid (show crossP false a (pith ps k) = false by unfold crossP; simp [t2])
          go_wp2
          go_roundw
          case rel => exact ⟨k + 1, by omega, by go_num, step_all (P := fun j => crossP false a (pith ps j) = false) hp.out HC.out, hb.out.alloc (by omega) _⟩
          case measure => simp [intOf]; omega
        | true =>
          have HC := Lib.hid (show crossP false a (pith ps k) = true by unfold crossP; simp [t1, t2])
          go_wp2
          go_ret
          exact ⟨ret_bool (cutB_3 (by rw [HL.out]; exact hlt) HC.out).symm, HW.out.trans ((hb.out.alloc (by omega) _).mono (by omega))⟩
    · go_wp2
      go_ret
      exact ⟨ret_bool (cutB_t HB1.out HA1.out (fun j hj => hp.out j (by have := HL.out; omega))).symm, HW.out.trans (hb.out.mono (by omega))⟩
theorem spec_IsCut (z y : Int) (A : Option Addr) (n c : Nat) (ps : List Pt) (u : Bool) (a : Int) (w : World) (h : RdP w w.heap.size A n ps) :
    Calls Try.prog 95 #[.agg #[.int .i64 z, .int .i64 y, .slice A n c], .agg #[.bool u, .int .i64 a]] w fun e w' => e = .returned (.bool (cutB z y ps u a)) ∧ Below w.heap.size w w' := by
  cases u with
  | true =>
    cases hbk : layB z y ps with
    | false => exact spec_IsCut_true_no z y A n c ps a w h hbk
    | true =>
      cases ha : inB a 1 (z - 1) with
      | false => exact spec_IsCut_true_out z y A n c ps a w h hbk ha
      | true => exact spec_IsCut_true_in z y A n c ps a w h hbk ha
  | false =>
    cases hbk : layB z y ps with
    | false => exact spec_IsCut_false_no z y A n c ps a w h hbk
    | true =>
      cases ha : inB a 1 (y - 1) with
      | false => exact spec_IsCut_false_out z y A n c ps a w h hbk ha
      | true => exact spec_IsCut_false_in z y A n c ps a w h hbk ha

end Go.Proofs.Ytlcllpgbpjdofaa
