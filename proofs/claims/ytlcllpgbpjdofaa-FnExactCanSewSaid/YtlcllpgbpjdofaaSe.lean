/- Walks of SeamLength and PatchAt, both sides. No condition. -/
import Derived.Test.YtlcllpgbpjdofaaLs
set_option linter.unusedSimpArgs false
set_option linter.unusedVariables false
namespace Go.Proofs.Ytlcllpgbpjdofaa
open Go.RowKit

def sumWH (ps : List Pt) (k : Nat) : Int := ((ps.take k).map (fun p => p.w + p.h)).sum
theorem sumWH_zero (ps : List Pt) : sumWH ps 0 = 0 := by simp [sumWH]
theorem sumWH_succ {ps : List Pt} {k : Nat} (h : k < ps.length) : sumWH ps (k + 1) = sumWH ps k + ((pith ps k).w + (pith ps k).h) := by
  unfold sumWH
  rw [List.take_succ_eq_append_getElem h, List.map_append, List.sum_append, pith_get h]; simp
noncomputable def seamB (z y : Int) (ps : List Pt) : Int := (fun b => if b = true then sumWH ps ps.length - z - y else -1) (layB z y ps)
theorem seamB_t {z y : Int} {ps : List Pt} (h : layB z y ps = true) : seamB z y ps = sumWH ps ps.length - z - y := by unfold seamB; rw [h]; rfl
theorem seamB_f {z y : Int} {ps : List Pt} (h : layB z y ps = false) : seamB z y ps = -1 := by unfold seamB; rw [h]; rfl

set_option maxRecDepth 100000 in
set_option maxHeartbeats 2000000 in
theorem impl_SeamLength_no (z y : Int) (A : Option Addr) (n c : Nat) (ps : List Pt) (w : World) (h : RdP w w.heap.size A n ps) (hbk : layB z y ps = false) :
    Calls Try.prog 20 #[.agg #[.int .i64 z, .int .i64 y, .slice A n c]] w fun e w' => e = .returned (.int .i64 (seamB z y ps)) ∧ Below w.heap.size w w' := by
  have HE := Lib.hid (show seamB z y ps = -1 from seamB_f hbk)
  have hle := h.le
  have H := Lib.hid h
  clear h
  go_enter Try.func20, Try.ntmps20
  go_wp2_with (go_at_call 19; refine (impl_LayoutOk _ _ _ _ _ _ _ (H.out.below' (by (repeat' (first | (with_reducible exact Below.refl _ _) | (with_reducible refine Below.setCell ?_ ?_ _) | (with_reducible refine Below.alloc ?_ ?_ _) | (with_reducible refine Below.drew ?_) | (with_reducible refine Below.drewN ?_ _) | (with_reducible refine Below.trans ?_ (Below.mono (by with_reducible assumption) ?_)) | go_size | (dsimp only; omega)))) (by go_size))).mono ?_; rintro e w1 ⟨rfl, hb1⟩; have hx1 := bsize hb1; (try simp at hx1); obtain ⟨hc1, hf1, hz1⟩ := bcell hb1 (b := w.heap.size) (by go_size))
  go_ret
  exact ⟨ret_int HE.out.symm, by (repeat' (first | (with_reducible exact Below.refl _ _) | (with_reducible refine Below.setCell ?_ ?_ _) | (with_reducible refine Below.alloc ?_ ?_ _) | (with_reducible refine Below.drew ?_) | (with_reducible refine Below.drewN ?_ _) | (with_reducible refine Below.trans ?_ (Below.mono (by with_reducible assumption) ?_)) | go_size | (dsimp only; omega)))⟩
set_option maxRecDepth 100000 in
set_option maxHeartbeats 2000000 in
theorem impl_SeamLength_yes (z y : Int) (A : Option Addr) (n c : Nat) (ps : List Pt) (w : World) (h : RdP w w.heap.size A n ps) (hbk : layB z y ps = true) :
    Calls Try.prog 20 #[.agg #[.int .i64 z, .int .i64 y, .slice A n c]] w fun e w' => e = .returned (.int .i64 (seamB z y ps)) ∧ Below w.heap.size w w' := by
  obtain ⟨hz1', hz2', hy1', hy2', hn1', hn2'⟩ := dimOk_t (layB_p hbk).1
  have hle := h.le
  have HL := Lib.hid h.1
  have HA := Lib.hid (layB_p hbk).2.1
  have H := Lib.hid h
  rw [h.1] at hn1' hn2'
  clear h
  have HE := Lib.hid (seamB_t hbk)
  go_enter Try.func20, Try.ntmps20
  go_wp2_with (go_at_call 19; refine (impl_LayoutOk _ _ _ _ _ _ _ (H.out.below' (by (repeat' (first | (with_reducible exact Below.refl _ _) | (with_reducible refine Below.setCell ?_ ?_ _) | (with_reducible refine Below.alloc ?_ ?_ _) | (with_reducible refine Below.drew ?_) | (with_reducible refine Below.drewN ?_ _) | (with_reducible refine Below.trans ?_ (Below.mono (by with_reducible assumption) ?_)) | go_size | (dsimp only; omega)))) (by go_size))).mono ?_; rintro e w1 ⟨rfl, hb1⟩; have hx1 := bsize hb1; (try simp at hx1); obtain ⟨hc1, hf1, hz1⟩ := bcell hb1 (b := w.heap.size) (by go_size))
  have HW := Lib.hid (show Below w.heap.size w w1 by (repeat' (first | (with_reducible exact Below.refl _ _) | (with_reducible refine Below.setCell ?_ ?_ _) | (with_reducible refine Below.alloc ?_ ?_ _) | (with_reducible refine Below.drew ?_) | (with_reducible refine Below.drewN ?_ _) | (with_reducible refine Below.trans ?_ (Below.mono (by with_reducible assumption) ?_)) | go_size | (dsimp only; omega))))
  have hxw : w.heap.size + 1 ≤ w1.heap.size := by omega
  clear hb1
  have l0 : w1.cell? ⟨w.heap.size, 0, none⟩ = some (.int .i64 z) := (hc1 0).trans (by rw [World.cell?_alloc_new]; rfl)
  have l1 : w1.cell? ⟨w.heap.size, 1, none⟩ = some (.int .i64 y) := (hc1 1).trans (by rw [World.cell?_alloc_new]; rfl)
  have l2 : w1.cell? ⟨w.heap.size, 2, none⟩ = some (.slice A n c) := (hc1 2).trans (by rw [World.cell?_alloc_new]; rfl)
  clear hc1 hf1
  go_loopw [3, 18] (fun v i wr => ∃ (k : Nat) (s : Int), k ≤ n ∧ -24 ≤ s ∧ s ≤ 24 * k ∧ i = .int .i64 k ∧ v = .int .i64 s ∧ Hid (s = sumWH ps k - z - y) ∧ Hid (Below w1.heap.size w1 wr)) (fun _ i _ => n - (intOf i).toNat)
  case atStart => exact ⟨0, -z - y, by omega, by omega, by omega, rfl, rfl, (by show -z - y = sumWH ps 0 - z - y; rw [sumWH_zero]; omega), Below.refl _ _⟩
  case round =>
    obtain ⟨k, s, hk, hs0, hs1, rfl, rfl, hse, hb⟩ := hrel
    have hy := hb.out.size
    have p0 : wr.cell? ⟨w.heap.size, 0, none⟩ = some (.int .i64 z) := (hb.out.cell (p := ⟨w.heap.size, 0, none⟩) (by dsimp only; omega)).trans l0
    have p1 : wr.cell? ⟨w.heap.size, 1, none⟩ = some (.int .i64 y) := (hb.out.cell (p := ⟨w.heap.size, 1, none⟩) (by dsimp only; omega)).trans l1
    have p2 : wr.cell? ⟨w.heap.size, 2, none⟩ = some (.slice A n c) := (hb.out.cell (p := ⟨w.heap.size, 2, none⟩) (by dsimp only; omega)).trans l2
    have HRD := Lib.hid (H.out.below' (HW.out.trans (hb.out.mono (by omega))) (show w.heap.size ≤ wr.heap.size by have := hb.out.size; omega))
    by_cases hlt : k < n
    · obtain ⟨g, off, rfl, d0, d1, d2, d3, d4⟩ := RdP.at5 HRD.out hlt
      obtain ⟨a1, a2, a3, a4, a5, a6, _, _⟩ := okPt_t (HA.out k (by rw [HL.out]; exact hlt))
      have HS := Lib.hid (show s + ((pith ps k).w + (pith ps k).h) = sumWH ps (k + 1) - z - y by rw [sumWH_succ (by rw [HL.out]; exact hlt), hse.out]; omega)
      go_wp2
      go_roundw
      case rel => exact ⟨k + 1, _, by omega, by omega, by omega, by go_num, rfl, HS.out, hb.out.alloc (by omega) _⟩
      case measure => simp [intOf]; omega
    · go_wp2
      go_ret
      exact ⟨ret_int (by rw [HE.out, hse.out, HL.out, show k = n by omega]), HW.out.trans (hb.out.mono (by omega))⟩
theorem impl_SeamLength (z y : Int) (A : Option Addr) (n c : Nat) (ps : List Pt) (w : World) (h : RdP w w.heap.size A n ps) :
    Calls Try.prog 20 #[.agg #[.int .i64 z, .int .i64 y, .slice A n c]] w fun e w' => e = .returned (.int .i64 (seamB z y ps)) ∧ Below w.heap.size w w' := by
  cases hbk : layB z y ps with
  | true => exact impl_SeamLength_yes z y A n c ps  w h hbk
  | false => exact impl_SeamLength_no z y A n c ps  w h hbk


def atP (ps : List Pt) (u v : Int) : Int := match ps.findIdx? (fun p => hasP p u v) with | some k => (k : Int) | none => -1
noncomputable def patchAtB (z y : Int) (ps : List Pt) (u v : Int) : Int := (fun b => if b = true then atP ps u v else -1) (layB z y ps)
theorem patchAtB_t {z y u v : Int} {ps : List Pt} (h : layB z y ps = true) : patchAtB z y ps u v = atP ps u v := by unfold patchAtB; rw [h]; rfl
theorem patchAtB_f {z y u v : Int} {ps : List Pt} (h : layB z y ps = false) : patchAtB z y ps u v = -1 := by unfold patchAtB; rw [h]; rfl
theorem atP_hit {ps : List Pt} {u v : Int} {k : Nat} (hk : k < ps.length) (h1 : ∀ j, j < k → hasP (pith ps j) u v = false) (h2 : hasP (pith ps k) u v = true) : atP ps u v = k := by
  have e : ps.findIdx? (fun p => hasP p u v) = some k := by
    rw [List.findIdx?_eq_some_iff_getElem]
    refine ⟨hk, by rw [← pith_get hk]; exact h2, fun j hj => ?_⟩
    have := h1 j hj
    rw [pith_get (by omega)] at this
    simp [this]
  unfold atP; rw [e]
theorem atP_none {ps : List Pt} {u v : Int} (h1 : ∀ j, j < ps.length → hasP (pith ps j) u v = false) : atP ps u v = -1 := by
  have e : ps.findIdx? (fun p => hasP p u v) = none := by
    rw [List.findIdx?_eq_none_iff]
    intro p hp
    obtain ⟨j, hj, rfl⟩ := List.getElem_of_mem hp
    have := h1 j hj
    rwa [pith_get hj] at this
  unfold atP; rw [e]
theorem inB_has {p : Pt} {u v : Int} : hasP p u v = (inB u p.x (p.x + p.w - 1) && inB v p.y (p.y + p.h - 1)) := by
  rw [Bool.eq_iff_iff, hasP_t]
  simp only [inB, Bool.and_eq_true, decide_eq_true_eq]
  omega

set_option maxRecDepth 100000 in
set_option maxHeartbeats 2000000 in
theorem impl_PatchAt_no (z y : Int) (A : Option Addr) (n c : Nat) (ps : List Pt) (u v : Int) (w : World) (h : RdP w w.heap.size A n ps) (hbk : layB z y ps = false) :
    Calls Try.prog 16 #[.agg #[.int .i64 z, .int .i64 y, .slice A n c], .int .i64 u, .int .i64 v] w fun e w' => e = .returned (.int .i64 (patchAtB z y ps u v)) ∧ Below w.heap.size w w' := by
  have HE := Lib.hid (show patchAtB z y ps u v = -1 from patchAtB_f hbk)
  have hle := h.le
  have H := Lib.hid h
  clear h
  go_enter Try.func16, Try.ntmps16
  go_wp2_with (go_at_call 19; refine (impl_LayoutOk _ _ _ _ _ _ _ (H.out.below' (by (repeat' (first | (with_reducible exact Below.refl _ _) | (with_reducible refine Below.setCell ?_ ?_ _) | (with_reducible refine Below.alloc ?_ ?_ _) | (with_reducible refine Below.drew ?_) | (with_reducible refine Below.drewN ?_ _) | (with_reducible refine Below.trans ?_ (Below.mono (by with_reducible assumption) ?_)) | go_size | (dsimp only; omega)))) (by go_size))).mono ?_; rintro e w1 ⟨rfl, hb1⟩; have hx1 := bsize hb1; (try simp at hx1); obtain ⟨hc1, hf1, hz1⟩ := bcell hb1 (b := w.heap.size) (by go_size))
  go_ret
  exact ⟨ret_int HE.out.symm, by (repeat' (first | (with_reducible exact Below.refl _ _) | (with_reducible refine Below.setCell ?_ ?_ _) | (with_reducible refine Below.alloc ?_ ?_ _) | (with_reducible refine Below.drew ?_) | (with_reducible refine Below.drewN ?_ _) | (with_reducible refine Below.trans ?_ (Below.mono (by with_reducible assumption) ?_)) | go_size | (dsimp only; omega)))⟩
set_option maxRecDepth 100000 in
set_option maxHeartbeats 2000000 in
theorem impl_PatchAt_yes (z y : Int) (A : Option Addr) (n c : Nat) (ps : List Pt) (u v : Int) (w : World) (h : RdP w w.heap.size A n ps) (hbk : layB z y ps = true) :
    Calls Try.prog 16 #[.agg #[.int .i64 z, .int .i64 y, .slice A n c], .int .i64 u, .int .i64 v] w fun e w' => e = .returned (.int .i64 (patchAtB z y ps u v)) ∧ Below w.heap.size w w' := by
  obtain ⟨hz1', hz2', hy1', hy2', hn1', hn2'⟩ := dimOk_t (layB_p hbk).1
  have hle := h.le
  have HL := Lib.hid h.1
  have HA := Lib.hid (layB_p hbk).2.1
  have H := Lib.hid h
  rw [h.1] at hn1' hn2'
  clear h
  have HE := Lib.hid (patchAtB_t (u := u) (v := v) hbk)
  go_enter Try.func16, Try.ntmps16
  go_wp2_with (go_at_call 19; refine (impl_LayoutOk _ _ _ _ _ _ _ (H.out.below' (by (repeat' (first | (with_reducible exact Below.refl _ _) | (with_reducible refine Below.setCell ?_ ?_ _) | (with_reducible refine Below.alloc ?_ ?_ _) | (with_reducible refine Below.drew ?_) | (with_reducible refine Below.drewN ?_ _) | (with_reducible refine Below.trans ?_ (Below.mono (by with_reducible assumption) ?_)) | go_size | (dsimp only; omega)))) (by go_size))).mono ?_; rintro e w1 ⟨rfl, hb1⟩; have hx1 := bsize hb1; (try simp at hx1); obtain ⟨hc1, hf1, hz1⟩ := bcell hb1 (b := w.heap.size) (by go_size))
  have HW := Lib.hid (show Below w.heap.size w w1 by (repeat' (first | (with_reducible exact Below.refl _ _) | (with_reducible refine Below.setCell ?_ ?_ _) | (with_reducible refine Below.alloc ?_ ?_ _) | (with_reducible refine Below.drew ?_) | (with_reducible refine Below.drewN ?_ _) | (with_reducible refine Below.trans ?_ (Below.mono (by with_reducible assumption) ?_)) | go_size | (dsimp only; omega))))
  have hxw : w.heap.size + 1 ≤ w1.heap.size := by omega
  clear hb1
  have l0 : w1.cell? ⟨w.heap.size, 0, none⟩ = some (.int .i64 z) := (hc1 0).trans (by rw [World.cell?_alloc_new]; rfl)
  have l1 : w1.cell? ⟨w.heap.size, 1, none⟩ = some (.int .i64 y) := (hc1 1).trans (by rw [World.cell?_alloc_new]; rfl)
  have l2 : w1.cell? ⟨w.heap.size, 2, none⟩ = some (.slice A n c) := (hc1 2).trans (by rw [World.cell?_alloc_new]; rfl)
  clear hc1 hf1
  go_loopw [15] (fun i wr => ∃ (k : Nat), k ≤ n ∧ i = .int .i64 k ∧ Hid (∀ j, j < k → hasP (pith ps j) u v = false) ∧ Hid (Below w1.heap.size w1 wr)) (fun i _ => n - (intOf i).toNat)
  case atStart => exact ⟨0, by omega, rfl, fun j hj => absurd hj (by omega), Below.refl _ _⟩
  case round =>
    obtain ⟨k, hk, rfl, hp, hb⟩ := hrel
    have hy := hb.out.size
    have p0 : wr.cell? ⟨w.heap.size, 0, none⟩ = some (.int .i64 z) := (hb.out.cell (p := ⟨w.heap.size, 0, none⟩) (by dsimp only; omega)).trans l0
    have p1 : wr.cell? ⟨w.heap.size, 1, none⟩ = some (.int .i64 y) := (hb.out.cell (p := ⟨w.heap.size, 1, none⟩) (by dsimp only; omega)).trans l1
    have p2 : wr.cell? ⟨w.heap.size, 2, none⟩ = some (.slice A n c) := (hb.out.cell (p := ⟨w.heap.size, 2, none⟩) (by dsimp only; omega)).trans l2
    have HRD := Lib.hid (H.out.below' (HW.out.trans (hb.out.mono (by omega))) (show w.heap.size ≤ wr.heap.size by have := hb.out.size; omega))
    by_cases hlt : k < n
    · obtain ⟨g, off, rfl, d0, d1, d2, d3, d4⟩ := RdP.at5 HRD.out hlt
      obtain ⟨a1, a2, a3, a4, a5, a6, _, _⟩ := okPt_t (HA.out k (by rw [HL.out]; exact hlt))
      cases hq : hasP (pith ps k) u v with
      | true =>
        have HQ := Lib.hid hq
        go_wp2_with (go_at_call 67; (with_reducible refine (impl_has (pith ps k) _ _ _ ?_ ?_ ?_ ?_ ?_ ?_ ?_ ?_).mono ?_); (iterate 8 omega); rintro e w4 ⟨rfl, hb4⟩; have HB4 := Lib.hid ((hb.out.alloc (by omega) _).trans (hb4.mono (by simp; omega))); clear hb4)
        go_ret
        exact ⟨ret_int (by rw [HE.out, atP_hit (by rw [HL.out]; exact hlt) hp.out HQ.out]), HW.out.trans (HB4.out.mono (by omega))⟩
      | false =>
        have HQ := Lib.hid hq
        go_wp2_with (go_at_call 67; (with_reducible refine (impl_has (pith ps k) _ _ _ ?_ ?_ ?_ ?_ ?_ ?_ ?_ ?_).mono ?_); (iterate 8 omega); rintro e w4 ⟨rfl, hb4⟩; have HB4 := Lib.hid ((hb.out.alloc (by omega) _).trans (hb4.mono (by simp; omega))); clear hb4)
        go_roundw
        case rel => exact ⟨k + 1, by omega, by go_num, step_all (P := fun j => hasP (pith ps j) u v = false) hp.out HQ.out, HB4.out⟩
        case measure => simp [intOf]; omega
    · go_wp2
      go_ret
      exact ⟨ret_int (by rw [HE.out, atP_none (fun j hj => hp.out j (by have := HL.out; omega))]), HW.out.trans (hb.out.mono (by omega))⟩
theorem impl_PatchAt (z y : Int) (A : Option Addr) (n c : Nat) (ps : List Pt) (u v : Int) (w : World) (h : RdP w w.heap.size A n ps) :
    Calls Try.prog 16 #[.agg #[.int .i64 z, .int .i64 y, .slice A n c], .int .i64 u, .int .i64 v] w fun e w' => e = .returned (.int .i64 (patchAtB z y ps u v)) ∧ Below w.heap.size w w' := by
  cases hbk : layB z y ps with
  | true => exact impl_PatchAt_yes z y A n c ps u v w h hbk
  | false => exact impl_PatchAt_no z y A n c ps u v w h hbk


end Go.Proofs.Ytlcllpgbpjdofaa
