/- Walks of AreBeside, both sides. No condition. -/
import Derived.Test.YtlcllpgbpjdofaaSe
set_option linter.unusedSimpArgs false
set_option linter.unusedVariables false
set_option maxRecDepth 100000
namespace Go.Proofs.Ytlcllpgbpjdofaa
open Go.RowKit

/-- how much two ranges have in common -/
def comm (a m b n : Int) : Int := min (a + m) (b + n) - max a b
def besP (p q : Pt) : Bool := (comm p.x p.w q.x q.w == 0 && decide (0 < comm p.y p.h q.y q.h)) || (comm p.y p.h q.y q.h == 0 && decide (0 < comm p.x p.w q.x q.w))
def besI (ps : List Pt) (i k : Int) : Bool := inB i 0 (ps.length - 1) && (inB k 0 (ps.length - 1) && (!(i == k) && besP (pith ps i.toNat) (pith ps k.toNat)))
noncomputable def besB (z y : Int) (ps : List Pt) (i k : Int) : Bool := layB z y ps && besI ps i k

theorem impl_common (a m b n : Int) (w : World) (h1 : 0 ≤ a) (h2 : a ≤ 1000) (h3 : 0 ≤ m) (h4 : m ≤ 1000) (h5 : 0 ≤ b) (h6 : b ≤ 1000) (h7 : 0 ≤ n) (h8 : n ≤ 1000) :
    Calls Try.prog 69 #[.int .i64 a, .int .i64 m, .int .i64 b, .int .i64 n] w fun e w' => e = .returned (.int .i64 (comm a m b n)) ∧ w = w' := by
  go_enter Try.func69, Try.ntmps69
  go_wp2
  all_goals (go_ret; exact ⟨ret_int (by unfold comm; omega), rfl⟩)

theorem besI_1 {ps : List Pt} {i k : Int} {n : Nat} (hn : ps.length = n) (h : inB i 0 (n - 1) = false) : besI ps i k = false := by rw [besI, hn, h]; rfl
theorem besI_2 {ps : List Pt} {i k : Int} {n : Nat} (hn : ps.length = n) (h : inB k 0 (n - 1) = false) : besI ps i k = false := by rw [besI, hn, h, Bool.false_and, Bool.and_false]
theorem besI_3 {ps : List Pt} {i k : Int} (h : (i == k) = true) : besI ps i k = false := by rw [besI, h, Bool.not_true, Bool.false_and, Bool.and_false, Bool.and_false]
theorem besI_t {ps : List Pt} {i k n : Nat} (hn : ps.length = n) (hi : i < n) (hk : k < n) (h : i ≠ k) : besI ps i k = besP (pith ps i) (pith ps k) := by
  rw [besI, hn, inB_t (by omega) (by omega), inB_t (by omega) (by omega), Int.toNat_natCast, Int.toNat_natCast]
  have : ((i : Int) == (k : Int)) = false := by simp; omega
  rw [this]; rfl

set_option maxRecDepth 100000 in
set_option maxHeartbeats 2000000 in
theorem impl_AreBeside_no (z y : Int) (A : Option Addr) (n c : Nat) (ps : List Pt) (i k : Int) (w : World) (h : RdP w w.heap.size A n ps) (hbk : layB z y ps = false) :
    Calls Try.prog 17 #[.agg #[.int .i64 z, .int .i64 y, .slice A n c], .int .i64 i, .int .i64 k] w fun e w' => e = .returned (.bool (besB z y ps i k)) ∧ Below w.heap.size w w' := by
  have HE := Lib.hid (show besB z y ps i k = false by rw [besB, hbk]; rfl)
  have hle := h.le
  have H := Lib.hid h
  clear h
  go_enter Try.func17, Try.ntmps17
  go_wp2_with (go_at_call 19; refine (impl_LayoutOk _ _ _ _ _ _ _ (H.out.below' (by (repeat' (first | (with_reducible exact Below.refl _ _) | (with_reducible refine Below.setCell ?_ ?_ _) | (with_reducible refine Below.alloc ?_ ?_ _) | (with_reducible refine Below.drew ?_) | (with_reducible refine Below.drewN ?_ _) | (with_reducible refine Below.trans ?_ (Below.mono (by with_reducible assumption) ?_)) | go_size | (dsimp only; omega)))) (by go_size))).mono ?_; rintro e w1 ⟨rfl, hb1⟩; have hx1 := bsize hb1; (try simp at hx1); obtain ⟨hc1, hf1, hz1⟩ := bcell hb1 (b := w.heap.size) (by go_size))
  go_ret
  exact ⟨ret_bool HE.out.symm, by (repeat' (first | (with_reducible exact Below.refl _ _) | (with_reducible refine Below.setCell ?_ ?_ _) | (with_reducible refine Below.alloc ?_ ?_ _) | (with_reducible refine Below.drew ?_) | (with_reducible refine Below.drewN ?_ _) | (with_reducible refine Below.trans ?_ (Below.mono (by with_reducible assumption) ?_)) | go_size | (dsimp only; omega)))⟩
set_option maxRecDepth 100000 in
set_option maxHeartbeats 2000000 in
theorem impl_AreBeside_out1 (z y : Int) (A : Option Addr) (n c : Nat) (ps : List Pt) (i k : Int) (w : World) (h : RdP w w.heap.size A n ps) (hbk : layB z y ps = true) (hi : inB i 0 (n - 1) = false) :
    Calls Try.prog 17 #[.agg #[.int .i64 z, .int .i64 y, .slice A n c], .int .i64 i, .int .i64 k] w fun e w' => e = .returned (.bool (besB z y ps i k)) ∧ Below w.heap.size w w' := by
  have HE := Lib.hid (show besB z y ps i k = false by rw [besB, besI_1 h.1 hi, Bool.and_false])
  obtain ⟨hz1', hz2', hy1', hy2', hn1', hn2'⟩ := dimOk_t (layB_p hbk).1
  have hle := h.le
  have HL := Lib.hid h.1
  have HA := Lib.hid (layB_p hbk).2.1
  have H := Lib.hid h
  rw [h.1] at hn1' hn2'
  clear h
  go_enter Try.func17, Try.ntmps17
  go_wp2_with (first
    | (go_at_call 19; refine (impl_LayoutOk _ _ _ _ _ _ _ (H.out.below' (by (repeat' (first | (with_reducible exact Below.refl _ _) | (with_reducible refine Below.setCell ?_ ?_ _) | (with_reducible refine Below.alloc ?_ ?_ _) | (with_reducible refine Below.drew ?_) | (with_reducible refine Below.drewN ?_ _) | (with_reducible refine Below.trans ?_ (Below.mono (by with_reducible assumption) ?_)) | go_size | (dsimp only; omega)))) (by go_size))).mono ?_; rintro e w1 ⟨rfl, hb1⟩; have hx1 := bsize hb1; (try simp at hx1); obtain ⟨hc1, hf1, hz1⟩ := bcell hb1 (b := w.heap.size) (by go_size); have l0 : w1.cell? ⟨w.heap.size, 0, none⟩ = some (.int .i64 z) := (hc1 0).trans (by rw [World.cell?_alloc_new]; rfl); have l1 : w1.cell? ⟨w.heap.size, 1, none⟩ = some (.int .i64 y) := (hc1 1).trans (by rw [World.cell?_alloc_new]; rfl); have l2 : w1.cell? ⟨w.heap.size, 2, none⟩ = some (.slice A n c) := (hc1 2).trans (by rw [World.cell?_alloc_new]; rfl); clear hc1 hf1)
    | (go_at_call 68; refine (impl_within _ _ _ _).mono ?_; rintro e w' ⟨rfl, rfl⟩))
  go_ret
  exact ⟨ret_bool HE.out.symm, by (repeat' (first | (with_reducible exact Below.refl _ _) | (with_reducible refine Below.setCell ?_ ?_ _) | (with_reducible refine Below.alloc ?_ ?_ _) | (with_reducible refine Below.drew ?_) | (with_reducible refine Below.drewN ?_ _) | (with_reducible refine Below.trans ?_ (Below.mono (by with_reducible assumption) ?_)) | go_size | (dsimp only; omega)))⟩
set_option maxRecDepth 100000 in
set_option maxHeartbeats 2000000 in
theorem impl_AreBeside_out2 (z y : Int) (A : Option Addr) (n c : Nat) (ps : List Pt) (i k : Int) (w : World) (h : RdP w w.heap.size A n ps) (hbk : layB z y ps = true) (hi : inB i 0 (n - 1) = true) (hk : inB k 0 (n - 1) = false) :
    Calls Try.prog 17 #[.agg #[.int .i64 z, .int .i64 y, .slice A n c], .int .i64 i, .int .i64 k] w fun e w' => e = .returned (.bool (besB z y ps i k)) ∧ Below w.heap.size w w' := by
  have HE := Lib.hid (show besB z y ps i k = false by rw [besB, besI_2 h.1 hk, Bool.and_false])
  obtain ⟨hz1', hz2', hy1', hy2', hn1', hn2'⟩ := dimOk_t (layB_p hbk).1
  have hle := h.le
  have HL := Lib.hid h.1
  have HA := Lib.hid (layB_p hbk).2.1
  have H := Lib.hid h
  rw [h.1] at hn1' hn2'
  clear h
  go_enter Try.func17, Try.ntmps17
  go_wp2_with (first
    | (go_at_call 19; refine (impl_LayoutOk _ _ _ _ _ _ _ (H.out.below' (by (repeat' (first | (with_reducible exact Below.refl _ _) | (with_reducible refine Below.setCell ?_ ?_ _) | (with_reducible refine Below.alloc ?_ ?_ _) | (with_reducible refine Below.drew ?_) | (with_reducible refine Below.drewN ?_ _) | (with_reducible refine Below.trans ?_ (Below.mono (by with_reducible assumption) ?_)) | go_size | (dsimp only; omega)))) (by go_size))).mono ?_; rintro e w1 ⟨rfl, hb1⟩; have hx1 := bsize hb1; (try simp at hx1); obtain ⟨hc1, hf1, hz1⟩ := bcell hb1 (b := w.heap.size) (by go_size); have l0 : w1.cell? ⟨w.heap.size, 0, none⟩ = some (.int .i64 z) := (hc1 0).trans (by rw [World.cell?_alloc_new]; rfl); have l1 : w1.cell? ⟨w.heap.size, 1, none⟩ = some (.int .i64 y) := (hc1 1).trans (by rw [World.cell?_alloc_new]; rfl); have l2 : w1.cell? ⟨w.heap.size, 2, none⟩ = some (.slice A n c) := (hc1 2).trans (by rw [World.cell?_alloc_new]; rfl); clear hc1 hf1)
    | (go_at_call 68; refine (impl_within _ _ _ _).mono ?_; rintro e w' ⟨rfl, rfl⟩))
  go_ret
  exact ⟨ret_bool HE.out.symm, by (repeat' (first | (with_reducible exact Below.refl _ _) | (with_reducible refine Below.setCell ?_ ?_ _) | (with_reducible refine Below.alloc ?_ ?_ _) | (with_reducible refine Below.drew ?_) | (with_reducible refine Below.drewN ?_ _) | (with_reducible refine Below.trans ?_ (Below.mono (by with_reducible assumption) ?_)) | go_size | (dsimp only; omega)))⟩
set_option maxRecDepth 100000 in
set_option maxHeartbeats 2000000 in
theorem impl_AreBeside_out3 (z y : Int) (A : Option Addr) (n c : Nat) (ps : List Pt) (i k : Int) (w : World) (h : RdP w w.heap.size A n ps) (hbk : layB z y ps = true) (hi : inB i 0 (n - 1) = true) (hk : inB k 0 (n - 1) = true) (hik : (i == k) = true) :
    Calls Try.prog 17 #[.agg #[.int .i64 z, .int .i64 y, .slice A n c], .int .i64 i, .int .i64 k] w fun e w' => e = .returned (.bool (besB z y ps i k)) ∧ Below w.heap.size w w' := by
  have HE := Lib.hid (show besB z y ps i k = false by rw [besB, besI_3 hik, Bool.and_false])
  obtain ⟨hz1', hz2', hy1', hy2', hn1', hn2'⟩ := dimOk_t (layB_p hbk).1
  have hle := h.le
  have HL := Lib.hid h.1
  have HA := Lib.hid (layB_p hbk).2.1
  have H := Lib.hid h
  rw [h.1] at hn1' hn2'
  clear h
  go_enter Try.func17, Try.ntmps17
  go_wp2_with (first
    | (go_at_call 19; refine (impl_LayoutOk _ _ _ _ _ _ _ (H.out.below' (by (repeat' (first | (with_reducible exact Below.refl _ _) | (with_reducible refine Below.setCell ?_ ?_ _) | (with_reducible refine Below.alloc ?_ ?_ _) | (with_reducible refine Below.drew ?_) | (with_reducible refine Below.drewN ?_ _) | (with_reducible refine Below.trans ?_ (Below.mono (by with_reducible assumption) ?_)) | go_size | (dsimp only; omega)))) (by go_size))).mono ?_; rintro e w1 ⟨rfl, hb1⟩; have hx1 := bsize hb1; (try simp at hx1); obtain ⟨hc1, hf1, hz1⟩ := bcell hb1 (b := w.heap.size) (by go_size); have l0 : w1.cell? ⟨w.heap.size, 0, none⟩ = some (.int .i64 z) := (hc1 0).trans (by rw [World.cell?_alloc_new]; rfl); have l1 : w1.cell? ⟨w.heap.size, 1, none⟩ = some (.int .i64 y) := (hc1 1).trans (by rw [World.cell?_alloc_new]; rfl); have l2 : w1.cell? ⟨w.heap.size, 2, none⟩ = some (.slice A n c) := (hc1 2).trans (by rw [World.cell?_alloc_new]; rfl); clear hc1 hf1)
    | (go_at_call 68; refine (impl_within _ _ _ _).mono ?_; rintro e w' ⟨rfl, rfl⟩))
  go_ret
  exact ⟨ret_bool HE.out.symm, by (repeat' (first | (with_reducible exact Below.refl _ _) | (with_reducible refine Below.setCell ?_ ?_ _) | (with_reducible refine Below.alloc ?_ ?_ _) | (with_reducible refine Below.drew ?_) | (with_reducible refine Below.drewN ?_ _) | (with_reducible refine Below.trans ?_ (Below.mono (by with_reducible assumption) ?_)) | go_size | (dsimp only; omega)))⟩
set_option maxRecDepth 100000 in
set_option maxHeartbeats 4000000 in
theorem impl_AreBeside_in (z y : Int) (A : Option Addr) (n c : Nat) (ps : List Pt) (i k : Nat) (w : World) (h : RdP w w.heap.size A n ps) (hbk : layB z y ps = true) (hi : i < n) (hk : k < n) (hik : i ≠ k) :
    Calls Try.prog 17 #[.agg #[.int .i64 z, .int .i64 y, .slice A n c], .int .i64 i, .int .i64 k] w fun e w' => e = .returned (.bool (besB z y ps i k)) ∧ Below w.heap.size w w' := by
  have HE := Lib.hid (show besB z y ps i k = besP (pith ps i) (pith ps k) by rw [besB, hbk, besI_t h.1 hi hk hik]; rfl)
  obtain ⟨hz1', hz2', hy1', hy2', hn1', hn2'⟩ := dimOk_t (layB_p hbk).1
  have hle := h.le
  have HL := Lib.hid h.1
  have HA := Lib.hid (layB_p hbk).2.1
  have H := Lib.hid h
  rw [h.1] at hn1' hn2'
  clear h
  have j1 : inB (i : Int) 0 (n - 1) = true := inB_t (by omega) (by omega)
  have j2 : inB (k : Int) 0 (n - 1) = true := inB_t (by omega) (by omega)
  have j3 : ((i : Int) == (k : Int)) = false := by simp; omega
  obtain ⟨a1, a2, a3, a4, a5, a6, _, _⟩ := okPt_t (HA.out i (by rw [HL.out]; exact hi))
  obtain ⟨b1, b2, b3, b4, b5, b6, _, _⟩ := okPt_t (HA.out k (by rw [HL.out]; exact hk))
  have i1 : (0 : Int) ≤ (i : Int) := by omega
  have i2 : (i : Int) < (n : Int) := by omega
  have i3 : (0 : Int) ≤ (k : Int) := by omega
  have i4 : (k : Int) < (n : Int) := by omega
  obtain ⟨g, off, rfl, hgl, _⟩ := H.out.2.2 (show 0 < n by omega)
  go_enter Try.func17, Try.ntmps17
  go_wp2_with (first
    | (go_at_call 19; refine (impl_LayoutOk _ _ _ _ _ _ _ (H.out.below' (by (repeat' (first | (with_reducible exact Below.refl _ _) | (with_reducible refine Below.setCell ?_ ?_ _) | (with_reducible refine Below.alloc ?_ ?_ _) | (with_reducible refine Below.drew ?_) | (with_reducible refine Below.drewN ?_ _) | (with_reducible refine Below.trans ?_ (Below.mono (by with_reducible assumption) ?_)) | go_size | (dsimp only; omega)))) (by go_size))).mono ?_; rintro e w1 ⟨rfl, hb1⟩; have hx1 := bsize hb1; (try simp at hx1); obtain ⟨hc1, hf1, hz1⟩ := bcell hb1 (b := w.heap.size) (by go_size); have l0 : w1.cell? ⟨w.heap.size, 0, none⟩ = some (.int .i64 z) := (hc1 0).trans (by rw [World.cell?_alloc_new]; rfl); have l1 : w1.cell? ⟨w.heap.size, 1, none⟩ = some (.int .i64 y) := (hc1 1).trans (by rw [World.cell?_alloc_new]; rfl); have l2 : w1.cell? ⟨w.heap.size, 2, none⟩ = some (.slice (some ⟨g, off, none⟩) n c) := (hc1 2).trans (by rw [World.cell?_alloc_new]; rfl); clear hc1 hf1; have HW := Lib.hid (show Below w.heap.size w w1 by (repeat' (first | (with_reducible exact Below.refl _ _) | (with_reducible refine Below.setCell ?_ ?_ _) | (with_reducible refine Below.alloc ?_ ?_ _) | (with_reducible refine Below.drew ?_) | (with_reducible refine Below.drewN ?_ _) | (with_reducible refine Below.trans ?_ (Below.mono (by with_reducible assumption) ?_)) | go_size | (dsimp only; omega)))); obtain ⟨ga, oa, hA, d0, d1, d2, d3, d4⟩ := RdP.at5 (H.out.below HW.out) hi; obtain ⟨gb, ob, hB, s0, s1, s2, s3, s4⟩ := RdP.at5 (H.out.below HW.out) hk; simp only [Option.some.injEq, Addr.mk.injEq, and_true] at hA hB; obtain ⟨rfl, rfl⟩ := hA; obtain ⟨rfl, rfl⟩ := hB; have hgw : g < w1.heap.size := by omega)
    | (go_at_call 68; refine (impl_within _ _ _ _).mono ?_; rintro e w' ⟨rfl, rfl⟩))
  clear j1 j2 j3
  go_region
  all_goals
    go_wp2_with fail
    go_quiet ((first | (go_at_call 69; exact quiet_left (impl_common _ _ _ _ _ (by omega) (by omega) (by omega) (by omega) (by omega) (by omega) (by omega) (by omega))) | (go_at_call 69; exact quiet_add_left (impl_common _ _ _ _ _ (by omega) (by omega) (by omega) (by omega) (by omega) (by omega) (by omega) (by omega)))))
    cases t1 : (comm (pith ps i).x (pith ps i).w (pith ps k).x (pith ps k).w == 0) with
    | true =>
      cases t2 : decide (0 < comm (pith ps i).y (pith ps i).h (pith ps k).y (pith ps k).h) with
      | true =>
        have HF := Lib.hid (show besB z y ps i k = true by rw [HE.out, besP, t1, t2]; rfl)
        go_wp2
        go_ret
        exact ⟨ret_bool HF.out.symm, by have hW := HW.out; (repeat' (first | (with_reducible exact Below.refl _ _) | (with_reducible refine Below.setCell ?_ ?_ _) | (with_reducible refine Below.alloc ?_ ?_ _) | (with_reducible refine Below.drew ?_) | (with_reducible refine Below.drewN ?_ _) | (with_reducible refine Below.trans ?_ (Below.mono (by with_reducible assumption) ?_)) | go_size | (dsimp only; omega)))⟩
      | false =>
        cases t3 : (comm (pith ps i).y (pith ps i).h (pith ps k).y (pith ps k).h == 0) with
        | true =>
          have HF := Lib.hid (show besB z y ps i k = decide (0 < comm (pith ps i).x (pith ps i).w (pith ps k).x (pith ps k).w) by rw [HE.out, besP, t1, t2, t3]; rfl)
          go_wp2
          go_ret
          exact ⟨ret_bool HF.out.symm, by have hW := HW.out; (repeat' (first | (with_reducible exact Below.refl _ _) | (with_reducible refine Below.setCell ?_ ?_ _) | (with_reducible refine Below.alloc ?_ ?_ _) | (with_reducible refine Below.drew ?_) | (with_reducible refine Below.drewN ?_ _) | (with_reducible refine Below.trans ?_ (Below.mono (by with_reducible assumption) ?_)) | go_size | (dsimp only; omega)))⟩
        | false =>
          have HF := Lib.hid (show besB z y ps i k = false by rw [HE.out, besP, t1, t2, t3]; rfl)
          go_wp2
          go_ret
          exact ⟨ret_bool HF.out.symm, by have hW := HW.out; (repeat' (first | (with_reducible exact Below.refl _ _) | (with_reducible refine Below.setCell ?_ ?_ _) | (with_reducible refine Below.alloc ?_ ?_ _) | (with_reducible refine Below.drew ?_) | (with_reducible refine Below.drewN ?_ _) | (with_reducible refine Below.trans ?_ (Below.mono (by with_reducible assumption) ?_)) | go_size | (dsimp only; omega)))⟩
    | false =>
      cases t3 : (comm (pith ps i).y (pith ps i).h (pith ps k).y (pith ps k).h == 0) with
      | true =>
        have HF := Lib.hid (show besB z y ps i k = decide (0 < comm (pith ps i).x (pith ps i).w (pith ps k).x (pith ps k).w) by rw [HE.out, besP, t1, t3]; rfl)
        go_wp2
        go_ret
        exact ⟨ret_bool HF.out.symm, by have hW := HW.out; (repeat' (first | (with_reducible exact Below.refl _ _) | (with_reducible refine Below.setCell ?_ ?_ _) | (with_reducible refine Below.alloc ?_ ?_ _) | (with_reducible refine Below.drew ?_) | (with_reducible refine Below.drewN ?_ _) | (with_reducible refine Below.trans ?_ (Below.mono (by with_reducible assumption) ?_)) | go_size | (dsimp only; omega)))⟩
      | false =>
        have HF := Lib.hid (show besB z y ps i k = false by rw [HE.out, besP, t1, t3]; rfl)
        go_wp2
        go_ret
        exact ⟨ret_bool HF.out.symm, by have hW := HW.out; (repeat' (first | (with_reducible exact Below.refl _ _) | (with_reducible refine Below.setCell ?_ ?_ _) | (with_reducible refine Below.alloc ?_ ?_ _) | (with_reducible refine Below.drew ?_) | (with_reducible refine Below.drewN ?_ _) | (with_reducible refine Below.trans ?_ (Below.mono (by with_reducible assumption) ?_)) | go_size | (dsimp only; omega)))⟩
theorem impl_AreBeside (z y : Int) (A : Option Addr) (n c : Nat) (ps : List Pt) (i k : Int) (w : World) (h : RdP w w.heap.size A n ps) :
    Calls Try.prog 17 #[.agg #[.int .i64 z, .int .i64 y, .slice A n c], .int .i64 i, .int .i64 k] w fun e w' => e = .returned (.bool (besB z y ps i k)) ∧ Below w.heap.size w w' := by
  cases hbk : layB z y ps with
  | false => exact impl_AreBeside_no z y A n c ps i k w h hbk
  | true =>
    cases hi : inB i 0 (n - 1) with
    | false => exact impl_AreBeside_out1 z y A n c ps i k w h hbk hi
    | true =>
      cases hk : inB k 0 (n - 1) with
      | false => exact impl_AreBeside_out2 z y A n c ps i k w h hbk hi hk
      | true =>
        cases hik : (i == k) with
        | true => exact impl_AreBeside_out3 z y A n c ps i k w h hbk hi hk hik
        | false =>
          have r1 := inB_r hi
          have r2 := inB_r hk
          obtain ⟨i, rfl⟩ := Int.eq_ofNat_of_zero_le r1.1
          obtain ⟨k, rfl⟩ := Int.eq_ofNat_of_zero_le r2.1
          exact impl_AreBeside_in z y A n c ps i k w h hbk (by omega) (by omega) (by intro e; subst e; simp at hik)

/-- as the reference says it -/
def spB (p q : Pt) : Bool := if (p.x + p.w == q.x || q.x + q.w == p.x) = true then decide (p.y < q.y + q.h) && decide (q.y < p.y + p.h) else if (p.y + p.h == q.y || q.y + q.h == p.y) = true then decide (p.x < q.x + q.w) && decide (q.x < p.x + p.w) else false
theorem besP_eq {p q : Pt} (h1 : 1 ≤ p.w) (h2 : 1 ≤ p.h) (h3 : 1 ≤ q.w) (h4 : 1 ≤ q.h) : besP p q = spB p q := by
  rw [Bool.eq_iff_iff]
  unfold besP spB comm
  simp only [Bool.or_eq_true, Bool.and_eq_true, beq_iff_eq, decide_eq_true_eq]
  split
  · simp only [Bool.and_eq_true, decide_eq_true_eq]; omega
  · split
    · simp only [Bool.and_eq_true, decide_eq_true_eq]; omega
    · simp only [Bool.false_eq_true, iff_false]; omega


end Go.Proofs.Ytlcllpgbpjdofaa
