/- Walks of LayoutOk, both sides. No condition. -/
import Derived.Test.YtlcllpgbpjdofaaLay
import Derived.Deep.RegionHeld3
import Derived.Deep.QuietTactic
import Derived.BigQuiet
set_option linter.unusedSimpArgs false
set_option linter.unusedVariables false
namespace Go.Proofs.Ytlcllpgbpjdofaa
open Go.RowKit

theorem okPt_f {W H : Int} {p : Pt} (h : inB p.x 0 (W - 1) = false ∨ inB p.y 0 (H - 1) = false ∨ inB p.w 1 (W - p.x) = false ∨ inB p.h 1 (H - p.y) = false ∨ inB p.c 0 5 = false) : okPt W H p = false := by
  unfold okPt
  rcases h with h | h | h | h | h <;> simp [h]
theorem inB_r {x a b : Int} (h : inB x a b = true) : a ≤ x ∧ x ≤ b := by simpa [inB] using h
theorem layB_dim {W H : Int} {ps : List Pt} (h : dimOk W H ps.length = false) : layB W H ps = false := layB_f (fun hl => by have := hl.1; rw [h] at this; cases this)
theorem layB_pt {W H : Int} {ps : List Pt} {k : Nat} (hk : k < ps.length) (h : okPt W H (pith ps k) = false) : layB W H ps = false := layB_f (fun hl => by have := hl.2.1 k hk; rw [h] at this; cases this)
theorem dimOk_f {W H : Int} {n : Nat} (h : inB W 1 12 = false ∨ inB H 1 12 = false ∨ inB n 1 12 = false) : dimOk W H n = false := by
  unfold dimOk
  rcases h with h | h | h <;> simp [h]
theorem mul_bd {a b : Int} (h1 : 0 ≤ a) (h2 : a ≤ 12) (h3 : 0 ≤ b) (h4 : b ≤ 12) : 0 ≤ a * b ∧ a * b ≤ 144 := by
  constructor
  · exact Int.mul_nonneg h1 h3
  · calc a * b ≤ 12 * b := Int.mul_le_mul_of_nonneg_right h2 h3
      _ ≤ 12 * 12 := Int.mul_le_mul_of_nonneg_left h4 (by omega)
      _ = 144 := rfl
theorem areaP_succ {ps : List Pt} {k : Nat} (h : k < ps.length) : areaP (ps.take (k + 1)) = areaP (ps.take k) + (pith ps k).w * (pith ps k).h := by
  unfold areaP
  rw [List.take_succ_eq_append_getElem h, List.map_append, List.sum_append, pith_get h]; simp
theorem cntP_succ {ps : List Pt} {k : Nat} (h : k < ps.length) (x y : Int) : cntP (ps.take (k + 1)) x y = cntP (ps.take k) x y + (if hasP (pith ps k) x y then 1 else 0) := by
  unfold cntP
  rw [List.take_succ_eq_append_getElem h, List.countP_append, pith_get h]; simp [List.countP_cons]
theorem cntP_le (ps : List Pt) (k : Nat) (x y : Int) : cntP (ps.take k) x y ≤ k := Nat.le_trans List.countP_le_length (List.length_take_le _ _)

set_option maxHeartbeats 400000 in
theorem impl_has (p : Pt) (x y : Int) (w : World) (h1 : 0 ≤ p.x) (h2 : p.x ≤ 1000) (h3 : 0 ≤ p.w) (h4 : p.w ≤ 1000) (h5 : 0 ≤ p.y) (h6 : p.y ≤ 1000) (h7 : 0 ≤ p.h) (h8 : p.h ≤ 1000) :
    Calls Try.prog 67 #[.agg #[.int .i64 p.x, .int .i64 p.y, .int .i64 p.w, .int .i64 p.h, .int .i64 p.c], .int .i64 x, .int .i64 y] w fun e w' => e = .returned (.bool (hasP p x y)) ∧ Below w.heap.size w w' := by
  cases c1 : decide (p.x ≤ x) with
  | false =>
    have HE := Lib.hid (show hasP p x y = false by simp [hasP, c1])
    go_enter Try.func67, Try.ntmps67
    go_wp2
    go_ret
    exact ⟨ret_bool HE.out.symm, by (repeat' (first | (with_reducible exact Below.refl _ _) | (with_reducible refine Below.setCell ?_ ?_ _) | (with_reducible refine Below.alloc ?_ ?_ _) | (with_reducible refine Below.drew ?_) | (with_reducible refine Below.drewN ?_ _) | (with_reducible refine Below.trans ?_ (Below.mono (by with_reducible assumption) ?_)) | go_size | (dsimp only; omega)))⟩
  | true =>
    cases c2 : decide (x < p.x + p.w) with
    | false =>
      have HE := Lib.hid (show hasP p x y = false by simp [hasP, c2])
      go_enter Try.func67, Try.ntmps67
      go_wp2
      go_ret
      exact ⟨ret_bool HE.out.symm, by (repeat' (first | (with_reducible exact Below.refl _ _) | (with_reducible refine Below.setCell ?_ ?_ _) | (with_reducible refine Below.alloc ?_ ?_ _) | (with_reducible refine Below.drew ?_) | (with_reducible refine Below.drewN ?_ _) | (with_reducible refine Below.trans ?_ (Below.mono (by with_reducible assumption) ?_)) | go_size | (dsimp only; omega)))⟩
    | true =>
      cases c3 : decide (p.y ≤ y) with
      | false =>
        have HE := Lib.hid (show hasP p x y = false by simp [hasP, c3])
        go_enter Try.func67, Try.ntmps67
        go_wp2
        go_ret
        exact ⟨ret_bool HE.out.symm, by (repeat' (first | (with_reducible exact Below.refl _ _) | (with_reducible refine Below.setCell ?_ ?_ _) | (with_reducible refine Below.alloc ?_ ?_ _) | (with_reducible refine Below.drew ?_) | (with_reducible refine Below.drewN ?_ _) | (with_reducible refine Below.trans ?_ (Below.mono (by with_reducible assumption) ?_)) | go_size | (dsimp only; omega)))⟩
      | true =>
        have HE := Lib.hid (show hasP p x y = decide (y < p.y + p.h) by simp [hasP, c1, c2, c3])
        go_enter Try.func67, Try.ntmps67
        go_wp2
        go_ret
        exact ⟨ret_bool HE.out.symm, by (repeat' (first | (with_reducible exact Below.refl _ _) | (with_reducible refine Below.setCell ?_ ?_ _) | (with_reducible refine Below.alloc ?_ ?_ _) | (with_reducible refine Below.drew ?_) | (with_reducible refine Below.drewN ?_ _) | (with_reducible refine Below.trans ?_ (Below.mono (by with_reducible assumption) ?_)) | go_size | (dsimp only; omega)))⟩

theorem bcell_in {B : Nat} {W w1 : World} (hb : Below B W w1) {b : Nat} (h : b < B) (hw : b < W.heap.size) : (∀ o, w1.cell? ⟨b, o, none⟩ = W.cell? ⟨b, o, none⟩) ∧ (∀ o, w1.frozen? ⟨b, o, none⟩ = W.frozen? ⟨b, o, none⟩) ∧ b < w1.heap.size :=
  ⟨fun o => hb.cell (p := ⟨b, o, none⟩) h, fun o => hb.frozen (p := ⟨b, o, none⟩) h, Nat.lt_of_lt_of_le hw hb.size⟩

set_option maxRecDepth 100000 in
set_option maxHeartbeats 1000000 in
theorem impl_LayoutOk_dim (z y : Int) (A : Option Addr) (n c : Nat) (ps : List Pt) (w : World) (h : RdP w w.heap.size A n ps) (hd : dimOk z y n = false) :
    Calls Try.prog 19 #[.agg #[.int .i64 z, .int .i64 y, .slice A n c]] w fun e w' => e = .returned (.bool (layB z y ps)) ∧ Below w.heap.size w w' := by
  have HE := Lib.hid (show layB z y ps = false from layB_dim (by rw [h.1]; exact hd))
  have hle := h.le
  clear h
  cases c1 : inB z 1 12 with
  | false =>
    clear hd
    go_enter Try.func19, Try.ntmps19
    go_wp2_with ((go_at_call 68; refine (impl_within _ _ _ _).mono ?_; rintro e w' ⟨rfl, rfl⟩))
    go_ret
    exact ⟨ret_bool HE.out.symm, by (repeat' (first | (with_reducible exact Below.refl _ _) | (with_reducible refine Below.setCell ?_ ?_ _) | (with_reducible refine Below.alloc ?_ ?_ _) | (with_reducible refine Below.drew ?_) | (with_reducible refine Below.drewN ?_ _) | (with_reducible refine Below.trans ?_ (Below.mono (by with_reducible assumption) ?_)) | go_size | (dsimp only; omega)))⟩
  | true =>
    cases c2 : inB y 1 12 with
    | false =>
      clear hd
      go_enter Try.func19, Try.ntmps19
      go_wp2_with ((go_at_call 68; refine (impl_within _ _ _ _).mono ?_; rintro e w' ⟨rfl, rfl⟩))
      go_ret
      exact ⟨ret_bool HE.out.symm, by (repeat' (first | (with_reducible exact Below.refl _ _) | (with_reducible refine Below.setCell ?_ ?_ _) | (with_reducible refine Below.alloc ?_ ?_ _) | (with_reducible refine Below.drew ?_) | (with_reducible refine Below.drewN ?_ _) | (with_reducible refine Below.trans ?_ (Below.mono (by with_reducible assumption) ?_)) | go_size | (dsimp only; omega)))⟩
    | true =>
      have c3 : inB n 1 12 = false := by simpa [dimOk, c1, c2] using hd
      clear hd
      go_enter Try.func19, Try.ntmps19
      go_wp2_with ((go_at_call 68; refine (impl_within _ _ _ _).mono ?_; rintro e w' ⟨rfl, rfl⟩))
      go_ret
      exact ⟨ret_bool HE.out.symm, by (repeat' (first | (with_reducible exact Below.refl _ _) | (with_reducible refine Below.setCell ?_ ?_ _) | (with_reducible refine Below.alloc ?_ ?_ _) | (with_reducible refine Below.drew ?_) | (with_reducible refine Below.drewN ?_ _) | (with_reducible refine Below.trans ?_ (Below.mono (by with_reducible assumption) ?_)) | go_size | (dsimp only; omega)))⟩

set_option maxRecDepth 100000 in
set_option maxHeartbeats 4000000 in
theorem impl_LayoutOk_in (z y : Int) (A : Option Addr) (n c : Nat) (ps : List Pt) (w : World) (h : RdP w w.heap.size A n ps) (hd : dimOk z y n = true) :
    Calls Try.prog 19 #[.agg #[.int .i64 z, .int .i64 y, .slice A n c]] w fun e w' => e = .returned (.bool (layB z y ps)) ∧ Below w.heap.size w w' := by
  have hle := h.le
  have HL := Lib.hid h.1
  have HD := Lib.hid hd
  obtain ⟨hz1, hz2, hy1, hy2, hn1, hn2⟩ := dimOk_t hd
  have H := Lib.hid h
  clear h
  have e1 : inB z 1 12 = true := inB_t (by omega) (by omega)
  have e2 : inB y 1 12 = true := inB_t (by omega) (by omega)
  have e3 : inB n 1 12 = true := inB_t (by omega) (by omega)
  clear hd
  go_enter Try.func19, Try.ntmps19
  go_wp2_with ((go_at_call 68; refine (impl_within _ _ _ _).mono ?_; rintro e w' ⟨rfl, rfl⟩))
  clear e1 e2 e3
  go_loopw [30] (fun i wr => ∃ (k : Nat), k ≤ n ∧ i = .int .i64 k ∧ Hid (∀ j, j < k → okPt z y (pith ps j) = true) ∧ Hid (Below (w.heap.size + 1) (w.alloc (.cells #[.int .i64 z, .int .i64 y, .slice A n c] 29)) wr)) (fun i _ => n - (intOf i).toNat)
  case atStart => exact ⟨0, by omega, rfl, fun j hj => absurd hj (by omega), Below.refl _ _⟩
  case round =>
    obtain ⟨k, hk, rfl, hp, hb⟩ := hrel
    obtain ⟨bc, bf, bz⟩ := bcell_in hb.out (b := w.heap.size) (by omega) (by go_size)
    have p0 : wr.cell? ⟨w.heap.size, 0, none⟩ = some (.int .i64 z) := (bc 0).trans (by rw [World.cell?_alloc_new]; rfl)
    have p1 : wr.cell? ⟨w.heap.size, 1, none⟩ = some (.int .i64 y) := (bc 1).trans (by rw [World.cell?_alloc_new]; rfl)
    have p2 : wr.cell? ⟨w.heap.size, 2, none⟩ = some (.slice A n c) := (bc 2).trans (by rw [World.cell?_alloc_new]; rfl)
    clear bc bf
    have hy := hb.out.size
    have HRD := Lib.hid (H.out.below' (show Below w.heap.size w wr from ((Below.refl w.heap.size w).alloc (Nat.le_refl _) _).trans (hb.out.mono (by omega))) (show w.heap.size ≤ wr.heap.size by simp at hy; omega))
    by_cases hlt : k < n
    · obtain ⟨g, off, rfl, d0, d1, d2, d3, d4⟩ := RdP.at5 HRD.out hlt
      cases k0 : inB (pith ps k).x 0 (z - 1) with
      | false =>
        have HE := Lib.hid (show layB z y ps = false from layB_pt (k := k) (by rw [HL.out]; exact hlt) (okPt_f (.inl k0)))
        go_wp2_with (first | (go_at_call 68; refine (impl_within _ _ _ _).mono ?_; rintro e w' ⟨rfl, rfl⟩) | (go_at_call 70; refine (impl_isColor _ _).mono ?_; rintro e w' ⟨rfl, rfl⟩))
        go_ret
        exact ⟨ret_bool HE.out.symm, by have hbo := hb.out; (repeat' (first | (with_reducible exact Below.refl _ _) | (with_reducible refine Below.setCell ?_ ?_ _) | (with_reducible refine Below.alloc ?_ ?_ _) | (with_reducible refine Below.drew ?_) | (with_reducible refine Below.drewN ?_ _) | (with_reducible refine Below.trans ?_ (Below.mono (by with_reducible assumption) ?_)) | go_size | (dsimp only; omega)))⟩
      | true =>
        have r0 := inB_r k0
        cases k1 : inB (pith ps k).y 0 (y - 1) with
        | false =>
          have HE := Lib.hid (show layB z y ps = false from layB_pt (k := k) (by rw [HL.out]; exact hlt) (okPt_f (.inr (.inl k1))))
          go_wp2_with (first | (go_at_call 68; refine (impl_within _ _ _ _).mono ?_; rintro e w' ⟨rfl, rfl⟩) | (go_at_call 70; refine (impl_isColor _ _).mono ?_; rintro e w' ⟨rfl, rfl⟩))
          go_ret
          exact ⟨ret_bool HE.out.symm, by have hbo := hb.out; (repeat' (first | (with_reducible exact Below.refl _ _) | (with_reducible refine Below.setCell ?_ ?_ _) | (with_reducible refine Below.alloc ?_ ?_ _) | (with_reducible refine Below.drew ?_) | (with_reducible refine Below.drewN ?_ _) | (with_reducible refine Below.trans ?_ (Below.mono (by with_reducible assumption) ?_)) | go_size | (dsimp only; omega)))⟩
        | true =>
          have r1 := inB_r k1
          cases k2 : inB (pith ps k).w 1 (z - (pith ps k).x) with
          | false =>
            have HE := Lib.hid (show layB z y ps = false from layB_pt (k := k) (by rw [HL.out]; exact hlt) (okPt_f (.inr (.inr (.inl k2)))))
            go_wp2_with (first | (go_at_call 68; refine (impl_within _ _ _ _).mono ?_; rintro e w' ⟨rfl, rfl⟩) | (go_at_call 70; refine (impl_isColor _ _).mono ?_; rintro e w' ⟨rfl, rfl⟩))
            go_ret
            exact ⟨ret_bool HE.out.symm, by have hbo := hb.out; (repeat' (first | (with_reducible exact Below.refl _ _) | (with_reducible refine Below.setCell ?_ ?_ _) | (with_reducible refine Below.alloc ?_ ?_ _) | (with_reducible refine Below.drew ?_) | (with_reducible refine Below.drewN ?_ _) | (with_reducible refine Below.trans ?_ (Below.mono (by with_reducible assumption) ?_)) | go_size | (dsimp only; omega)))⟩
          | true =>
            have r2 := inB_r k2
            cases k3 : inB (pith ps k).h 1 (y - (pith ps k).y) with
            | false =>
              have HE := Lib.hid (show layB z y ps = false from layB_pt (k := k) (by rw [HL.out]; exact hlt) (okPt_f (.inr (.inr (.inr (.inl k3))))))
              go_wp2_with (first | (go_at_call 68; refine (impl_within _ _ _ _).mono ?_; rintro e w' ⟨rfl, rfl⟩) | (go_at_call 70; refine (impl_isColor _ _).mono ?_; rintro e w' ⟨rfl, rfl⟩))
              go_ret
              exact ⟨ret_bool HE.out.symm, by have hbo := hb.out; (repeat' (first | (with_reducible exact Below.refl _ _) | (with_reducible refine Below.setCell ?_ ?_ _) | (with_reducible refine Below.alloc ?_ ?_ _) | (with_reducible refine Below.drew ?_) | (with_reducible refine Below.drewN ?_ _) | (with_reducible refine Below.trans ?_ (Below.mono (by with_reducible assumption) ?_)) | go_size | (dsimp only; omega)))⟩
            | true =>
              have r3 := inB_r k3
              cases k4 : inB (pith ps k).c 0 5 with
              | false =>
                have HE := Lib.hid (show layB z y ps = false from layB_pt (k := k) (by rw [HL.out]; exact hlt) (okPt_f (.inr (.inr (.inr (.inr k4))))))
                go_wp2_with (first | (go_at_call 68; refine (impl_within _ _ _ _).mono ?_; rintro e w' ⟨rfl, rfl⟩) | (go_at_call 70; refine (impl_isColor _ _).mono ?_; rintro e w' ⟨rfl, rfl⟩))
                go_ret
                exact ⟨ret_bool HE.out.symm, by have hbo := hb.out; (repeat' (first | (with_reducible exact Below.refl _ _) | (with_reducible refine Below.setCell ?_ ?_ _) | (with_reducible refine Below.alloc ?_ ?_ _) | (with_reducible refine Below.drew ?_) | (with_reducible refine Below.drewN ?_ _) | (with_reducible refine Below.trans ?_ (Below.mono (by with_reducible assumption) ?_)) | go_size | (dsimp only; omega)))⟩
              | true =>
                have HK := Lib.hid (show okPt z y (pith ps k) = true by unfold okPt; rw [k0, k1, k2, k3, k4]; rfl)
                go_wp2_with (first | (go_at_call 68; refine (impl_within _ _ _ _).mono ?_; rintro e w' ⟨rfl, rfl⟩) | (go_at_call 70; refine (impl_isColor _ _).mono ?_; rintro e w' ⟨rfl, rfl⟩))
                have HB := Lib.hid (hb.out.alloc (by omega) (.cells #[.int .i64 (pith ps k).x, .int .i64 (pith ps k).y, .int .i64 (pith ps k).w, .int .i64 (pith ps k).h, .int .i64 (pith ps k).c] 34))
                go_roundw
                case rel => exact ⟨k + 1, by omega, by go_num, step_all (P := fun j => okPt z y (pith ps j) = true) hp.out HK.out, HB.out⟩
                case measure => simp [intOf]; omega
    · have ek : k = n := by omega
      have HA := Lib.hid (show allOk z y ps from fun j hj => hp.out j (by have := HL.out; omega))
      clear ek hp HRD
      obtain ⟨wo, rfl⟩ : ∃ wo : World, wo = wr := ⟨_, rfl⟩
      go_wp2
      go_loopw [81] (fun i wr => ∃ (b : Nat), (b : Int) ≤ y ∧ i = .int .i64 b ∧ Hid (∀ b' : Nat, b' < b → ∀ a' : Nat, (a' : Int) < z → cntP ps a' b' = 1) ∧ Hid (Below (w.heap.size + 1) (w.alloc (.cells #[.int .i64 z, .int .i64 y, .slice A n c] 29)) wr)) (fun i _ => y.toNat - (intOf i).toNat)
      case atStart => exact ⟨0, by omega, rfl, fun j hj => absurd hj (by omega), hb.out⟩
      case round =>
        clear hb p0 p1 p2 hy bz
        obtain ⟨b, hbk, rfl, hpb, hb⟩ := hrel
        obtain ⟨bc, bf, bz⟩ := bcell_in hb.out (b := w.heap.size) (by omega) (by go_size)
        have p0 : wr.cell? ⟨w.heap.size, 0, none⟩ = some (.int .i64 z) := (bc 0).trans (by rw [World.cell?_alloc_new]; rfl)
        have p1 : wr.cell? ⟨w.heap.size, 1, none⟩ = some (.int .i64 y) := (bc 1).trans (by rw [World.cell?_alloc_new]; rfl)
        have p2 : wr.cell? ⟨w.heap.size, 2, none⟩ = some (.slice A n c) := (bc 2).trans (by rw [World.cell?_alloc_new]; rfl)
        clear bc bf
        have hy := hb.out.size
        obtain ⟨wo2, rfl⟩ : ∃ wo : World, wo = wr := ⟨_, rfl⟩
        by_cases hlt2 : (b : Int) < y
        · go_wp2
          go_loopw [86] (fun i wr => ∃ (a : Nat), (a : Int) ≤ z ∧ i = .int .i64 a ∧ Hid (∀ a' : Nat, a' < a → cntP ps a' b = 1) ∧ Hid (Below (w.heap.size + 1) (w.alloc (.cells #[.int .i64 z, .int .i64 y, .slice A n c] 29)) wr)) (fun i _ => z.toNat - (intOf i).toNat)
          case atStart => exact ⟨0, by omega, rfl, fun j hj => absurd hj (by omega), hb.out⟩
          case round =>
            clear hb p0 p1 p2 hy bz
            obtain ⟨a, hak, rfl, hpa, hb⟩ := hrel
            obtain ⟨bc, bf, bz⟩ := bcell_in hb.out (b := w.heap.size) (by omega) (by go_size)
            have p0 : wr.cell? ⟨w.heap.size, 0, none⟩ = some (.int .i64 z) := (bc 0).trans (by rw [World.cell?_alloc_new]; rfl)
            have p1 : wr.cell? ⟨w.heap.size, 1, none⟩ = some (.int .i64 y) := (bc 1).trans (by rw [World.cell?_alloc_new]; rfl)
            have p2 : wr.cell? ⟨w.heap.size, 2, none⟩ = some (.slice A n c) := (bc 2).trans (by rw [World.cell?_alloc_new]; rfl)
            clear bc bf
            have hy := hb.out.size
            obtain ⟨wo3, rfl⟩ : ∃ wo : World, wo = wr := ⟨_, rfl⟩
            by_cases hlt3 : (a : Int) < z
            · go_wp2
              go_loopw [7, 92] (fun v i wr => ∃ (j m : Nat), j ≤ n ∧ m ≤ j ∧ i = .int .i64 j ∧ v = .int .i64 m ∧ Hid (m = cntP (ps.take j) a b) ∧ Hid (Below (w.heap.size + 1) (w.alloc (.cells #[.int .i64 z, .int .i64 y, .slice A n c] 29)) wr)) (fun _ i _ => n - (intOf i).toNat)
              case atStart => exact ⟨0, 0, by omega, by omega, rfl, rfl, (by show 0 = cntP (ps.take 0) a b; simp [cntP]), hb.out⟩
              case round =>
                clear hb p0 p1 p2 hy bz
                obtain ⟨j, m, hjn, hmj, rfl, rfl, hm, hb⟩ := hrel
                obtain ⟨bc, bf, bz⟩ := bcell_in hb.out (b := w.heap.size) (by omega) (by go_size)
                have p0 : wr.cell? ⟨w.heap.size, 0, none⟩ = some (.int .i64 z) := (bc 0).trans (by rw [World.cell?_alloc_new]; rfl)
                have p1 : wr.cell? ⟨w.heap.size, 1, none⟩ = some (.int .i64 y) := (bc 1).trans (by rw [World.cell?_alloc_new]; rfl)
                have p2 : wr.cell? ⟨w.heap.size, 2, none⟩ = some (.slice A n c) := (bc 2).trans (by rw [World.cell?_alloc_new]; rfl)
                clear bc bf
                have hy := hb.out.size
                have HRD := Lib.hid (H.out.below' (show Below w.heap.size w wr from ((Below.refl w.heap.size w).alloc (Nat.le_refl _) _).trans (hb.out.mono (by omega))) (show w.heap.size ≤ wr.heap.size by simp at hy; omega))
                by_cases hlt4 : j < n
                · obtain ⟨g, off, rfl, d0, d1, d2, d3, d4⟩ := RdP.at5 HRD.out hlt4
                  obtain ⟨o1, o2, o3, o4, o5, o6, o7, o8⟩ := okPt_t (HA.out j (by rw [HL.out]; exact hlt4))
                  have hst := cntP_succ (ps := ps) (k := j) (by rw [HL.out]; exact hlt4) a b
                  rw [← hm.out] at hst
                  cases hq : hasP (pith ps j) a b with
                  | true =>
                    have HE := Lib.hid (show m + 1 = cntP (ps.take (j + 1)) a b by rw [hst, hq]; rfl)
                    clear hst
                    go_wp2_with (go_at_call 67; (with_reducible refine (impl_has (pith ps j) _ _ _ ?_ ?_ ?_ ?_ ?_ ?_ ?_ ?_).mono ?_); (iterate 8 omega); rintro e w4 ⟨rfl, hb4⟩; have HB4 := Lib.hid ((hb.out.alloc (by omega) _).trans (hb4.mono (by simp; omega))); clear hb4)
                    go_roundw
                    case rel => exact ⟨j + 1, m + 1, by omega, by omega, by go_num, by go_num, HE.out, HB4.out⟩
                    case measure => simp [intOf]; omega
                  | false =>
                    have HE := Lib.hid (show m = cntP (ps.take (j + 1)) a b by rw [hst, hq]; rfl)
                    clear hst
                    go_wp2_with (go_at_call 67; (with_reducible refine (impl_has (pith ps j) _ _ _ ?_ ?_ ?_ ?_ ?_ ?_ ?_ ?_).mono ?_); (iterate 8 omega); rintro e w4 ⟨rfl, hb4⟩; have HB4 := Lib.hid ((hb.out.alloc (by omega) _).trans (hb4.mono (by simp; omega))); clear hb4)
                    go_roundw
                    case rel => exact ⟨j + 1, m, by omega, by omega, by go_num, rfl, HE.out, HB4.out⟩
                    case measure => simp [intOf]; omega
                · have HC := Lib.hid (show m = cntP ps a b by rw [hm.out, show j = n by omega, ← HL.out, List.take_length])
                  by_cases hm1 : m = 1
                  · have HC1 := Lib.hid (show cntP ps a b = 1 by rw [← HC.out]; exact hm1)
                    have ht : ((m : Int) != 1) = false := by simp; omega
                    clear hm1
                    go_wp2
                    go_roundw
                    case rel => exact ⟨a + 1, by omega, by go_num, step_all (P := fun a' => cntP ps (a' : Nat) b = 1) hpa.out HC1.out, hb.out⟩
                    case measure => simp [intOf]; omega
                  · have HE := Lib.hid (show layB z y ps = false from layB_f (fun hl => hm1 (by
                      have h1 := (LayP_once (by rw [HL.out]; exact HD.out) HA.out).1 hl
                      rw [HC.out]; exact h1 b hlt2 a hlt3)))
                    have ht : ((m : Int) != 1) = true := by simp; omega
                    clear hm1
                    go_wp2
                    go_ret
                    exact ⟨ret_bool HE.out.symm, ((Below.refl w.heap.size w).alloc (Nat.le_refl _) _).trans (hb.out.mono (by omega))⟩
            · go_wp2
              go_roundw
              case rel => exact ⟨b + 1, by omega, by go_num, step_all (P := fun b' => ∀ a' : Nat, (a' : Int) < z → cntP ps a' (b' : Nat) = 1) hpb.out (fun a' ha' => hpa.out a' (by omega)), hb.out⟩
              case measure => simp [intOf]; omega
        · have HE := Lib.hid (show layB z y ps = true from layB_t ((LayP_once (by rw [HL.out]; exact HD.out) HA.out).2 (fun b' hb' a' ha' => hpb.out b' (by omega) a' ha')))
          go_wp2
          go_ret
          exact ⟨ret_bool HE.out.symm, ((Below.refl w.heap.size w).alloc (Nat.le_refl _) _).trans (hb.out.mono (by omega))⟩
theorem impl_LayoutOk (z y : Int) (A : Option Addr) (n c : Nat) (ps : List Pt) (w : World) (h : RdP w w.heap.size A n ps) :
    Calls Try.prog 19 #[.agg #[.int .i64 z, .int .i64 y, .slice A n c]] w fun e w' => e = .returned (.bool (layB z y ps)) ∧ Below w.heap.size w w' := by
  cases hd : dimOk z y n with
  | true => exact impl_LayoutOk_in z y A n c ps w h hd
  | false => exact impl_LayoutOk_dim z y A n c ps w h hd
end Go.Proofs.Ytlcllpgbpjdofaa
