/- Walk of the reference's LayoutOk. No condition. -/
import Derived.Test.YtlcllpgbpjdofaaLo
set_option linter.unusedSimpArgs false
set_option linter.unusedVariables false
namespace Go.Proofs.Ytlcllpgbpjdofaa
open Go.RowKit


set_option maxRecDepth 100000 in
set_option maxHeartbeats 1000000 in
theorem spec_LayoutOk_dim (z y : Int) (A : Option Addr) (n c : Nat) (ps : List Pt) (w : World) (h : RdP w w.heap.size A n ps) (hd : dimOk z y n = false) :
    Calls Try.prog 94 #[.agg #[.int .i64 z, .int .i64 y, .slice A n c]] w fun e w' => e = .returned (.bool (layB z y ps)) ∧ Below w.heap.size w w' := by
  have HE := Lib.hid (show layB z y ps = false from layB_dim (by rw [h.1]; exact hd))
  have hle := h.le
  clear h
  cases c1 : inB z 1 12 with
  | false =>
    clear hd
    go_enter Try.func94, Try.ntmps94
    go_wp2_with ((go_at_call 110; refine (spec_l01In _ _ _ _).mono ?_; rintro e w' ⟨rfl, rfl⟩))
    go_ret
    exact ⟨ret_bool HE.out.symm, by (repeat' (first | (with_reducible exact Below.refl _ _) | (with_reducible refine Below.setCell ?_ ?_ _) | (with_reducible refine Below.alloc ?_ ?_ _) | (with_reducible refine Below.drew ?_) | (with_reducible refine Below.drewN ?_ _) | (with_reducible refine Below.trans ?_ (Below.mono (by with_reducible assumption) ?_)) | go_size | (dsimp only; omega)))⟩
  | true =>
    cases c2 : inB y 1 12 with
    | false =>
      clear hd
      go_enter Try.func94, Try.ntmps94
      go_wp2_with ((go_at_call 110; refine (spec_l01In _ _ _ _).mono ?_; rintro e w' ⟨rfl, rfl⟩))
      go_ret
      exact ⟨ret_bool HE.out.symm, by (repeat' (first | (with_reducible exact Below.refl _ _) | (with_reducible refine Below.setCell ?_ ?_ _) | (with_reducible refine Below.alloc ?_ ?_ _) | (with_reducible refine Below.drew ?_) | (with_reducible refine Below.drewN ?_ _) | (with_reducible refine Below.trans ?_ (Below.mono (by with_reducible assumption) ?_)) | go_size | (dsimp only; omega)))⟩
    | true =>
      have c3 : inB n 1 12 = false := by simpa [dimOk, c1, c2] using hd
      clear hd
      go_enter Try.func94, Try.ntmps94
      go_wp2_with ((go_at_call 110; refine (spec_l01In _ _ _ _).mono ?_; rintro e w' ⟨rfl, rfl⟩))
      go_ret
      exact ⟨ret_bool HE.out.symm, by (repeat' (first | (with_reducible exact Below.refl _ _) | (with_reducible refine Below.setCell ?_ ?_ _) | (with_reducible refine Below.alloc ?_ ?_ _) | (with_reducible refine Below.drew ?_) | (with_reducible refine Below.drewN ?_ _) | (with_reducible refine Below.trans ?_ (Below.mono (by with_reducible assumption) ?_)) | go_size | (dsimp only; omega)))⟩

set_option maxRecDepth 100000 in
set_option maxHeartbeats 4000000 in
theorem spec_LayoutOk_in (z y : Int) (A : Option Addr) (n c : Nat) (ps : List Pt) (w : World) (h : RdP w w.heap.size A n ps) (hd : dimOk z y n = true) :
    Calls Try.prog 94 #[.agg #[.int .i64 z, .int .i64 y, .slice A n c]] w fun e w' => e = .returned (.bool (layB z y ps)) ∧ Below w.heap.size w w' := by
  have hle := h.le
  have HL := Lib.hid h.1
  have HD := Lib.hid hd
  obtain ⟨hz1, hz2, hy1, hy2, hn1, hn2⟩ := dimOk_t hd
  have H := Lib.hid h
  clear h
  have e1 : inB z 1 12 = true := inB_t (by omega) (by omega)
  have e2 : inB y 1 12 = true := inB_t (by omega) (by omega)
  have e3 : inB n 1 12 = true := inB_t (by omega) (by omega)
  clear hd
  go_enter Try.func94, Try.ntmps94
  go_wp2_with ((go_at_call 110; refine (spec_l01In _ _ _ _).mono ?_; rintro e w' ⟨rfl, rfl⟩))
  clear e1 e2 e3
  go_loopw [3, 4] (fun v i wr => ∃ (k : Nat) (s : Int), k ≤ n ∧ 0 ≤ s ∧ s ≤ 144 * k ∧ i = .int .i64 k ∧ v = .int .i64 s ∧ Hid (s = areaP (ps.take k)) ∧ Hid (∀ j, j < k → okPt z y (pith ps j) = true) ∧ Hid (∀ j, j < k → ∀ i, i < j → ovl (pith ps j) (pith ps i) = false) ∧ Hid (Below (w.heap.size + 1) (w.alloc (.cells #[.int .i64 z, .int .i64 y, .slice A n c] 29)) wr)) (fun _ i _ => n - (intOf i).toNat)
  case atStart => exact ⟨0, 0, by omega, by omega, by omega, rfl, rfl, (by show (0 : Int) = areaP (ps.take 0); simp [areaP]), fun j hj => absurd hj (by omega), fun j hj => absurd hj (by omega), Below.refl _ _⟩
  case round =>
    obtain ⟨k, s, hk, hs0, hs1, rfl, rfl, hse, hp, hov, hb⟩ := hrel
    obtain ⟨bc, bf, bz⟩ := bcell_in hb.out (b := w.heap.size) (by omega) (by go_size)
    have p0 : wr.cell? ⟨w.heap.size, 0, none⟩ = some (.int .i64 z) := (bc 0).trans (by rw [World.cell?_alloc_new]; rfl)
    have p1 : wr.cell? ⟨w.heap.size, 1, none⟩ = some (.int .i64 y) := (bc 1).trans (by rw [World.cell?_alloc_new]; rfl)
    have p2 : wr.cell? ⟨w.heap.size, 2, none⟩ = some (.slice A n c) := (bc 2).trans (by rw [World.cell?_alloc_new]; rfl)
    clear bc bf
    have hy := hb.out.size
    have HRD := Lib.hid (H.out.below' (show Below w.heap.size w wr from ((Below.refl w.heap.size w).alloc (Nat.le_refl _) _).trans (hb.out.mono (by omega))) (show w.heap.size ≤ wr.heap.size by simp at hy; omega))
    by_cases hlt : k < n
    · obtain ⟨g, off, rfl, d0, d1, d2, d3, d4⟩ := RdP.at5 HRD.out hlt
      cases k0 : inB (pith ps k).x 0 (z - 1) with
      | false =>
        have HE := Lib.hid (show layB z y ps = false from layB_pt (k := k) (by rw [HL.out]; exact hlt) (okPt_f (.inl k0)))
        go_wp2_with ((go_at_call 110; refine (spec_l01In _ _ _ _).mono ?_; rintro e w' ⟨rfl, rfl⟩))
        go_ret
        exact ⟨ret_bool HE.out.symm, by have hbo := hb.out; (repeat' (first | (with_reducible exact Below.refl _ _) | (with_reducible refine Below.setCell ?_ ?_ _) | (with_reducible refine Below.alloc ?_ ?_ _) | (with_reducible refine Below.drew ?_) | (with_reducible refine Below.drewN ?_ _) | (with_reducible refine Below.trans ?_ (Below.mono (by with_reducible assumption) ?_)) | go_size | (dsimp only; omega)))⟩
      | true =>
        have r0 := inB_r k0
        cases k1 : inB (pith ps k).y 0 (y - 1) with
        | false =>
          have HE := Lib.hid (show layB z y ps = false from layB_pt (k := k) (by rw [HL.out]; exact hlt) (okPt_f (.inr (.inl k1))))
          go_wp2_with ((go_at_call 110; refine (spec_l01In _ _ _ _).mono ?_; rintro e w' ⟨rfl, rfl⟩))
          go_ret
          exact ⟨ret_bool HE.out.symm, by have hbo := hb.out; (repeat' (first | (with_reducible exact Below.refl _ _) | (with_reducible refine Below.setCell ?_ ?_ _) | (with_reducible refine Below.alloc ?_ ?_ _) | (with_reducible refine Below.drew ?_) | (with_reducible refine Below.drewN ?_ _) | (with_reducible refine Below.trans ?_ (Below.mono (by with_reducible assumption) ?_)) | go_size | (dsimp only; omega)))⟩
        | true =>
          have r1 := inB_r k1
          cases k2 : inB (pith ps k).w 1 (z - (pith ps k).x) with
          | false =>
            have HE := Lib.hid (show layB z y ps = false from layB_pt (k := k) (by rw [HL.out]; exact hlt) (okPt_f (.inr (.inr (.inl k2)))))
            go_wp2_with ((go_at_call 110; refine (spec_l01In _ _ _ _).mono ?_; rintro e w' ⟨rfl, rfl⟩))
            go_ret
            exact ⟨ret_bool HE.out.symm, by have hbo := hb.out; (repeat' (first | (with_reducible exact Below.refl _ _) | (with_reducible refine Below.setCell ?_ ?_ _) | (with_reducible refine Below.alloc ?_ ?_ _) | (with_reducible refine Below.drew ?_) | (with_reducible refine Below.drewN ?_ _) | (with_reducible refine Below.trans ?_ (Below.mono (by with_reducible assumption) ?_)) | go_size | (dsimp only; omega)))⟩
          | true =>
            have r2 := inB_r k2
            cases k3 : inB (pith ps k).h 1 (y - (pith ps k).y) with
            | false =>
              have HE := Lib.hid (show layB z y ps = false from layB_pt (k := k) (by rw [HL.out]; exact hlt) (okPt_f (.inr (.inr (.inr (.inl k3))))))
              go_wp2_with ((go_at_call 110; refine (spec_l01In _ _ _ _).mono ?_; rintro e w' ⟨rfl, rfl⟩))
              go_ret
              exact ⟨ret_bool HE.out.symm, by have hbo := hb.out; (repeat' (first | (with_reducible exact Below.refl _ _) | (with_reducible refine Below.setCell ?_ ?_ _) | (with_reducible refine Below.alloc ?_ ?_ _) | (with_reducible refine Below.drew ?_) | (with_reducible refine Below.drewN ?_ _) | (with_reducible refine Below.trans ?_ (Below.mono (by with_reducible assumption) ?_)) | go_size | (dsimp only; omega)))⟩
            | true =>
              have r3 := inB_r k3
              cases k4 : inB (pith ps k).c 0 5 with
              | false =>
                have HE := Lib.hid (show layB z y ps = false from layB_pt (k := k) (by rw [HL.out]; exact hlt) (okPt_f (.inr (.inr (.inr (.inr k4))))))
                go_wp2_with ((go_at_call 110; refine (spec_l01In _ _ _ _).mono ?_; rintro e w' ⟨rfl, rfl⟩))
                go_ret
                exact ⟨ret_bool HE.out.symm, by have hbo := hb.out; (repeat' (first | (with_reducible exact Below.refl _ _) | (with_reducible refine Below.setCell ?_ ?_ _) | (with_reducible refine Below.alloc ?_ ?_ _) | (with_reducible refine Below.drew ?_) | (with_reducible refine Below.drewN ?_ _) | (with_reducible refine Below.trans ?_ (Below.mono (by with_reducible assumption) ?_)) | go_size | (dsimp only; omega)))⟩
              | true =>
                have HK := Lib.hid (show okPt z y (pith ps k) = true by unfold okPt; rw [k0, k1, k2, k3, k4]; rfl)
                obtain ⟨a1, a2, a3, a4, a5, a6, _, _⟩ := okPt_t HK.out
                obtain ⟨m1, m2⟩ := mul_bd (a := (pith ps k).w) (b := (pith ps k).h) (by omega) (by omega) (by omega) (by omega)
                go_wp2_with ((go_at_call 110; refine (spec_l01In _ _ _ _).mono ?_; rintro e w' ⟨rfl, rfl⟩))
                clear k0 k1 k2 k3 k4 r0 r1 r2 r3
                have HBW := Lib.hid (show Below w.heap.size w wr from ((Below.refl w.heap.size w).alloc (Nat.le_refl _) _).trans (hb.out.mono (by omega)))
                have hyw : w.heap.size + 1 ≤ wr.heap.size := by simpa using hy
                obtain ⟨wo, rfl⟩ : ∃ wo : World, wo = wr := ⟨_, rfl⟩
                go_loopw [6] (fun v wr => ∃ (i : Nat), i ≤ k ∧ v = .int .i64 i ∧ Hid (∀ i', i' < i → ovl (pith ps k) (pith ps i') = false) ∧ Hid (Below (wo.heap.size + 1) (wo.alloc (.cells #[.int .i64 (pith ps k).x, .int .i64 (pith ps k).y, .int .i64 (pith ps k).w, .int .i64 (pith ps k).h, .int .i64 (pith ps k).c] 34)) wr)) (fun v _ => k - (intOf v).toNat)
                case atStart => exact ⟨0, by omega, rfl, fun j hj => absurd hj (by omega), Below.refl _ _⟩
                case round =>
                  obtain ⟨i, hik', rfl, hpi, hbi⟩ := hrel
                  obtain ⟨bc, bf, bz1⟩ := bcell_in hbi.out (b := w.heap.size) (by omega) (by go_size)
                  obtain ⟨qc, qf, bz2⟩ := bcell_in hbi.out (b := wo.heap.size) (by omega) (by go_size)
                  have u0 : wr.cell? ⟨w.heap.size, 0, none⟩ = some (.int .i64 z) := (bc 0).trans ((World.cell?_alloc_lt _ _ _ (by go_size)).trans p0)
                  have u1 : wr.cell? ⟨w.heap.size, 1, none⟩ = some (.int .i64 y) := (bc 1).trans ((World.cell?_alloc_lt _ _ _ (by go_size)).trans p1)
                  have u2 : wr.cell? ⟨w.heap.size, 2, none⟩ = some (.slice (some ⟨g, off, none⟩) n c) := (bc 2).trans ((World.cell?_alloc_lt _ _ _ (by go_size)).trans p2)
                  have v0 : wr.cell? ⟨wo.heap.size, 0, none⟩ = some (.int .i64 (pith ps k).x) := (qc 0).trans (by rw [World.cell?_alloc_new]; rfl)
                  have v1 : wr.cell? ⟨wo.heap.size, 1, none⟩ = some (.int .i64 (pith ps k).y) := (qc 1).trans (by rw [World.cell?_alloc_new]; rfl)
                  have v2 : wr.cell? ⟨wo.heap.size, 2, none⟩ = some (.int .i64 (pith ps k).w) := (qc 2).trans (by rw [World.cell?_alloc_new]; rfl)
                  have v3 : wr.cell? ⟨wo.heap.size, 3, none⟩ = some (.int .i64 (pith ps k).h) := (qc 3).trans (by rw [World.cell?_alloc_new]; rfl)
                  clear bc bf qc qf
                  have hyi := hbi.out.size
                  simp only [World.size_alloc] at hyi
                  have HBB := Lib.hid (HBW.out.trans (((Below.refl w.heap.size wo).alloc (by omega) (.cells #[.int .i64 (pith ps k).x, .int .i64 (pith ps k).y, .int .i64 (pith ps k).w, .int .i64 (pith ps k).h, .int .i64 (pith ps k).c] 34)).trans (hbi.out.mono (by omega))))
                  by_cases hik : i < k
                  · obtain ⟨o1, o2, o3, o4, o5, o6, _, _⟩ := okPt_t (hp.out i hik)
                    have HRI := Lib.hid (H.out.below HBB.out)
                    obtain ⟨g', off', e', s0, s1, s2, s3, s4⟩ := RdP.at5 HRI.out (k := i) (by omega)
                    simp only [Option.some.injEq, Addr.mk.injEq, and_true] at e'
                    obtain ⟨rfl, rfl⟩ := e'
                    cases d1 : decide ((pith ps k).x < (pith ps i).x + (pith ps i).w) with
                    | false =>
                      have HE := Lib.hid (show ovl (pith ps k) (pith ps i) = false by unfold ovl; simp [d1])
                      go_wp2
                      go_roundw
                      case rel => exact ⟨i + 1, by omega, by go_num, step_all (P := fun i => ovl (pith ps k) (pith ps i) = false) hpi.out HE.out, hbi.out.alloc (by omega) _⟩
                      case measure => simp [intOf]; omega
                    | true =>
                      cases d2 : decide ((pith ps i).x < (pith ps k).x + (pith ps k).w) with
                      | false =>
                        have HE := Lib.hid (show ovl (pith ps k) (pith ps i) = false by unfold ovl; simp [d2])
                        go_wp2
                        go_roundw
                        case rel => exact ⟨i + 1, by omega, by go_num, step_all (P := fun i => ovl (pith ps k) (pith ps i) = false) hpi.out HE.out, hbi.out.alloc (by omega) _⟩
                        case measure => simp [intOf]; omega
                      | true =>
                        cases d3 : decide ((pith ps k).y < (pith ps i).y + (pith ps i).h) with
                        | false =>
                          have HE := Lib.hid (show ovl (pith ps k) (pith ps i) = false by unfold ovl; simp [d3])
                          go_wp2
                          go_roundw
                          case rel => exact ⟨i + 1, by omega, by go_num, step_all (P := fun i => ovl (pith ps k) (pith ps i) = false) hpi.out HE.out, hbi.out.alloc (by omega) _⟩
                          case measure => simp [intOf]; omega
                        | true =>
                          cases d4 : decide ((pith ps i).y < (pith ps k).y + (pith ps k).h) with
                          | false =>
                            have HE := Lib.hid (show ovl (pith ps k) (pith ps i) = false by unfold ovl; simp [d4])
                            go_wp2
                            go_roundw
                            case rel => exact ⟨i + 1, by omega, by go_num, step_all (P := fun i => ovl (pith ps k) (pith ps i) = false) hpi.out HE.out, hbi.out.alloc (by omega) _⟩
                            case measure => simp [intOf]; omega
                          | true =>
                            have HE := Lib.hid (show layB z y ps = false from layB_f (fun hl => by have h1 := hl.2.2.1 k (by rw [HL.out]; exact hlt) i hik; unfold ovl at h1; rw [d1, d2, d3, d4] at h1; cases h1))
                            go_wp2
                            go_ret
                            exact ⟨ret_bool HE.out.symm, HBB.out.alloc (by omega) _⟩
                  · have ek : i = k := by omega
                    have HO := Lib.hid (step_all (P := fun j => ∀ i, i < j → ovl (pith ps j) (pith ps i) = false) hov.out (fun i' hi' => hpi.out i' (by omega)))
                    have HA := Lib.hid (show s + (pith ps k).w * (pith ps k).h = areaP (ps.take (k + 1)) by rw [areaP_succ (by rw [HL.out]; exact hlt), ← hse.out])
                    go_wp2
                    go_roundw
                    case rel => exact ⟨k + 1, _, by omega, by omega, by omega, by go_num, rfl, HA.out, step_all (P := fun j => okPt z y (pith ps j) = true) hp.out HK.out, HO.out, hb.out.trans (((Below.refl (w.heap.size + 1) wo).alloc (by omega) (.cells #[.int .i64 (pith ps k).x, .int .i64 (pith ps k).y, .int .i64 (pith ps k).w, .int .i64 (pith ps k).h, .int .i64 (pith ps k).c] 34)).trans (hbi.out.mono (by omega)))⟩
                    case measure => simp [intOf]; omega
    · have ek : k = n := by omega
      obtain ⟨m1, m2⟩ := mul_bd (a := z) (b := y) (by omega) (by omega) (by omega) (by omega)
      have HE := Lib.hid (show layB z y ps = (s == z * y) by
        have e1 : s = areaP ps := by rw [hse.out, ek, ← HL.out, List.take_length]
        by_cases hs : s = z * y
        · have hl : LayP z y ps := ⟨by rw [HL.out]; exact HD.out, fun j hj => hp.out j (by have := HL.out; omega), fun j hj => hov.out j (by have := HL.out; omega), by rw [← e1]; exact hs⟩
          rw [layB_t hl]; exact (beq_iff_eq.2 hs).symm
        · rw [layB_f (fun hl => hs (by rw [e1]; exact hl.2.2.2))]; exact (beq_eq_false_iff_ne.2 hs).symm)
      clear ek
      go_wp2
      go_ret
      exact ⟨ret_bool HE.out.symm, ((Below.refl w.heap.size w).alloc (Nat.le_refl _) _).trans (hb.out.mono (by omega))⟩
theorem spec_LayoutOk (z y : Int) (A : Option Addr) (n c : Nat) (ps : List Pt) (w : World) (h : RdP w w.heap.size A n ps) :
    Calls Try.prog 94 #[.agg #[.int .i64 z, .int .i64 y, .slice A n c]] w fun e w' => e = .returned (.bool (layB z y ps)) ∧ Below w.heap.size w w' := by
  cases hd : dimOk z y n with
  | true => exact spec_LayoutOk_in z y A n c ps w h hd
  | false => exact spec_LayoutOk_dim z y A n c ps w h hd
end Go.Proofs.Ytlcllpgbpjdofaa
