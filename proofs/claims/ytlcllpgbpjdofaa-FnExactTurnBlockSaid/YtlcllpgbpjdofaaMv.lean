/- Walk of the reference's TurnBlock. No condition. -/
import Derived.Test.YtlcllpgbpjdofaaMt
set_option linter.unusedSimpArgs false
set_option linter.unusedVariables false
set_option maxRecDepth 100000
namespace Go.Proofs.Ytlcllpgbpjdofaa
open Go.RowKit

set_option maxRecDepth 100000 in
set_option maxHeartbeats 1000000 in
theorem spec_TurnBlock_no (z : Int) (A : Option Addr) (n c : Nat) (xs : List C) (w : World) (h : RdC w w.heap.size A n xs) (hbk : bOk z xs = false) :
    Calls Try.prog 40 #[.agg #[.int .i64 z, .slice A n c]] w fun e w' => ∃ A n c, e = .returned (.agg #[.int .i64 (turnZ z xs), .slice A n c]) ∧ OwnC w' w.heap.size A n c (turnL z xs) ∧ Below w.heap.size w w' := by
  have hs := lt2
  have H := Lib.hid h
  clear h
  have E1 := Lib.hid (show turnZ z xs = 0 by rw [turnZ, hbk]; rfl)
  have E2 := Lib.hid (show turnL z xs = [] by rw [turnL, hbk]; rfl)
  go_enter Try.func40, Try.ntmps40
  go_wp2_with (go_at_call 73; refine (spec_BlockOk _ _ _ _ _ _ (H.out.below' (by (repeat' (first | (with_reducible exact Below.refl _ _) | (with_reducible refine Below.setCell ?_ ?_ _) | (with_reducible refine Below.alloc ?_ ?_ _) | (with_reducible refine Below.drew ?_) | (with_reducible refine Below.drewN ?_ _) | (with_reducible refine Below.trans ?_ (Below.mono (by with_reducible assumption) ?_)) | go_size | (dsimp only; omega)))) (by go_size))).mono ?_; rintro e w1 ⟨rfl, hb1⟩; have hx1 := bsize hb1; (try simp at hx1); obtain ⟨hc1, hf1, hz1⟩ := bcell hb1 (b := w.heap.size) (by go_size); obtain ⟨hd1, hg1, hy1⟩ := bcell hb1 (b := w.heap.size + 1) (by go_size))
  refine bodyPost_ret (by simp [results, Try.results40, go_sem, *]; try rfl) rfl ?_
  refine ⟨none, 0, 0, by rw [E1.out], by rw [E2.out]; exact OwnC.nil_, ?_⟩
  (repeat' (first | (with_reducible exact Below.refl _ _) | (with_reducible refine Below.setCell ?_ ?_ _) | (with_reducible refine Below.alloc ?_ ?_ _) | (with_reducible refine Below.drew ?_) | (with_reducible refine Below.drewN ?_ _) | (with_reducible refine Below.trans ?_ (Below.mono (by with_reducible assumption) ?_)) | go_size | (dsimp only; omega)))
set_option maxRecDepth 100000 in
set_option maxHeartbeats 4000000 in
theorem spec_TurnBlock_yes (z : Nat) (A : Option Addr) (n c : Nat) (xs : List C) (w : World) (h : RdC w w.heap.size A n xs) (hbk : bOk z xs = true) :
    Calls Try.prog 40 #[.agg #[.int .i64 z, .slice A n c]] w fun e w' => ∃ A n c, e = .returned (.agg #[.int .i64 z, .slice A n c]) ∧ OwnC w' w.heap.size A n c (rowsL (turnF z xs) z z) ∧ Below w.heap.size w w' := by
  have hs := lt2
  obtain ⟨hz1', hz2', hz3', _⟩ := bOk_size hbk
  have hle := h.le
  have HN := Lib.hid (show n = z * z by have h1 := h.1; have e : ((z * z : Nat) : Int) = (z : Int) * (z : Int) := Int.natCast_mul _ _
                                        omega)
  have HK := Lib.hid hbk
  have H := Lib.hid h
  clear h hz3'
  go_enter Try.func40, Try.ntmps40
  go_wp2_with (go_at_call 73; refine (spec_BlockOk _ _ _ _ _ _ (H.out.below' (by (repeat' (first | (with_reducible exact Below.refl _ _) | (with_reducible refine Below.setCell ?_ ?_ _) | (with_reducible refine Below.alloc ?_ ?_ _) | (with_reducible refine Below.drew ?_) | (with_reducible refine Below.drewN ?_ _) | (with_reducible refine Below.trans ?_ (Below.mono (by with_reducible assumption) ?_)) | go_size | (dsimp only; omega)))) (by go_size))).mono ?_; rintro e w1 ⟨rfl, hb1⟩; have hx1 := bsize hb1; (try simp at hx1); obtain ⟨hc1, hf1, hz1⟩ := bcell hb1 (b := w.heap.size) (by go_size); obtain ⟨hd1, hg1, hy1⟩ := bcell hb1 (b := w.heap.size + 1) (by go_size))
  have HW := Lib.hid (show Below w.heap.size w w1 by (repeat' (first | (with_reducible exact Below.refl _ _) | (with_reducible refine Below.setCell ?_ ?_ _) | (with_reducible refine Below.alloc ?_ ?_ _) | (with_reducible refine Below.drew ?_) | (with_reducible refine Below.drewN ?_ _) | (with_reducible refine Below.trans ?_ (Below.mono (by with_reducible assumption) ?_)) | go_size | (dsimp only; omega))))
  have l0 : w1.cell? ⟨w.heap.size, 0, none⟩ = some (.int .i64 z) := (hc1 0).trans (by rw [World.cell?_alloc_lt _ _ _ (by go_size), World.cell?_alloc_new]; rfl)
  have l1 : w1.cell? ⟨w.heap.size, 1, none⟩ = some (.slice A n c) := (hc1 1).trans (by rw [World.cell?_alloc_lt _ _ _ (by go_size), World.cell?_alloc_new]; rfl)
  have r0 : w1.cell? ⟨w.heap.size + 1, 0, none⟩ = some (.int .i64 0) := (hd1 0).trans (by simp [go_sem])
  have r1 : w1.cell? ⟨w.heap.size + 1, 1, none⟩ = some (.slice none 0 0) := (hd1 1).trans (by simp [go_sem])
  have rf : ∀ o, w1.frozen? ⟨w.heap.size + 1, o, none⟩ = false := fun o => (hg1 o).trans (by simp [go_sem])
  clear hb1 hc1 hf1 hd1 hg1 hbk
  go_loopw [4] (fun i wr => ∃ (k m c' : Nat) (A' : Option Addr), k ≤ z ∧ m ≤ 16 ∧ i = .int .i64 k ∧ w1.heap.size < wr.heap.size ∧ Hid (m = k * z ∧ wr.cell? ⟨w1.heap.size, 0, none⟩ = some (.int .i64 z) ∧ wr.cell? ⟨w1.heap.size, 1, none⟩ = some (.slice A' m c') ∧ (∀ o, wr.frozen? ⟨w1.heap.size, o, none⟩ = false)) ∧ Hid (OwnC wr (w1.heap.size + 1) A' m c' (rowsL (turnF z xs) z k)) ∧ Hid (Below w1.heap.size w1 wr)) (fun i _ => z - (intOf i).toNat)
  case atStart => exact ⟨0, 0, 0, none, by omega, by omega, rfl, by simp, ⟨by simp, by simp [go_sem], by simp [go_sem], fun o => by simp [go_sem]⟩, (by show OwnC _ _ none 0 0 (rowsL (turnF z xs) z 0); exact OwnC.nil_), (Below.refl _ _).alloc (Nat.le_refl _) _⟩
  case round =>
    obtain ⟨k, m, c', A', hk, hm16, rfl, hwr, hbx, ho, hb⟩ := hrel
    have p0 : wr.cell? ⟨w.heap.size, 0, none⟩ = some (.int .i64 z) := (hb.out.cell (p := ⟨w.heap.size, 0, none⟩) (by dsimp only; omega)).trans l0
    have p1 : wr.cell? ⟨w.heap.size, 1, none⟩ = some (.slice A n c) := (hb.out.cell (p := ⟨w.heap.size, 1, none⟩) (by dsimp only; omega)).trans l1
    obtain ⟨wo, rfl⟩ : ∃ wo : World, wo = wr := ⟨_, rfl⟩
    by_cases hlt : k < z
    · go_wp2
      go_loopw [5] (fun i wr => ∃ (j m c' : Nat) (A' : Option Addr), j ≤ z ∧ m ≤ 16 ∧ i = .int .i64 j ∧ w1.heap.size < wr.heap.size ∧ Hid (m = k * z + j ∧ wr.cell? ⟨w1.heap.size, 0, none⟩ = some (.int .i64 z) ∧ wr.cell? ⟨w1.heap.size, 1, none⟩ = some (.slice A' m c') ∧ (∀ o, wr.frozen? ⟨w1.heap.size, o, none⟩ = false)) ∧ Hid (OwnC wr (w1.heap.size + 1) A' m c' (rowsL (turnF z xs) z k ++ rowL (turnF z xs) k j)) ∧ Hid (Below w1.heap.size w1 wr)) (fun i _ => z - (intOf i).toNat)
      case atStart => exact ⟨0, m, c', A', by omega, hm16, rfl, hwr, hbx.out, (by show OwnC _ _ _ _ _ _; have h := ho.out; simpa [rowL] using h), hb.out⟩
      case round =>
        clear hm16 hwr hbx ho hb p0 p1
        obtain ⟨j, m, c', A', hj, hm16, rfl, hwr, hbx, ho, hb⟩ := hrel
        obtain ⟨hmk, u0, u1, uf⟩ := hbx.out
        have p0 : wr.cell? ⟨w.heap.size, 0, none⟩ = some (.int .i64 z) := (hb.out.cell (p := ⟨w.heap.size, 0, none⟩) (by dsimp only; omega)).trans l0
        have p1 : wr.cell? ⟨w.heap.size, 1, none⟩ = some (.slice A n c) := (hb.out.cell (p := ⟨w.heap.size, 1, none⟩) (by dsimp only; omega)).trans l1
        by_cases hlt2 : j < z
        · have hm1 : m + 1 ≤ 16 := by rw [hmk]; exact kz_le hlt hlt2 (by omega)
          have HM := Lib.hid (show m + 1 = k * z + (j + 1) by omega)
          clear hmk
          have hy := hb.out.size
          have HBW := Lib.hid (HW.out.trans (hb.out.mono (by omega)))
          obtain ⟨m1, m2⟩ := kz_bd (show z - 1 - j < z by omega) (show z ≤ 4 by omega)
          have ec : ((z - 1 - j : Nat) : Int) = (z : Int) - 1 - j := by omega
          rw [ec] at m1 m2
          obtain ⟨q, hq⟩ := Int.eq_ofNat_of_zero_le (show (0 : Int) ≤ ((z : Int) - 1 - (j : Int)) * (z : Int) + (k : Int) by omega)
          have hqn : q < n := by
            rw [HN.out]
            have h1 := idx_lt hlt (show z - 1 - j < z by omega)
            have e : (((z - 1 - j) * z + k : Nat) : Int) = ((z : Int) - 1 - (j : Int)) * (z : Int) + (k : Int) := by rw [Int.natCast_add, Int.natCast_mul, ec]
            omega
          have HQ := Lib.hid (show turnF z xs j k = turnC (cith xs q).s (cith xs q).a (cith xs q).b by unfold turnF; rw [cellAt_in HK.out (by omega) (by omega) (by omega) (by omega) (show ((z : Int) - 1 - (j : Int)) * (z : Int) + (k : Int) = q by omega)])
          have HS := Lib.hid (show rowsL (turnF z xs) z k ++ rowL (turnF z xs) k (j + 1) = (rowsL (turnF z xs) z k ++ rowL (turnF z xs) k j) ++ [turnC (cith xs q).s (cith xs q).a (cith xs q).b] by rw [rowL_succ, List.append_assoc, HQ.out])
          obtain ⟨g, off, rfl, d0, d1, d2⟩ := (H.out.below' HBW.out (Nat.le_refl _)).at_ hqn
          have hqt : (((z : Int) - 1 - (j : Int)) * (z : Int) + (k : Int)).toNat = q := by omega
          have x0 : (0 : Int) ≤ ((z : Int) - 1 - (j : Int)) * (z : Int) + (k : Int) := by omega
          have x1 : ((z : Int) - 1 - (j : Int)) * (z : Int) + (k : Int) < (n : Int) := by omega
          skip
          have HX := Lib.hid hq
          clear hq
          have u5 : IntKind.i64.wrap ((z : Int) - 1) = (z : Int) - 1 := IntWalk.i64_in _ (by omega)
          have u6 : IntKind.i64.wrap ((z : Int) - 1 - (j : Int)) = (z : Int) - 1 - (j : Int) := IntWalk.i64_in _ (by omega)
          have u7 : IntKind.i64.wrap (((z : Int) - 1 - (j : Int)) * (z : Int)) = ((z : Int) - 1 - (j : Int)) * (z : Int) := IntWalk.i64_in _ (by omega)
          have u8 : IntKind.i64.wrap (((z : Int) - 1 - (j : Int)) * (z : Int) + (k : Int)) = ((z : Int) - 1 - (j : Int)) * (z : Int) + (k : Int) := IntWalk.i64_in _ (by omega)
          go_wp2
          go_region_law (first
            | (go_simp; go_at_call 88; (with_reducible refine (spec_TurnCell _ _ _ _).mono ?_); rintro e w2 ⟨rfl, hb2⟩; have HB2 := Lib.hid (show Below wr.heap.size wr w2 from ((Below.refl wr.heap.size wr).drew).trans hb2); have hx2 := HB2.out.size; obtain ⟨bc, bf, bz⟩ := bcell HB2.out (b := w1.heap.size) hwr; have v0 : w2.cell? ⟨w1.heap.size, 0, none⟩ = some (.int .i64 z) := (bc 0).trans u0; have v1 : w2.cell? ⟨w1.heap.size, 1, none⟩ = some (.slice A' m c') := (bc 1).trans u1; have vf : ∀ o, w2.frozen? ⟨w1.heap.size, o, none⟩ = false := (fun o => (bf o).trans (uf o)); clear hb2 bc bf)
            | (refine step_pushC _ (turnC (cith xs q).s (cith xs q).a (cith xs q).b) (by rfl) _ _ (by rfl) rfl (w1.heap.size + 1) A' m c' _ (by rfl) (ho.out.next HB2.out) (by rfl) (by rfl) (by omega) (by omega) ?_; intro g4 c4 w4 ho4 hg4 _; have HO4 := Lib.hid ho4; obtain ⟨kc, kf, kz⟩ := bcellG' hg4 (b := w1.heap.size) (by omega) (fun e2 => by have := (ho.out.lt _ e2).1; omega); have k0 : w4.cell? ⟨w1.heap.size, 0, none⟩ = some (.int .i64 z) := (kc 0).trans v0; have k1 : w4.cell? ⟨w1.heap.size, 1, none⟩ = some (.slice A' m c') := (kc 1).trans v1; have kf' : ∀ o, w4.frozen? ⟨w1.heap.size, o, none⟩ = false := (fun o => (kf o).trans (vf o)); have HB4 := Lib.hid ((HB2.out.mono (show w1.heap.size ≤ wr.heap.size by omega)).trans ((ho.out.next HB2.out).belowOwn hg4 (by omega) |>.mono (by omega))); clear ho4 hg4 kc kf))
          all_goals
            clear u5 u6 u7 u8
            go_wp2
            go_roundw
            case rel =>
              refine ⟨j + 1, m + 1, c4, _, by omega, by omega, by go_num, by simpa using kz, ⟨HM.out, (World.cell?_setCell_other _ _ _ _ (by simp)).trans k0, World.cell?_setCell_same _ _ _ k1, fun o => by rw [World.frozen?_setCell]; exact kf' o⟩, ?_, (hb.out.trans HB4.out).setCell (Nat.le_refl _) _⟩
              rw [HS.out]
              exact HO4.out.set_ (by dsimp only; omega) _
            case measure => simp [intOf]; omega
        · obtain rfl : j = z := by omega
          have HS := Lib.hid (rowsL_succ (turnF j xs) j k)
          have HM := Lib.hid (show m = (k + 1) * j by rw [hmk, Nat.succ_mul])
          clear hmk
          go_wp2
          go_roundw
          case rel => exact ⟨k + 1, m, c', A', by omega, hm16, by go_num, hwr, ⟨HM.out, u0, u1, uf⟩, by rw [HS.out]; exact ho.out, hb.out⟩
          case measure => simp [intOf]; omega
    · obtain rfl : k = z := by omega
      obtain ⟨hmk, u0, u1, uf⟩ := hbx.out
      clear hmk
      have hy := hb.out.size
      have R0 := (hb.out.cell (p := ⟨w.heap.size + 1, 0, none⟩) (by dsimp only; omega)).trans r0
      have R1 := (hb.out.cell (p := ⟨w.heap.size + 1, 1, none⟩) (by dsimp only; omega)).trans r1
      have RF : ∀ o, wo.frozen? ⟨w.heap.size + 1, o, none⟩ = false := fun o => (hb.out.frozen (p := ⟨w.heap.size + 1, o, none⟩) (by dsimp only; omega)).trans (rf o)
      have HBW := Lib.hid (HW.out.trans (hb.out.mono (by omega)))
      go_wp2
      refine bodyPost_ret (by simp [results, Try.results40, go_sem, *]; try rfl) rfl ?_
      refine ⟨_, _, _, rfl, ?_, ?_⟩
      · refine OwnC.base (B := w1.heap.size + 1) ?_ (by omega)
        repeat' (first | exact ho.out | (with_reducible refine OwnC.set_ ?_ ?_ _) | go_size | (dsimp only; omega))
      · have hbo := HBW.out
        (repeat' (first | (with_reducible exact Below.refl _ _) | (with_reducible refine Below.setCell ?_ ?_ _) | (with_reducible refine Below.alloc ?_ ?_ _) | (with_reducible refine Below.drew ?_) | (with_reducible refine Below.drewN ?_ _) | (with_reducible refine Below.trans ?_ (Below.mono (by with_reducible assumption) ?_)) | go_size | (dsimp only; omega)))
theorem spec_TurnBlock (z : Int) (A : Option Addr) (n c : Nat) (xs : List C) (w : World) (h : RdC w w.heap.size A n xs) :
    Calls Try.prog 40 #[.agg #[.int .i64 z, .slice A n c]] w fun e w' => ∃ A n c, e = .returned (.agg #[.int .i64 (turnZ z xs), .slice A n c]) ∧ OwnC w' w.heap.size A n c (turnL z xs) ∧ Below w.heap.size w w' := by
  cases hbk : bOk z xs with
  | true =>
    obtain ⟨hz1', hz2', _, _⟩ := bOk_size hbk
    obtain ⟨z, rfl⟩ := Int.eq_ofNat_of_zero_le (show 0 ≤ z by omega)
    refine (spec_TurnBlock_yes z A n c xs w h hbk).mono ?_
    rintro e w' ⟨A, n, c, he, ho, hb⟩
    exact ⟨A, n, c, by rw [he, turnZ, if_pos hbk], by rw [turnL, if_pos hbk]; exact ho, hb⟩
  | false => exact spec_TurnBlock_no z A n c xs w h hbk

end Go.Proofs.Ytlcllpgbpjdofaa
