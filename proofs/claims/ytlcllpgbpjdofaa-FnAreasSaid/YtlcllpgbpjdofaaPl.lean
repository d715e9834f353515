/- Walks of PlainBlock, both sides. No condition. -/
import Derived.Test.YtlcllpgbpjdofaaMd
set_option linter.unusedSimpArgs false
set_option linter.unusedVariables false
set_option maxRecDepth 100000
namespace Go.Proofs.Ytlcllpgbpjdofaa
open Go.RowKit

theorem zz_le {z : Nat} (h3 : z ≤ 4) : z * z ≤ 16 := by
  have : z = 0 ∨ z = 1 ∨ z = 2 ∨ z = 3 ∨ z = 4 := by omega
  rcases this with rfl | rfl | rfl | rfl | rfl <;> omega
def plainOk (z a : Int) : Bool := inB z 1 4 && inB a 0 5
def plainZ (z a : Int) : Int := if plainOk z a then z else 0
def plainL (z a : Int) : List C := if plainOk z a then List.replicate (z.toNat * z.toNat) (wholeC a) else []
theorem rowsL_const (q : C) (z : Nat) : rowsL (fun _ _ => q) z z = List.replicate (z * z) q := by
  rw [List.eq_replicate_iff]
  refine ⟨rowsL_len _ _ _, ?_⟩
  intro b hb
  simp only [rowsL, rowL, List.mem_flatMap, List.mem_map, List.mem_range] at hb
  obtain ⟨_, _, _, _, h⟩ := hb
  exact h.symm
def plainPost (w : World) (z a : Int) (e : Ending) (w' : World) : Prop := ∃ A n c, e = .returned (.tuple #[.agg #[.int .i64 (plainZ z a), .slice A n c], .bool (plainOk z a)]) ∧ OwnC w' w.heap.size A n c (plainL z a) ∧ Below w.heap.size w w'
theorem plain_no {w w' : World} {z a : Int} {e : Ending} (h : plainOk z a = false) (he : e = .returned (.tuple #[.agg #[.int .i64 0, .slice none 0 0], .bool false])) (hb : Below w.heap.size w w') : plainPost w z a e w' :=
  ⟨none, 0, 0, by rw [he, plainZ, h]; rfl, by rw [plainL, h]; exact OwnC.nil_, hb⟩
theorem plain_yes {w w' : World} {z : Nat} {a : Int} {e : Ending} {A : Option Addr} {n c : Nat} (h : plainOk z a = true) (he : e = .returned (.tuple #[.agg #[.int .i64 z, .slice A n c], .bool true])) (ho : OwnC w' w.heap.size A n c (List.replicate (z * z) (wholeC a))) (hb : Below w.heap.size w w') : plainPost w z a e w' :=
  ⟨A, n, c, by rw [he, plainZ, h]; rfl, by rw [plainL, h]; exact ho, hb⟩


set_option maxRecDepth 100000 in
set_option maxHeartbeats 2000000 in
theorem spec_PlainBlock (z a : Int) (w : World) :
    Calls Try.prog 108 #[.int .i64 z, .int .i64 a] w (plainPost w z a) := by
  have hs := lt2
  cases h1 : inB z 1 4 with
  | false =>
    have HP := Lib.hid (show plainOk z a = false by rw [plainOk, h1]; rfl)
    go_enter Try.func108, Try.ntmps108
    go_wp2_with (go_at_call 110; refine (spec_l01In _ _ _ _).mono ?_; rintro e w' ⟨rfl, rfl⟩)
    refine bodyPost_ret (by simp [results, Try.results108, go_sem, *]; try rfl) rfl ?_
    refine plain_no HP.out rfl ?_
    (repeat' (first | (with_reducible exact Below.refl _ _) | (with_reducible refine Below.setCell ?_ ?_ _) | (with_reducible refine Below.alloc ?_ ?_ _) | (with_reducible refine Below.drew ?_) | (with_reducible refine Below.drewN ?_ _) | (with_reducible refine Below.trans ?_ (Below.mono (by with_reducible assumption) ?_)) | go_size | (dsimp only; omega)))
  | true =>
    cases h2 : inB a 0 5 with
    | false =>
      have HP := Lib.hid (show plainOk z a = false by rw [plainOk, h1, h2]; rfl)
      go_enter Try.func108, Try.ntmps108
      go_wp2_with (go_at_call 110; refine (spec_l01In _ _ _ _).mono ?_; rintro e w' ⟨rfl, rfl⟩)
      refine bodyPost_ret (by simp [results, Try.results108, go_sem, *]; try rfl) rfl ?_
      refine plain_no HP.out rfl ?_
      (repeat' (first | (with_reducible exact Below.refl _ _) | (with_reducible refine Below.setCell ?_ ?_ _) | (with_reducible refine Below.alloc ?_ ?_ _) | (with_reducible refine Below.drew ?_) | (with_reducible refine Below.drewN ?_ _) | (with_reducible refine Below.trans ?_ (Below.mono (by with_reducible assumption) ?_)) | go_size | (dsimp only; omega)))
    | true =>
      have HP := Lib.hid (show plainOk z a = true by rw [plainOk, h1, h2]; rfl)
      have hz : 1 ≤ z ∧ z ≤ 4 := by simpa [inB] using h1
      obtain ⟨z, rfl⟩ := Int.eq_ofNat_of_zero_le (show 0 ≤ z by omega)
      have hzz := zz_le (show z ≤ 4 by omega)
      have hz0 : (0 : Int) ≤ (z : Int) * (z : Int) := Int.mul_nonneg (by omega) (by omega)
      have hz2 : (z : Int) * (z : Int) ≤ 16 := by have : ((z * z : Nat) : Int) ≤ 16 := by omega
                                                  rwa [Int.natCast_mul] at this
      go_enter Try.func108, Try.ntmps108
      go_wp2_with (go_at_call 110; refine (spec_l01In _ _ _ _).mono ?_; rintro e w' ⟨rfl, rfl⟩)
      go_loopw [7] (fun i wr => ∃ (k c' : Nat) (A' : Option Addr), k ≤ z * z ∧ (k : Int) ≤ (z : Int) * (z : Int) ∧ i = .int .i64 k ∧ w.heap.size + 1 < wr.heap.size ∧ Hid (wr.cell? ⟨w.heap.size + 1, 0, none⟩ = some (.int .i64 z) ∧ wr.cell? ⟨w.heap.size + 1, 1, none⟩ = some (.slice A' k c') ∧ (∀ o, wr.frozen? ⟨w.heap.size + 1, o, none⟩ = false)) ∧ Hid (OwnC wr (w.heap.size + 2) A' k c' (List.replicate k (wholeC a))) ∧ Hid (Below (w.heap.size + 1) (w.alloc (.cells #[.int .i64 0, .slice none 0 0] 42)) wr)) (fun i _ => z * z - (intOf i).toNat)
      case atStart => exact ⟨0, 0, none, by omega, by omega, rfl, by simp, ⟨by simp [go_sem], by simp [go_sem], fun o => by simp [go_sem]⟩, (by show OwnC _ _ none 0 0 []; exact OwnC.nil_), (Below.refl _ _).alloc (by simp) _⟩
      case round =>
        obtain ⟨k, c', A', hk, hki, rfl, hwr, hbx, ho, hb⟩ := hrel
        obtain ⟨u0, u1, uf⟩ := hbx.out
        have hy := hb.out.size
        simp only [World.size_alloc] at hy
        by_cases hlt : (k : Int) < (z : Int) * (z : Int)
        · have HK := Lib.hid (show k + 1 ≤ z * z by have h3 : (k : Int) < ((z * z : Nat) : Int) := by rw [Int.natCast_mul]; exact hlt
                                                    omega)
          have HS := Lib.hid (show List.replicate (k + 1) (wholeC a) = List.replicate k (wholeC a) ++ [wholeC a] from List.replicate_succ')
          have hk16 : k + 1 ≤ 16 := by have := HK.out; omega
          go_wp2
          go_region_law (first
            | (go_simp; go_at_call 119; (with_reducible refine (spec_WholeCell _ _).mono ?_); rintro e w2 ⟨rfl, hb2⟩; have HB2 := Lib.hid (show Below wr.heap.size wr w2 from ((Below.refl wr.heap.size wr).drew).trans hb2); have hx2 := HB2.out.size; obtain ⟨bc, bf, bz⟩ := bcell HB2.out (b := w.heap.size + 1) hwr; have v0 : w2.cell? ⟨w.heap.size + 1, 0, none⟩ = some (.int .i64 z) := (bc 0).trans u0; have v1 : w2.cell? ⟨w.heap.size + 1, 1, none⟩ = some (.slice A' k c') := (bc 1).trans u1; have vf : ∀ o, w2.frozen? ⟨w.heap.size + 1, o, none⟩ = false := (fun o => (bf o).trans (uf o)); clear hb2 bc bf)
            | (refine step_pushC _ (wholeC a) (by rfl) _ _ (by rfl) rfl (w.heap.size + 2) A' k c' _ (by rfl) (ho.out.next HB2.out) (by rfl) (by rfl) (by omega) (by omega) ?_; intro g4 c4 w4 ho4 hg4 _; have HO4 := Lib.hid ho4; obtain ⟨kc, kf, kz⟩ := bcellG' hg4 (b := w.heap.size + 1) (by omega) (fun e2 => by have := (ho.out.lt _ e2).1; omega); have k0 : w4.cell? ⟨w.heap.size + 1, 0, none⟩ = some (.int .i64 z) := (kc 0).trans v0; have k1 : w4.cell? ⟨w.heap.size + 1, 1, none⟩ = some (.slice A' k c') := (kc 1).trans v1; have kf' : ∀ o, w4.frozen? ⟨w.heap.size + 1, o, none⟩ = false := (fun o => (kf o).trans (vf o)); have HB4 := Lib.hid ((HB2.out.mono (show w.heap.size + 1 ≤ wr.heap.size by omega)).trans ((ho.out.next HB2.out).belowOwn hg4 (by omega) |>.mono (by omega))); clear ho4 hg4 kc kf))
          all_goals
            go_wp2
            go_roundw
            case rel =>
              refine ⟨k + 1, c4, _, HK.out, by omega, by go_num, by simpa using kz, ⟨(World.cell?_setCell_other _ _ _ _ (by simp)).trans k0, World.cell?_setCell_same _ _ _ k1, fun o => by rw [World.frozen?_setCell]; exact kf' o⟩, ?_, (hb.out.trans HB4.out).setCell (Nat.le_refl _) _⟩
              rw [HS.out]
              exact HO4.out.set_ (by dsimp only; omega) _
            case measure => have := HK.out; simp [intOf]; omega
        · have HK := Lib.hid (show k = z * z by have h3 : ¬ (k : Int) < ((z * z : Nat) : Int) := by rw [Int.natCast_mul]; exact hlt
                                                omega)
          have R0 : wr.cell? ⟨w.heap.size, 0, none⟩ = some (.int .i64 0) := (hb.out.cell (p := ⟨w.heap.size, 0, none⟩) (by dsimp only; omega)).trans (by simp [go_sem])
          have R1 : wr.cell? ⟨w.heap.size, 1, none⟩ = some (.slice none 0 0) := (hb.out.cell (p := ⟨w.heap.size, 1, none⟩) (by dsimp only; omega)).trans (by simp [go_sem])
          have RF : ∀ o, wr.frozen? ⟨w.heap.size, o, none⟩ = false := fun o => (hb.out.frozen (p := ⟨w.heap.size, o, none⟩) (by dsimp only; omega)).trans (by simp [go_sem])
          have HBW := Lib.hid (show Below w.heap.size w wr from ((Below.refl w.heap.size w).alloc (Nat.le_refl _) _).trans (hb.out.mono (by omega)))
          go_wp2
          refine bodyPost_ret (by simp [results, Try.results108, go_sem, *]; try rfl) rfl ?_
          refine plain_yes HP.out rfl ?_ ?_
          · rw [← HK.out]
            refine OwnC.base (B := w.heap.size + 2) ?_ (by omega)
            repeat' (first | exact ho.out | (with_reducible refine OwnC.set_ ?_ ?_ _) | go_size | (dsimp only; omega))
          · have hbo := HBW.out
            (repeat' (first | (with_reducible exact Below.refl _ _) | (with_reducible refine Below.setCell ?_ ?_ _) | (with_reducible refine Below.alloc ?_ ?_ _) | (with_reducible refine Below.drew ?_) | (with_reducible refine Below.drewN ?_ _) | (with_reducible refine Below.trans ?_ (Below.mono (by with_reducible assumption) ?_)) | go_size | (dsimp only; omega)))
end Go.Proofs.Ytlcllpgbpjdofaa
