/- Walks of PlainBlock, both sides. No condition. -/
import Derived.Test.YtjjdkbkmjjfnoaaMd
set_option linter.unusedSimpArgs false
set_option linter.unusedVariables false
namespace Go.Proofs.Ytjjdkbkmjjfnoaa
open Go.RowKit

theorem zz_le {z : Nat} (h3 : z ≤ 4) : z * z ≤ 16 := by
  have : z = 0 ∨ z = 1 ∨ z = 2 ∨ z = 3 ∨ z = 4 := by omega
  rcases this with rfl | rfl | rfl | rfl | rfl <;> omega
def plainOk (z a : Int) : Bool := inB z 1 4 && inB a 0 5
def plainZ (z a : Int) : Int := if plainOk z a then z else 0
def plainL (z a : Int) : List C := if plainOk z a then List.replicate (z.toNat * z.toNat) (wholeC a) else []
theorem rowsL_const (q : C) (z : Nat) : rowsL (fun _ _ => q) z z = List.replicate (z * z) q := by
  rw [List.eq_replicate_iff]
  refine ⟨rowsL_len _ _ _, ?_⟩
  intro b hb
  simp only [rowsL, rowL, List.mem_flatMap, List.mem_map, List.mem_range] at hb
  obtain ⟨_, _, _, _, h⟩ := hb
  exact h.symm
def plainPost (w : World) (z a : Int) (e : Ending) (w' : World) : Prop := ∃ A n c, e = .returned (.tuple #[.agg #[.int .i64 (plainZ z a), .slice A n c], .bool (plainOk z a)]) ∧ OwnC w' w.heap.size A n c (plainL z a) ∧ Below w.heap.size w w'
theorem plain_no {w w' : World} {z a : Int} {e : Ending} (h : plainOk z a = false) (he : e = .returned (.tuple #[.agg #[.int .i64 0, .slice none 0 0], .bool false])) (hb : Below w.heap.size w w') : plainPost w z a e w' :=
  ⟨none, 0, 0, by rw [he, plainZ, h]; rfl, by rw [plainL, h]; exact OwnC.nil_, hb⟩
theorem plain_yes {w w' : World} {z : Nat} {a : Int} {e : Ending} {A : Option Addr} {n c : Nat} (h : plainOk z a = true) (he : e = .returned (.tuple #[.agg #[.int .i64 z, .slice A n c], .bool true])) (ho : OwnC w' w.heap.size A n c (List.replicate (z * z) (wholeC a))) (hb : Below w.heap.size w w') : plainPost w z a e w' :=
  ⟨A, n, c, by rw [he, plainZ, h]; rfl, by rw [plainL, h]; exact ho, hb⟩

set_option maxRecDepth 100000 in
set_option maxHeartbeats 1000000 in
theorem impl_PlainBlock_1 (a x y : Int) (b : Nat) (w : World) (hb : b < w.heap.size) (hc : w.cell? ⟨b, 0, none⟩ = some (.int .i64 a)) :
    Calls Try.prog 85 #[.int .i64 x, .int .i64 y, .pointer (some ⟨b, 0, none⟩)] w fun e w' => e = .returned (.agg #[.int .i64 (wholeC a).s, .int .i64 (wholeC a).a, .int .i64 (wholeC a).b]) ∧ Below w.heap.size w w' := by
  have hs := lt2
  go_enter Try.func85, Try.ntmps85
  go_wp2_with (go_at_call 86; refine (impl_WholeCell _ _).mono ?_; rintro e w1 ⟨rfl, hb1⟩; have hx1 := bsize hb1; (try simp at hx1); obtain ⟨hc1, hf1, hz1⟩ := bcell hb1 (b := w.heap.size) (by go_size))
  refine bodyPost_ret (by simp [results, Try.results85, go_sem, *]; try rfl) rfl ?_
  refine ⟨rfl, ?_⟩
  (repeat' (first | (with_reducible exact Below.refl _ _) | (with_reducible refine Below.setCell ?_ ?_ _) | (with_reducible refine Below.alloc ?_ ?_ _) | (with_reducible refine Below.drew ?_) | (with_reducible refine Below.drewN ?_ _) | (with_reducible refine Below.trans ?_ (Below.mono (by with_reducible assumption) ?_)) | go_size | (dsimp only; omega)))
theorem enters_PlainBlock_1 : ∀ (args : Array Value) (w : World), (callFunc 85 args).run Try.prog w = .ok (.enter 85 args) w := Go.Proofs.enters_of Try.func85 (by kernel_rfl) rfl
set_option maxRecDepth 100000 in
set_option maxHeartbeats 1000000 in
theorem impl_PlainBlock (z a : Int) (w : World) :
    Calls Try.prog 33 #[.int .i64 z, .int .i64 a] w (plainPost w z a) := by
  have hs := lt2
  cases h1 : inB z 1 4 with
  | false =>
    have HP := Lib.hid (show plainOk z a = false by rw [plainOk, h1]; rfl)
    go_enter Try.func33, Try.ntmps33
    go_wp2_with (go_at_call 79; refine (impl_within _ _ _ _).mono ?_; rintro e w' ⟨rfl, rfl⟩)
    refine bodyPost_ret (by simp [results, Try.results33, go_sem, *]; try rfl) rfl ?_
    refine plain_no HP.out rfl ?_
    (repeat' (first | (with_reducible exact Below.refl _ _) | (with_reducible refine Below.setCell ?_ ?_ _) | (with_reducible refine Below.alloc ?_ ?_ _) | (with_reducible refine Below.drew ?_) | (with_reducible refine Below.drewN ?_ _) | (with_reducible refine Below.trans ?_ (Below.mono (by with_reducible assumption) ?_)) | go_size | (dsimp only; omega)))
  | true =>
    cases h2 : inB a 0 5 with
    | false =>
      have HP := Lib.hid (show plainOk z a = false by rw [plainOk, h1, h2]; rfl)
      go_enter Try.func33, Try.ntmps33
      go_wp2_with (first
        | (go_at_call 79; refine (impl_within _ _ _ _).mono ?_; rintro e w' ⟨rfl, rfl⟩)
        | (go_at_call 83; refine (impl_isColor _ _).mono ?_; rintro e w' ⟨rfl, rfl⟩))
      refine bodyPost_ret (by simp [results, Try.results33, go_sem, *]; try rfl) rfl ?_
      refine plain_no HP.out rfl ?_
      (repeat' (first | (with_reducible exact Below.refl _ _) | (with_reducible refine Below.setCell ?_ ?_ _) | (with_reducible refine Below.alloc ?_ ?_ _) | (with_reducible refine Below.drew ?_) | (with_reducible refine Below.drewN ?_ _) | (with_reducible refine Below.trans ?_ (Below.mono (by with_reducible assumption) ?_)) | go_size | (dsimp only; omega)))
    | true =>
      have HP := Lib.hid (show plainOk z a = true by rw [plainOk, h1, h2]; rfl)
      have hz : 1 ≤ z ∧ z ≤ 4 := by simpa [inB] using h1
      obtain ⟨z, rfl⟩ := Int.eq_ofNat_of_zero_le (show 0 ≤ z by omega)
      have hmf : ∀ (fn : Fn) (first cap : Array Value) (w : World), (Instr.makeFunc fn first cap).run Try.prog w = .ok (.func fn first cap) w := fun _ _ _ _ => rfl
      go_enter Try.func33, Try.ntmps33
      go_wp2_with (first
        | (go_at_call 79; refine (impl_within _ _ _ _).mono ?_; rintro e w' ⟨rfl, rfl⟩)
        | (go_at_call 83; refine (impl_isColor _ _).mono ?_; rintro e w' ⟨rfl, rfl⟩)
        | (go_at_call 84; refine (impl_made 85 (.pointer (some ⟨w.heap.size, 0, none⟩)) (fun _ _ => wholeC a) z _ enters_PlainBlock_1 (by omega) (by omega) (fun x y w' _ _ hb => impl_PlainBlock_1 a x y _ w' (Nat.lt_of_lt_of_le (by go_size) hb.size) ((hb.cell (p := ⟨w.heap.size, 0, none⟩) (by go_size)).trans (by rw [World.cell?_alloc_lt _ _ _ (by go_size), World.cell?_alloc_new]; rfl)))).mono ?_; rintro e w1 ⟨A, n, c, rfl, ho1, hb1⟩; have HO := Lib.hid ho1; have hx1 := bsize hb1; (try simp at hx1); obtain ⟨hc1, hf1, hz1⟩ := bcell hb1 (b := w.heap.size + 1) (by go_size); clear ho1))
      refine bodyPost_ret (by simp [results, Try.results33, go_sem, *]; try rfl) rfl ?_
      refine plain_yes HP.out rfl ?_ ?_
      · have ho := HO.out
        rw [rowsL_const] at ho
        refine OwnC.base (B := w.heap.size + 1 + 1) ?_ (by omega)
        simp only [World.size_alloc] at ho
        repeat' (first | exact ho | (with_reducible refine OwnC.set_ ?_ ?_ _) | go_size | (dsimp only; omega))
      · (repeat' (first | (with_reducible exact Below.refl _ _) | (with_reducible refine Below.setCell ?_ ?_ _) | (with_reducible refine Below.alloc ?_ ?_ _) | (with_reducible refine Below.drew ?_) | (with_reducible refine Below.drewN ?_ _) | (with_reducible refine Below.trans ?_ (Below.mono (by with_reducible assumption) ?_)) | go_size | (dsimp only; omega)))

set_option maxRecDepth 100000 in
set_option maxHeartbeats 2000000 in
theorem spec_PlainBlock (z a : Int) (w : World) :
    Calls Try.prog 32 #[.int .i64 z, .int .i64 a] w (plainPost w z a) := by
  have hs := lt2
  cases h1 : inB z 1 4 with
  | false =>
    have HP := Lib.hid (show plainOk z a = false by rw [plainOk, h1]; rfl)
    go_enter Try.func32, Try.ntmps32
    go_wp2_with (go_at_call 77; refine (spec_l01In _ _ _ _).mono ?_; rintro e w' ⟨rfl, rfl⟩)
    refine bodyPost_ret (by simp [results, Try.results32, go_sem, *]; try rfl) rfl ?_
    refine plain_no HP.out rfl ?_
    (repeat' (first | (with_reducible exact Below.refl _ _) | (with_reducible refine Below.setCell ?_ ?_ _) | (with_reducible refine Below.alloc ?_ ?_ _) | (with_reducible refine Below.drew ?_) | (with_reducible refine Below.drewN ?_ _) | (with_reducible refine Below.trans ?_ (Below.mono (by with_reducible assumption) ?_)) | go_size | (dsimp only; omega)))
  | true =>
    cases h2 : inB a 0 5 with
    | false =>
      have HP := Lib.hid (show plainOk z a = false by rw [plainOk, h1, h2]; rfl)
      go_enter Try.func32, Try.ntmps32
      go_wp2_with (go_at_call 77; refine (spec_l01In _ _ _ _).mono ?_; rintro e w' ⟨rfl, rfl⟩)
      refine bodyPost_ret (by simp [results, Try.results32, go_sem, *]; try rfl) rfl ?_
      refine plain_no HP.out rfl ?_
      (repeat' (first | (with_reducible exact Below.refl _ _) | (with_reducible refine Below.setCell ?_ ?_ _) | (with_reducible refine Below.alloc ?_ ?_ _) | (with_reducible refine Below.drew ?_) | (with_reducible refine Below.drewN ?_ _) | (with_reducible refine Below.trans ?_ (Below.mono (by with_reducible assumption) ?_)) | go_size | (dsimp only; omega)))
    | true =>
      have HP := Lib.hid (show plainOk z a = true by rw [plainOk, h1, h2]; rfl)
      have hz : 1 ≤ z ∧ z ≤ 4 := by simpa [inB] using h1
      obtain ⟨z, rfl⟩ := Int.eq_ofNat_of_zero_le (show 0 ≤ z by omega)
      have hzz := zz_le (show z ≤ 4 by omega)
      have hz0 : (0 : Int) ≤ (z : Int) * (z : Int) := Int.mul_nonneg (by omega) (by omega)
      have hz2 : (z : Int) * (z : Int) ≤ 16 := by have : ((z * z : Nat) : Int) ≤ 16 := by omega
                                                  rwa [Int.natCast_mul] at this
      go_enter Try.func32, Try.ntmps32
      go_wp2_with (go_at_call 77; refine (spec_l01In _ _ _ _).mono ?_; rintro e w' ⟨rfl, rfl⟩)
      go_loopw [7] (fun i wr => ∃ (k c' : Nat) (A' : Option Addr), k ≤ z * z ∧ (k : Int) ≤ (z : Int) * (z : Int) ∧ i = .int .i64 k ∧ w.heap.size + 1 < wr.heap.size ∧ Hid (wr.cell? ⟨w.heap.size + 1, 0, none⟩ = some (.int .i64 z) ∧ wr.cell? ⟨w.heap.size + 1, 1, none⟩ = some (.slice A' k c') ∧ (∀ o, wr.frozen? ⟨w.heap.size + 1, o, none⟩ = false)) ∧ Hid (OwnC wr (w.heap.size + 2) A' k c' (List.replicate k (wholeC a))) ∧ Hid (Below (w.heap.size + 1) (w.alloc (.cells #[.int .i64 0, .slice none 0 0] 29)) wr)) (fun i _ => z * z - (intOf i).toNat)
      case atStart => exact ⟨0, 0, none, by omega, by omega, rfl, by simp, ⟨by simp [go_sem], by simp [go_sem], fun o => by simp [go_sem]⟩, (by show OwnC _ _ none 0 0 []; exact OwnC.nil_), (Below.refl _ _).alloc (by simp) _⟩
      case round =>
        obtain ⟨k, c', A', hk, hki, rfl, hwr, hbx, ho, hb⟩ := hrel
        obtain ⟨u0, u1, uf⟩ := hbx.out
        have hy := hb.out.size
        simp only [World.size_alloc] at hy
        by_cases hlt : (k : Int) < (z : Int) * (z : Int)
        · have HK := Lib.hid (show k + 1 ≤ z * z by have h3 : (k : Int) < ((z * z : Nat) : Int) := by rw [Int.natCast_mul]; exact hlt
                                                    omega)
          have HS := Lib.hid (show List.replicate (k + 1) (wholeC a) = List.replicate k (wholeC a) ++ [wholeC a] from List.replicate_succ')
          have hk16 : k + 1 ≤ 16 := by have := HK.out; omega
          go_wp2
          go_region_law (first
            | (go_simp; go_at_call 82; (with_reducible refine (spec_WholeCell _ _).mono ?_); rintro e w2 ⟨rfl, hb2⟩; have HB2 := Lib.hid (show Below wr.heap.size wr w2 from ((Below.refl wr.heap.size wr).drew).trans hb2); have hx2 := HB2.out.size; obtain ⟨bc, bf, bz⟩ := bcell HB2.out (b := w.heap.size + 1) hwr; have v0 : w2.cell? ⟨w.heap.size + 1, 0, none⟩ = some (.int .i64 z) := (bc 0).trans u0; have v1 : w2.cell? ⟨w.heap.size + 1, 1, none⟩ = some (.slice A' k c') := (bc 1).trans u1; have vf : ∀ o, w2.frozen? ⟨w.heap.size + 1, o, none⟩ = false := (fun o => (bf o).trans (uf o)); clear hb2 bc bf)
            | (refine step_pushC _ (wholeC a) (by rfl) _ _ (by rfl) rfl (w.heap.size + 2) A' k c' _ (by rfl) (ho.out.next HB2.out) (by rfl) (by rfl) (by omega) (by omega) ?_; intro g4 c4 w4 ho4 hg4 _; have HO4 := Lib.hid ho4; obtain ⟨kc, kf, kz⟩ := bcellG' hg4 (b := w.heap.size + 1) (by omega) (fun e2 => by have := (ho.out.lt _ e2).1; omega); have k0 : w4.cell? ⟨w.heap.size + 1, 0, none⟩ = some (.int .i64 z) := (kc 0).trans v0; have k1 : w4.cell? ⟨w.heap.size + 1, 1, none⟩ = some (.slice A' k c') := (kc 1).trans v1; have kf' : ∀ o, w4.frozen? ⟨w.heap.size + 1, o, none⟩ = false := (fun o => (kf o).trans (vf o)); have HB4 := Lib.hid ((HB2.out.mono (show w.heap.size + 1 ≤ wr.heap.size by omega)).trans ((ho.out.next HB2.out).belowOwn hg4 (by omega) |>.mono (by omega))); clear ho4 hg4 kc kf))
          all_goals
            go_wp2
            go_roundw
            case rel =>
              refine ⟨k + 1, c4, _, HK.out, by omega, by go_num, by simpa using kz, ⟨(World.cell?_setCell_other _ _ _ _ (by simp)).trans k0, World.cell?_setCell_same _ _ _ k1, fun o => by rw [World.frozen?_setCell]; exact kf' o⟩, ?_, (hb.out.trans HB4.out).setCell (Nat.le_refl _) _⟩
              rw [HS.out]
              exact HO4.out.set_ (by dsimp only; omega) _
            case measure => have := HK.out; simp [intOf]; omega
        · have HK := Lib.hid (show k = z * z by have h3 : ¬ (k : Int) < ((z * z : Nat) : Int) := by rw [Int.natCast_mul]; exact hlt
                                                omega)
          have R0 : wr.cell? ⟨w.heap.size, 0, none⟩ = some (.int .i64 0) := (hb.out.cell (p := ⟨w.heap.size, 0, none⟩) (by dsimp only; omega)).trans (by simp [go_sem])
          have R1 : wr.cell? ⟨w.heap.size, 1, none⟩ = some (.slice none 0 0) := (hb.out.cell (p := ⟨w.heap.size, 1, none⟩) (by dsimp only; omega)).trans (by simp [go_sem])
          have RF : ∀ o, wr.frozen? ⟨w.heap.size, o, none⟩ = false := fun o => (hb.out.frozen (p := ⟨w.heap.size, o, none⟩) (by dsimp only; omega)).trans (by simp [go_sem])
          have HBW := Lib.hid (show Below w.heap.size w wr from ((Below.refl w.heap.size w).alloc (Nat.le_refl _) _).trans (hb.out.mono (by omega)))
          go_wp2
          refine bodyPost_ret (by simp [results, Try.results32, go_sem, *]; try rfl) rfl ?_
          refine plain_yes HP.out rfl ?_ ?_
          · rw [← HK.out]
            refine OwnC.base (B := w.heap.size + 2) ?_ (by omega)
            repeat' (first | exact ho.out | (with_reducible refine OwnC.set_ ?_ ?_ _) | go_size | (dsimp only; omega))
          · have hbo := HBW.out
            (repeat' (first | (with_reducible exact Below.refl _ _) | (with_reducible refine Below.setCell ?_ ?_ _) | (with_reducible refine Below.alloc ?_ ?_ _) | (with_reducible refine Below.drew ?_) | (with_reducible refine Below.drewN ?_ _) | (with_reducible refine Below.trans ?_ (Below.mono (by with_reducible assumption) ?_)) | go_size | (dsimp only; omega)))
end Go.Proofs.Ytjjdkbkmjjfnoaa
