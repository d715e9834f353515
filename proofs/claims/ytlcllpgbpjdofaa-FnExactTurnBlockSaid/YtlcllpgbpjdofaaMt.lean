/- Walks of MirrorBlock and TurnBlock, both sides. No condition. -/
import Derived.Test.YtlcllpgbpjdofaaPl
set_option linter.unusedSimpArgs false
set_option linter.unusedVariables false
set_option maxRecDepth 100000
namespace Go.Proofs.Ytlcllpgbpjdofaa
open Go.RowKit

theorem i64_small {z : Int} (h1 : 0 ≤ z) (h2 : z ≤ 4) : I64 z := by
  have hmin : IntKind.i64.min = -9223372036854775808 := rfl
  have hmax : IntKind.i64.max = 9223372036854775807 := rfl
  unfold I64
  simp only [Lit.wf, Bool.and_eq_true, decide_eq_true_eq]
  omega
theorem cellAt_in {z : Int} {xs : List C} {x y : Int} {q : Nat} (hb : bOk z xs = true) (hx0 : 0 ≤ x) (hx1 : x < z) (hy0 : 0 ≤ y) (hy1 : y < z) (hq : y * z + x = q) : cellAtB z xs x y = cith xs q := by
  have hp : isPl z xs x y = true := by rw [isPl, hb, inB_t hx0 (by omega), inB_t hy0 (by omega)]; rfl
  rw [cellAtB, if_pos hp, hq]; rfl
theorem idx_lt {z x y : Nat} (hx : x < z) (hy : y < z) : y * z + x < z * z := by
  have : (y + 1) * z ≤ z * z := Nat.mul_le_mul_right _ hy
  rw [Nat.succ_mul] at this; omega

theorem kz_bd {k z : Nat} (h1 : k < z) (h3 : z ≤ 4) : (0 : Int) ≤ (k : Int) * (z : Int) ∧ (k : Int) * (z : Int) ≤ 12 := by
  have : k * z ≤ 3 * 4 := Nat.mul_le_mul (by omega) h3
  have e : ((k * z : Nat) : Int) = (k : Int) * (z : Int) := Int.natCast_mul _ _
  omega
def mirrorF (z : Int) (xs : List C) (x y : Int) : C := (fun q : C => mirrorC q.s q.a q.b) (cellAtB z xs (z - 1 - x) y)
def mirrorZ (z : Int) (xs : List C) : Int := if bOk z xs = true then z else 0
def mirrorL (z : Int) (xs : List C) : List C := if bOk z xs = true then rowsL (mirrorF z xs) z.toNat z.toNat else []
set_option maxRecDepth 100000 in
set_option maxHeartbeats 1000000 in
theorem impl_MirrorBlock_1 (z : Int) (A : Option Addr) (n c : Nat) (xs : List C) (x y : Nat) (b : Nat) (w : World) (hz1 : 1 ≤ z) (hz2 : z ≤ 4) (hx : x < z) (hy : y < z) (h : RdC w w.heap.size A n xs) (hb : b < w.heap.size) (hc0 : w.cell? ⟨b, 0, none⟩ = some (.int .i64 z)) (hc1 : w.cell? ⟨b, 1, none⟩ = some (.slice A n c)) :
    Calls Try.prog 82 #[.int .i64 x, .int .i64 y, .pointer (some ⟨b, 0, none⟩)] w fun e w' => e = .returned (.agg #[.int .i64 (mirrorF z xs x y).s, .int .i64 (mirrorF z xs x y).a, .int .i64 (mirrorF z xs x y).b]) ∧ Below w.heap.size w w' := by
  have hs := lt2
  have hi := i64_small (z := z) (by omega) hz2
  have H := Lib.hid h
  clear h
  go_enter Try.func82, Try.ntmps82
  go_wp2_with fail
  refine (impl_CellAt _ _ _ _ _ _ _ _ (H.out.below' (by (repeat' (first | (with_reducible exact Below.refl _ _) | (with_reducible refine Below.setCell ?_ ?_ _) | (with_reducible refine Below.alloc ?_ ?_ _) | (with_reducible refine Below.drew ?_) | (with_reducible refine Below.drewN ?_ _) | (with_reducible refine Below.trans ?_ (Below.mono (by with_reducible assumption) ?_)) | go_size | (dsimp only; omega)))) (by go_size)) hi).mono ?_
  rintro e w1 ⟨rfl, hb1⟩
  have hx1 := bsize hb1
  (try simp at hx1)
  obtain ⟨hc1, hf1, hz1'⟩ := bcell hb1 (b := w.heap.size) (by go_size)
  go_wp2_with fail
  refine (impl_MirrorCell _ _ _ _).mono ?_
  rintro e w2 ⟨rfl, hb2⟩
  have hx2 := bsize hb2
  (try simp at hx2)
  obtain ⟨hc2, hf2, hz2'⟩ := bcell hb2 (b := w.heap.size) (by go_size)
  go_wp2
  refine bodyPost_ret (by simp [results, Try.results82, go_sem, *]; try rfl) rfl ?_
  refine ⟨rfl, ?_⟩
  (repeat' (first | (with_reducible exact Below.refl _ _) | (with_reducible refine Below.setCell ?_ ?_ _) | (with_reducible refine Below.alloc ?_ ?_ _) | (with_reducible refine Below.drew ?_) | (with_reducible refine Below.drewN ?_ _) | (with_reducible refine Below.trans ?_ (Below.mono (by with_reducible assumption) ?_)) | go_size | (dsimp only; omega)))
theorem enters_MirrorBlock_1 : ∀ (args : Array Value) (w : World), (callFunc 82 args).run Try.prog w = .ok (.enter 82 args) w := Go.Proofs.enters_of Try.func82 (by kernel_rfl) rfl
set_option maxRecDepth 100000 in
set_option maxHeartbeats 1000000 in
theorem impl_MirrorBlock (z : Int) (A : Option Addr) (n c : Nat) (xs : List C) (w : World) (h : RdC w w.heap.size A n xs) :
    Calls Try.prog 36 #[.agg #[.int .i64 z, .slice A n c]] w fun e w' => ∃ A n c, e = .returned (.agg #[.int .i64 (mirrorZ z xs), .slice A n c]) ∧ OwnC w' w.heap.size A n c (mirrorL z xs) ∧ Below w.heap.size w w' := by
  have hs := lt2
  have H := Lib.hid h
  clear h
  cases hbk : bOk z xs with
  | false =>
    have E1 := Lib.hid (show mirrorZ z xs = 0 by rw [mirrorZ, hbk]; rfl)
    have E2 := Lib.hid (show mirrorL z xs = [] by rw [mirrorL, hbk]; rfl)
    go_enter Try.func36, Try.ntmps36
    go_wp2_with (go_at_call 72; refine (impl_BlockOk _ _ _ _ _ _ (H.out.below' (by (repeat' (first | (with_reducible exact Below.refl _ _) | (with_reducible refine Below.setCell ?_ ?_ _) | (with_reducible refine Below.alloc ?_ ?_ _) | (with_reducible refine Below.drew ?_) | (with_reducible refine Below.drewN ?_ _) | (with_reducible refine Below.trans ?_ (Below.mono (by with_reducible assumption) ?_)) | go_size | (dsimp only; omega)))) (by go_size))).mono ?_; rintro e w1 ⟨rfl, hb1⟩; have hx1 := bsize hb1; (try simp at hx1); obtain ⟨hc1, hf1, hz1⟩ := bcell hb1 (b := w.heap.size) (by go_size); obtain ⟨hd1, hg1, hy1⟩ := bcell hb1 (b := w.heap.size + 1) (by go_size))
    refine bodyPost_ret (by simp [results, Try.results36, go_sem, *]; try rfl) rfl ?_
    refine ⟨none, 0, 0, by rw [E1.out], by rw [E2.out]; exact OwnC.nil_, ?_⟩
    (repeat' (first | (with_reducible exact Below.refl _ _) | (with_reducible refine Below.setCell ?_ ?_ _) | (with_reducible refine Below.alloc ?_ ?_ _) | (with_reducible refine Below.drew ?_) | (with_reducible refine Below.drewN ?_ _) | (with_reducible refine Below.trans ?_ (Below.mono (by with_reducible assumption) ?_)) | go_size | (dsimp only; omega)))
  | true =>
    have E1 := Lib.hid (show mirrorZ z xs = z by rw [mirrorZ, if_pos hbk])
    have E2 := Lib.hid (show mirrorL z xs = rowsL (mirrorF z xs) z.toNat z.toNat by rw [mirrorL, if_pos hbk])
    obtain ⟨hz1', hz2', _, _⟩ := bOk_size hbk
    obtain ⟨z, rfl⟩ := Int.eq_ofNat_of_zero_le (show 0 ≤ z by omega)
    have hmf : ∀ (fn : Fn) (first cap : Array Value) (w : World), (Instr.makeFunc fn first cap).run Try.prog w = .ok (.func fn first cap) w := fun _ _ _ _ => rfl
    go_enter Try.func36, Try.ntmps36
    go_wp2_with (first
      | (go_at_call 72; refine (impl_BlockOk _ _ _ _ _ _ (H.out.below' (by (repeat' (first | (with_reducible exact Below.refl _ _) | (with_reducible refine Below.setCell ?_ ?_ _) | (with_reducible refine Below.alloc ?_ ?_ _) | (with_reducible refine Below.drew ?_) | (with_reducible refine Below.drewN ?_ _) | (with_reducible refine Below.trans ?_ (Below.mono (by with_reducible assumption) ?_)) | go_size | (dsimp only; omega)))) (by go_size))).mono ?_; rintro e w1 ⟨rfl, hb1⟩; have hx1 := bsize hb1; (try simp at hx1); obtain ⟨hc1, hf1, hz1⟩ := bcell hb1 (b := w.heap.size) (by go_size); obtain ⟨hd1, hg1, hy1⟩ := bcell hb1 (b := w.heap.size + 1) (by go_size); have HW := Lib.hid (show Below w.heap.size w w1 by (repeat' (first | (with_reducible exact Below.refl _ _) | (with_reducible refine Below.setCell ?_ ?_ _) | (with_reducible refine Below.alloc ?_ ?_ _) | (with_reducible refine Below.drew ?_) | (with_reducible refine Below.drewN ?_ _) | (with_reducible refine Below.trans ?_ (Below.mono (by with_reducible assumption) ?_)) | go_size | (dsimp only; omega)))))
      | (go_at_call 81; refine (impl_made 82 (.pointer (some ⟨w.heap.size, 0, none⟩)) (mirrorF z xs) z _ enters_MirrorBlock_1 (by omega) (by omega) (fun x y w' hx hy hb => impl_MirrorBlock_1 z A n c xs x y _ w' hz1' hz2' (by omega) (by omega) (H.out.below' (HW.out.trans (hb.mono (by omega))) (Nat.le_trans (show w.heap.size ≤ w1.heap.size by omega) hb.size)) (Nat.lt_of_lt_of_le (show w.heap.size < w1.heap.size by omega) hb.size) ((hb.cell (p := ⟨w.heap.size, 0, none⟩) (show w.heap.size < w1.heap.size by omega)).trans ((hc1 0).trans (by rw [World.cell?_alloc_lt _ _ _ (by go_size), World.cell?_alloc_new]; rfl))) ((hb.cell (p := ⟨w.heap.size, 1, none⟩) (show w.heap.size < w1.heap.size by omega)).trans ((hc1 1).trans (by rw [World.cell?_alloc_lt _ _ _ (by go_size), World.cell?_alloc_new]; rfl))))).mono ?_; rintro e w2 ⟨A2, n2, c2, rfl, ho2, hb2⟩; have HO := Lib.hid ho2; have hx2 := bsize hb2; (try simp at hx2); obtain ⟨hc2, hf2, hz2⟩ := bcell hb2 (b := w.heap.size + 1) (by go_size); clear ho2))
    refine bodyPost_ret (by simp [results, Try.results36, go_sem, *]; try rfl) rfl ?_
    have hW := HW.out
    refine ⟨_, _, _, by rw [E1.out], ?_, ?_⟩
    · rw [E2.out]
      refine OwnC.base (B := w1.heap.size) ?_ (by omega)
      repeat' (first | exact HO.out | (with_reducible refine OwnC.set_ ?_ ?_ _) | go_size | (dsimp only; omega))
    · (repeat' (first | (with_reducible exact Below.refl _ _) | (with_reducible refine Below.setCell ?_ ?_ _) | (with_reducible refine Below.alloc ?_ ?_ _) | (with_reducible refine Below.drew ?_) | (with_reducible refine Below.drewN ?_ _) | (with_reducible refine Below.trans ?_ (Below.mono (by with_reducible assumption) ?_)) | go_size | (dsimp only; omega)))

def turnF (z : Int) (xs : List C) (x y : Int) : C := (fun q : C => turnC q.s q.a q.b) (cellAtB z xs y (z - 1 - x))
def turnZ (z : Int) (xs : List C) : Int := if bOk z xs = true then z else 0
def turnL (z : Int) (xs : List C) : List C := if bOk z xs = true then rowsL (turnF z xs) z.toNat z.toNat else []
set_option maxRecDepth 100000 in
set_option maxHeartbeats 1000000 in
theorem impl_TurnBlock_1 (z : Int) (A : Option Addr) (n c : Nat) (xs : List C) (x y : Nat) (b : Nat) (w : World) (hz1 : 1 ≤ z) (hz2 : z ≤ 4) (hx : x < z) (hy : y < z) (h : RdC w w.heap.size A n xs) (hb : b < w.heap.size) (hc0 : w.cell? ⟨b, 0, none⟩ = some (.int .i64 z)) (hc1 : w.cell? ⟨b, 1, none⟩ = some (.slice A n c)) :
    Calls Try.prog 89 #[.int .i64 x, .int .i64 y, .pointer (some ⟨b, 0, none⟩)] w fun e w' => e = .returned (.agg #[.int .i64 (turnF z xs x y).s, .int .i64 (turnF z xs x y).a, .int .i64 (turnF z xs x y).b]) ∧ Below w.heap.size w w' := by
  have hs := lt2
  have hi := i64_small (z := z) (by omega) hz2
  have H := Lib.hid h
  clear h
  go_enter Try.func89, Try.ntmps89
  go_wp2_with fail
  refine (impl_CellAt _ _ _ _ _ _ _ _ (H.out.below' (by (repeat' (first | (with_reducible exact Below.refl _ _) | (with_reducible refine Below.setCell ?_ ?_ _) | (with_reducible refine Below.alloc ?_ ?_ _) | (with_reducible refine Below.drew ?_) | (with_reducible refine Below.drewN ?_ _) | (with_reducible refine Below.trans ?_ (Below.mono (by with_reducible assumption) ?_)) | go_size | (dsimp only; omega)))) (by go_size)) hi).mono ?_
  rintro e w1 ⟨rfl, hb1⟩
  have hx1 := bsize hb1
  (try simp at hx1)
  obtain ⟨hc1, hf1, hz1'⟩ := bcell hb1 (b := w.heap.size) (by go_size)
  go_wp2_with fail
  refine (impl_TurnCell _ _ _ _).mono ?_
  rintro e w2 ⟨rfl, hb2⟩
  have hx2 := bsize hb2
  (try simp at hx2)
  obtain ⟨hc2, hf2, hz2'⟩ := bcell hb2 (b := w.heap.size) (by go_size)
  go_wp2
  refine bodyPost_ret (by simp [results, Try.results89, go_sem, *]; try rfl) rfl ?_
  refine ⟨rfl, ?_⟩
  (repeat' (first | (with_reducible exact Below.refl _ _) | (with_reducible refine Below.setCell ?_ ?_ _) | (with_reducible refine Below.alloc ?_ ?_ _) | (with_reducible refine Below.drew ?_) | (with_reducible refine Below.drewN ?_ _) | (with_reducible refine Below.trans ?_ (Below.mono (by with_reducible assumption) ?_)) | go_size | (dsimp only; omega)))
theorem enters_TurnBlock_1 : ∀ (args : Array Value) (w : World), (callFunc 89 args).run Try.prog w = .ok (.enter 89 args) w := Go.Proofs.enters_of Try.func89 (by kernel_rfl) rfl
set_option maxRecDepth 100000 in
set_option maxHeartbeats 1000000 in
theorem impl_TurnBlock (z : Int) (A : Option Addr) (n c : Nat) (xs : List C) (w : World) (h : RdC w w.heap.size A n xs) :
    Calls Try.prog 41 #[.agg #[.int .i64 z, .slice A n c]] w fun e w' => ∃ A n c, e = .returned (.agg #[.int .i64 (turnZ z xs), .slice A n c]) ∧ OwnC w' w.heap.size A n c (turnL z xs) ∧ Below w.heap.size w w' := by
  have hs := lt2
  have H := Lib.hid h
  clear h
  cases hbk : bOk z xs with
  | false =>
    have E1 := Lib.hid (show turnZ z xs = 0 by rw [turnZ, hbk]; rfl)
    have E2 := Lib.hid (show turnL z xs = [] by rw [turnL, hbk]; rfl)
    go_enter Try.func41, Try.ntmps41
    go_wp2_with (go_at_call 72; refine (impl_BlockOk _ _ _ _ _ _ (H.out.below' (by (repeat' (first | (with_reducible exact Below.refl _ _) | (with_reducible refine Below.setCell ?_ ?_ _) | (with_reducible refine Below.alloc ?_ ?_ _) | (with_reducible refine Below.drew ?_) | (with_reducible refine Below.drewN ?_ _) | (with_reducible refine Below.trans ?_ (Below.mono (by with_reducible assumption) ?_)) | go_size | (dsimp only; omega)))) (by go_size))).mono ?_; rintro e w1 ⟨rfl, hb1⟩; have hx1 := bsize hb1; (try simp at hx1); obtain ⟨hc1, hf1, hz1⟩ := bcell hb1 (b := w.heap.size) (by go_size); obtain ⟨hd1, hg1, hy1⟩ := bcell hb1 (b := w.heap.size + 1) (by go_size))
    refine bodyPost_ret (by simp [results, Try.results41, go_sem, *]; try rfl) rfl ?_
    refine ⟨none, 0, 0, by rw [E1.out], by rw [E2.out]; exact OwnC.nil_, ?_⟩
    (repeat' (first | (with_reducible exact Below.refl _ _) | (with_reducible refine Below.setCell ?_ ?_ _) | (with_reducible refine Below.alloc ?_ ?_ _) | (with_reducible refine Below.drew ?_) | (with_reducible refine Below.drewN ?_ _) | (with_reducible refine Below.trans ?_ (Below.mono (by with_reducible assumption) ?_)) | go_size | (dsimp only; omega)))
  | true =>
    have E1 := Lib.hid (show turnZ z xs = z by rw [turnZ, if_pos hbk])
    have E2 := Lib.hid (show turnL z xs = rowsL (turnF z xs) z.toNat z.toNat by rw [turnL, if_pos hbk])
    obtain ⟨hz1', hz2', _, _⟩ := bOk_size hbk
    obtain ⟨z, rfl⟩ := Int.eq_ofNat_of_zero_le (show 0 ≤ z by omega)
    have hmf : ∀ (fn : Fn) (first cap : Array Value) (w : World), (Instr.makeFunc fn first cap).run Try.prog w = .ok (.func fn first cap) w := fun _ _ _ _ => rfl
    go_enter Try.func41, Try.ntmps41
    go_wp2_with (first
      | (go_at_call 72; refine (impl_BlockOk _ _ _ _ _ _ (H.out.below' (by (repeat' (first | (with_reducible exact Below.refl _ _) | (with_reducible refine Below.setCell ?_ ?_ _) | (with_reducible refine Below.alloc ?_ ?_ _) | (with_reducible refine Below.drew ?_) | (with_reducible refine Below.drewN ?_ _) | (with_reducible refine Below.trans ?_ (Below.mono (by with_reducible assumption) ?_)) | go_size | (dsimp only; omega)))) (by go_size))).mono ?_; rintro e w1 ⟨rfl, hb1⟩; have hx1 := bsize hb1; (try simp at hx1); obtain ⟨hc1, hf1, hz1⟩ := bcell hb1 (b := w.heap.size) (by go_size); obtain ⟨hd1, hg1, hy1⟩ := bcell hb1 (b := w.heap.size + 1) (by go_size); have HW := Lib.hid (show Below w.heap.size w w1 by (repeat' (first | (with_reducible exact Below.refl _ _) | (with_reducible refine Below.setCell ?_ ?_ _) | (with_reducible refine Below.alloc ?_ ?_ _) | (with_reducible refine Below.drew ?_) | (with_reducible refine Below.drewN ?_ _) | (with_reducible refine Below.trans ?_ (Below.mono (by with_reducible assumption) ?_)) | go_size | (dsimp only; omega)))))
      | (go_at_call 81; refine (impl_made 89 (.pointer (some ⟨w.heap.size, 0, none⟩)) (turnF z xs) z _ enters_TurnBlock_1 (by omega) (by omega) (fun x y w' hx hy hb => impl_TurnBlock_1 z A n c xs x y _ w' hz1' hz2' (by omega) (by omega) (H.out.below' (HW.out.trans (hb.mono (by omega))) (Nat.le_trans (show w.heap.size ≤ w1.heap.size by omega) hb.size)) (Nat.lt_of_lt_of_le (show w.heap.size < w1.heap.size by omega) hb.size) ((hb.cell (p := ⟨w.heap.size, 0, none⟩) (show w.heap.size < w1.heap.size by omega)).trans ((hc1 0).trans (by rw [World.cell?_alloc_lt _ _ _ (by go_size), World.cell?_alloc_new]; rfl))) ((hb.cell (p := ⟨w.heap.size, 1, none⟩) (show w.heap.size < w1.heap.size by omega)).trans ((hc1 1).trans (by rw [World.cell?_alloc_lt _ _ _ (by go_size), World.cell?_alloc_new]; rfl))))).mono ?_; rintro e w2 ⟨A2, n2, c2, rfl, ho2, hb2⟩; have HO := Lib.hid ho2; have hx2 := bsize hb2; (try simp at hx2); obtain ⟨hc2, hf2, hz2⟩ := bcell hb2 (b := w.heap.size + 1) (by go_size); clear ho2))
    refine bodyPost_ret (by simp [results, Try.results41, go_sem, *]; try rfl) rfl ?_
    have hW := HW.out
    refine ⟨_, _, _, by rw [E1.out], ?_, ?_⟩
    · rw [E2.out]
      refine OwnC.base (B := w1.heap.size) ?_ (by omega)
      repeat' (first | exact HO.out | (with_reducible refine OwnC.set_ ?_ ?_ _) | go_size | (dsimp only; omega))
    · (repeat' (first | (with_reducible exact Below.refl _ _) | (with_reducible refine Below.setCell ?_ ?_ _) | (with_reducible refine Below.alloc ?_ ?_ _) | (with_reducible refine Below.drew ?_) | (with_reducible refine Below.drewN ?_ _) | (with_reducible refine Below.trans ?_ (Below.mono (by with_reducible assumption) ?_)) | go_size | (dsimp only; omega)))

end Go.Proofs.Ytlcllpgbpjdofaa
