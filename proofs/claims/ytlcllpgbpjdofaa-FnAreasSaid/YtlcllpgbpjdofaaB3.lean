/- Walks of CellAt, both sides. -/
import Derived.Test.YtlcllpgbpjdofaaB2
set_option linter.unusedSimpArgs false
set_option linter.unusedVariables false
set_option maxRecDepth 100000
namespace Go.Proofs.Ytlcllpgbpjdofaa
open Go.RowKit

theorem RdC.cells {w : World} {B g off n : Nat} {xs : List C} (h : RdC w B (some ⟨g, off, none⟩) n xs) {k : Nat} (hk : k < n) : w.cell? ⟨g, off + k * 3, none⟩ = some (.int .i64 (cith xs k).s) ∧ w.cell? ⟨g, off + k * 3 + 1, none⟩ = some (.int .i64 (cith xs k).a) ∧ w.cell? ⟨g, off + k * 3 + 2, none⟩ = some (.int .i64 (cith xs k).b) := by
  obtain ⟨g', off', e, hc⟩ := h.at_ hk
  simp only [Option.some.injEq, Addr.mk.injEq, and_true] at e
  obtain ⟨rfl, rfl⟩ := e
  exact hc

set_option maxHeartbeats 1000000 in
theorem impl_CellAt_yes (z : Int) (A : Option Addr) (n c : Nat) (xs : List C) (x y : Int) (w : World) (h : RdC w w.heap.size A n xs) (hz : I64 z) (hp : isPl z xs x y = true) :
    Calls Try.prog 84 #[.agg #[.int .i64 z, .slice A n c], .int .i64 x, .int .i64 y] w fun e w' => e = .returned (.agg #[.int .i64 (cellAtB z xs x y).s, .int .i64 (cellAtB z xs x y).a, .int .i64 (cellAtB z xs x y).b]) ∧ Below w.heap.size w w' := by
  have hs := lt2
  have H := Lib.hid h
  clear h
  obtain ⟨hb, hx0, hx1, hy0, hy1⟩ := isPl_t hp
  obtain ⟨hz1', hz2', _, _⟩ := bOk_size hb
  obtain ⟨hi0, hi1, hi2, hi3⟩ := isPl_idx hp H.out.1
  have hin1 : inB x 0 (z - 1) = true := inB_t hx0 hx1
  have hin2 : inB y 0 (z - 1) = true := inB_t hy0 hy1
  obtain ⟨q, hq⟩ := Int.eq_ofNat_of_zero_le hi0
  have hqn : q < n := by omega
  obtain ⟨g, off, rfl, _⟩ := H.out.at_ hqn
  have HC := Lib.hid (show cellAtB z xs x y = cith xs q by rw [cellAtB, if_pos hp, hq]; rfl)
  have hqt : (y * z + x).toNat = q := by rw [hq]; rfl
  have hwm : IntKind.i64.wrap (y * z) = y * z := IntWalk.i64_in _ (by omega)
  have HQ := Lib.hid hq
  clear hq
  go_enter Try.func84, Try.ntmps84
  go_wp2_with (first
      | (go_at_call 113; refine (impl_isPlace _ _ _ _ _ _ _ _ (H.out.below' (by go_grown) (by go_size)) hz).mono ?_; rintro e w1 ⟨rfl, hb1⟩; obtain ⟨hc1, hf1, hz1⟩ := bcell hb1 (b := w.heap.size) (by go_size); obtain ⟨hc1', hf1', hz1'⟩ := bcell hb1 (b := w.heap.size + 1) (by go_size); obtain ⟨d0, d1, d2⟩ := RdC.cells (H.out.below (w' := w1) (by (repeat' (first | (with_reducible exact Below.refl _ _) | (with_reducible refine Below.setCell ?_ ?_ _) | (with_reducible refine Below.alloc ?_ ?_ _) | (with_reducible refine Below.drew ?_) | (with_reducible refine Below.drewN ?_ _) | (with_reducible refine Below.trans ?_ (Below.mono (by with_reducible assumption) ?_)) | go_size | (dsimp only; omega))))) hqn; have HB1 := Lib.hid hb1; clear hb1))
  refine bodyPost_ret (by simp [results, Try.results84, go_sem, *]; try rfl) rfl ?_
  have hb1 := HB1.out
  refine ⟨by rw [HC.out], ?_⟩
  (repeat' (first | (with_reducible exact Below.refl _ _) | (with_reducible refine Below.setCell ?_ ?_ _) | (with_reducible refine Below.alloc ?_ ?_ _) | (with_reducible refine Below.drew ?_) | (with_reducible refine Below.drewN ?_ _) | (with_reducible refine Below.trans ?_ (Below.mono (by with_reducible assumption) ?_)) | go_size | (dsimp only; omega)))

set_option maxHeartbeats 1000000 in
theorem impl_CellAt_no (z : Int) (A : Option Addr) (n c : Nat) (xs : List C) (x y : Int) (w : World) (h : RdC w w.heap.size A n xs) (hz : I64 z) (hp : isPl z xs x y = false) :
    Calls Try.prog 84 #[.agg #[.int .i64 z, .slice A n c], .int .i64 x, .int .i64 y] w fun e w' => e = .returned (.agg #[.int .i64 (cellAtB z xs x y).s, .int .i64 (cellAtB z xs x y).a, .int .i64 (cellAtB z xs x y).b]) ∧ Below w.heap.size w w' := by
  have hs := lt2
  have H := Lib.hid h
  clear h
  have HC := Lib.hid (show cellAtB z xs x y = ⟨0, 0, 0⟩ by rw [cellAtB, hp]; rfl)
  go_enter Try.func84, Try.ntmps84
  go_wp2_with (first
      | (go_at_call 113; refine (impl_isPlace _ _ _ _ _ _ _ _ (H.out.below' (by go_grown) (by go_size)) hz).mono ?_; rintro e w1 ⟨rfl, hb1⟩; obtain ⟨hc1, hf1, hz1⟩ := bcell hb1 (b := w.heap.size) (by go_size); obtain ⟨hc1', hf1', hz1'⟩ := bcell hb1 (b := w.heap.size + 1) (by go_size); have HB1 := Lib.hid hb1; clear hb1))
  all_goals (refine bodyPost_ret (by simp [results, Try.results84, go_sem, *]; try rfl) rfl ?_)
  all_goals (have hb1 := HB1.out; refine ⟨by rw [HC.out], ?_⟩; (repeat' (first | (with_reducible exact Below.refl _ _) | (with_reducible refine Below.setCell ?_ ?_ _) | (with_reducible refine Below.alloc ?_ ?_ _) | (with_reducible refine Below.drew ?_) | (with_reducible refine Below.drewN ?_ _) | (with_reducible refine Below.trans ?_ (Below.mono (by with_reducible assumption) ?_)) | go_size | (dsimp only; omega))))

theorem impl_CellAt (z : Int) (A : Option Addr) (n c : Nat) (xs : List C) (x y : Int) (w : World) (h : RdC w w.heap.size A n xs) (hz : I64 z) :
    Calls Try.prog 84 #[.agg #[.int .i64 z, .slice A n c], .int .i64 x, .int .i64 y] w fun e w' => e = .returned (.agg #[.int .i64 (cellAtB z xs x y).s, .int .i64 (cellAtB z xs x y).a, .int .i64 (cellAtB z xs x y).b]) ∧ Below w.heap.size w w' := by
  cases hp : isPl z xs x y with
  | true => exact impl_CellAt_yes z A n c xs x y w h hz hp
  | false => exact impl_CellAt_no z A n c xs x y w h hz hp


end Go.Proofs.Ytlcllpgbpjdofaa
