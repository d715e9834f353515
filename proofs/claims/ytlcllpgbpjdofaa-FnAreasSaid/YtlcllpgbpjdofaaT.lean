/- Walks of AreaTable, both sides. -/
import Derived.Test.YtlcllpgbpjdofaaB2
set_option linter.unusedSimpArgs false
set_option linter.unusedVariables false
set_option maxRecDepth 100000
namespace Go.Proofs.Ytlcllpgbpjdofaa
open Go.RowKit

/-- the areas of the colors 0 .. k - 1 -/
def tabTo (z : Int) (xs : List C) (k : Nat) : List Int := (List.range k).map (fun (a : Nat) => areaB z xs (a : Int))
def tabB (z : Int) (xs : List C) : List Int := if bOk z xs then tabTo z xs 6 else []
theorem tabTo_succ (z : Int) (xs : List C) (k : Nat) : tabTo z xs (k + 1) = tabTo z xs k ++ [areaB z xs k] := by simp [tabTo, List.range_succ]
theorem tabTo_zero (z : Int) (xs : List C) : tabTo z xs 0 = [] := rfl



set_option maxHeartbeats 1000000 in
theorem impl_AreaTable_yes (z : Int) (A : Option Addr) (n c : Nat) (xs : List C) (w : World) (h : RdC w w.heap.size A n xs) (hbk : bOk z xs = true) :
    Calls Try.prog 23 #[.agg #[.int .i64 z, .slice A n c]] w fun e w' => ∃ A n c, e = .returned (.slice A n c) ∧ OwnI w' w.heap.size A n c (tabB z xs) ∧ Below w.heap.size w w' := by
  have hs := lt2
  have H := Lib.hid h
  clear h
  go_enter Try.func23, Try.ntmps23
  go_wp2_with (go_at_call 72; refine (impl_BlockOk _ _ _ _ _ _ (H.out.below' (by (repeat' (first | (with_reducible exact Below.refl _ _) | (with_reducible refine Below.setCell ?_ ?_ _) | (with_reducible refine Below.alloc ?_ ?_ _) | (with_reducible refine Below.drew ?_) | (with_reducible refine Below.drewN ?_ _) | (with_reducible refine Below.trans ?_ (Below.mono (by with_reducible assumption) ?_)) | go_size | (dsimp only; omega)))) (by go_size))).mono ?_; rintro e w1 ⟨rfl, hb1⟩; obtain ⟨hc1, hf1, hz1⟩ := bcell hb1 (b := w.heap.size) (by go_size))
  have HW := Lib.hid (show Below w.heap.size w w1 by (repeat' (first | (with_reducible exact Below.refl _ _) | (with_reducible refine Below.setCell ?_ ?_ _) | (with_reducible refine Below.alloc ?_ ?_ _) | (with_reducible refine Below.drew ?_) | (with_reducible refine Below.drewN ?_ _) | (with_reducible refine Below.trans ?_ (Below.mono (by with_reducible assumption) ?_)) | go_size | (dsimp only; omega))))
  have H1 := Lib.hid (H.out.next HW.out)
  clear hb1
  go_loopw [3, 9] (fun v i wr => ∃ (k g c' : Nat), k ≤ 6 ∧ i = .int .i64 k ∧ v = .slice (some ⟨g, 0, none⟩) k c' ∧ Hid (OwnI wr w1.heap.size (some ⟨g, 0, none⟩) k c' (tabTo z xs k)) ∧ Hid (Below w1.heap.size w1 wr)) (fun _ i _ => 6 - (intOf i).toNat)
  case atStart => exact ⟨0, _, _, by omega, rfl, rfl, OwnI.empty (Nat.le_refl _), (Below.refl _ _).alloc (Nat.le_refl _) _⟩
  case round =>
    obtain ⟨k, g, c', hk, rfl, rfl, ho, hb⟩ := hrel
    obtain ⟨bc, bf, bz⟩ := bcell hb.out (b := w.heap.size) hz1
    have hcz : ∀ o, wr.cell? ⟨w.heap.size, o, none⟩ = (w.alloc (.cells #[.int .i64 z, .slice A n c] 42)).cell? ⟨w.heap.size, o, none⟩ := fun o => (bc o).trans (hc1 o)
    have p0 : wr.cell? ⟨w.heap.size, 0, none⟩ = some (.int .i64 z) := (hcz 0).trans (by rw [World.cell?_alloc_new]; rfl)
    have p1 : wr.cell? ⟨w.heap.size, 1, none⟩ = some (.slice A n c) := (hcz 1).trans (by rw [World.cell?_alloc_new]; rfl)
    clear bc bf hcz
    have hy := hb.out.size
    have hbo : Below w1.heap.size w1 wr := hb.out
    by_cases hlt : k < 6
    · go_wp2_with (first
          | (go_at_call 25; refine (impl_AreaOf _ _ _ _ _ _ _ (H1.out.below' (by (repeat' (first | (with_reducible exact Below.refl _ _) | (with_reducible refine Below.setCell ?_ ?_ _) | (with_reducible refine Below.alloc ?_ ?_ _) | (with_reducible refine Below.drew ?_) | (with_reducible refine Below.drewN ?_ _) | (with_reducible refine Below.trans ?_ (Below.mono (by with_reducible assumption) ?_)) | go_size | (dsimp only; omega)))) (by go_size))).mono ?_; rintro e w3 ⟨rfl, hb3⟩; have hx3 := bsize hb3; (try simp at hx3))
          | (at_builtin; refine wpList_pushI _ _ rfl _ _ rfl w1.heap.size _ _ _ _ rfl (ho.out.next (show Below wr.heap.size wr w3 by (repeat' (first | (with_reducible exact Below.refl _ _) | (with_reducible refine Below.setCell ?_ ?_ _) | (with_reducible refine Below.alloc ?_ ?_ _) | (with_reducible refine Below.drew ?_) | (with_reducible refine Below.drewN ?_ _) | (with_reducible refine Below.trans ?_ (Below.mono (by with_reducible assumption) ?_)) | go_size | (dsimp only; omega))))) rfl (by omega) (by omega) ?_; intro g4 c4 w4 ho4 hg4 _; have HO4 := Lib.hid ho4; have HB4 := Lib.hid ((show Below w1.heap.size wr w3 by (repeat' (first | (with_reducible exact Below.refl _ _) | (with_reducible refine Below.setCell ?_ ?_ _) | (with_reducible refine Below.alloc ?_ ?_ _) | (with_reducible refine Below.drew ?_) | (with_reducible refine Below.drewN ?_ _) | (with_reducible refine Below.trans ?_ (Below.mono (by with_reducible assumption) ?_)) | go_size | (dsimp only; omega)))).trans ((ho.out.next (show Below wr.heap.size wr w3 by (repeat' (first | (with_reducible exact Below.refl _ _) | (with_reducible refine Below.setCell ?_ ?_ _) | (with_reducible refine Below.alloc ?_ ?_ _) | (with_reducible refine Below.drew ?_) | (with_reducible refine Below.drewN ?_ _) | (with_reducible refine Below.trans ?_ (Below.mono (by with_reducible assumption) ?_)) | go_size | (dsimp only; omega))))).belowOwn hg4 (by omega))); clear ho4 hg4))
      go_roundw
      case rel => exact ⟨k + 1, g4, c4, by omega, by go_num, rfl, by rw [tabTo_succ]; exact HO4.out, hb.out.trans HB4.out⟩
      case measure => simp [intOf]; omega
    · go_wp2
      go_ret
      obtain rfl : k = 6 := by omega
      have e : tabB z xs = tabTo z xs 6 := if_pos hbk
      exact ⟨_, _, _, rfl, e ▸ ho.out.base HW.out.size, HW.out.trans (hb.out.mono HW.out.size)⟩

set_option maxHeartbeats 1000000 in
theorem impl_AreaTable_no (z : Int) (A : Option Addr) (n c : Nat) (xs : List C) (w : World) (h : RdC w w.heap.size A n xs) (hbk : bOk z xs = false) :
    Calls Try.prog 23 #[.agg #[.int .i64 z, .slice A n c]] w fun e w' => ∃ A n c, e = .returned (.slice A n c) ∧ OwnI w' w.heap.size A n c (tabB z xs) ∧ Below w.heap.size w w' := by
  have hs := lt2
  have H := Lib.hid h
  clear h
  have HE := Lib.hid (show tabB z xs = [] by rw [tabB, hbk]; rfl)
  go_enter Try.func23, Try.ntmps23
  go_wp2_with (go_at_call 72; refine (impl_BlockOk _ _ _ _ _ _ (H.out.below' (by (repeat' (first | (with_reducible exact Below.refl _ _) | (with_reducible refine Below.setCell ?_ ?_ _) | (with_reducible refine Below.alloc ?_ ?_ _) | (with_reducible refine Below.drew ?_) | (with_reducible refine Below.drewN ?_ _) | (with_reducible refine Below.trans ?_ (Below.mono (by with_reducible assumption) ?_)) | go_size | (dsimp only; omega)))) (by go_size))).mono ?_; rintro e w1 ⟨rfl, hb1⟩; obtain ⟨hc1, hf1, hz1⟩ := bcell hb1 (b := w.heap.size) (by go_size))
  go_ret
  exact ⟨_, _, _, rfl, HE.out ▸ OwnI.nil_, by (repeat' (first | (with_reducible exact Below.refl _ _) | (with_reducible refine Below.setCell ?_ ?_ _) | (with_reducible refine Below.alloc ?_ ?_ _) | (with_reducible refine Below.drew ?_) | (with_reducible refine Below.drewN ?_ _) | (with_reducible refine Below.trans ?_ (Below.mono (by with_reducible assumption) ?_)) | go_size | (dsimp only; omega)))⟩


theorem impl_AreaTable (z : Int) (A : Option Addr) (n c : Nat) (xs : List C) (w : World) (h : RdC w w.heap.size A n xs) :
    Calls Try.prog 23 #[.agg #[.int .i64 z, .slice A n c]] w fun e w' => ∃ A n c, e = .returned (.slice A n c) ∧ OwnI w' w.heap.size A n c (tabB z xs) ∧ Below w.heap.size w w' := by
  cases hp : bOk z xs with
  | true => exact impl_AreaTable_yes z A n c xs w h hp
  | false => exact impl_AreaTable_no z A n c xs w h hp

end Go.Proofs.Ytlcllpgbpjdofaa
