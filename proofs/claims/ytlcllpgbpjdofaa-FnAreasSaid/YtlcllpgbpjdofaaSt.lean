/- Walks of StarBlock, both sides. No condition. -/
import Derived.Test.YtlcllpgbpjdofaaC
import Derived.Deep.RegionHeld3
set_option linter.unusedSimpArgs false
set_option linter.unusedVariables false
set_option maxRecDepth 100000
namespace Go.Proofs.Ytlcllpgbpjdofaa
open Go.RowKit

def starL : List C := [⟨1, 0, 1⟩, ⟨0, 1, 1⟩, ⟨2, 1, 0⟩, ⟨0, 1, 1⟩, ⟨0, 1, 1⟩, ⟨0, 1, 1⟩, ⟨2, 0, 1⟩, ⟨0, 1, 1⟩, ⟨1, 1, 0⟩]
theorem OwnC.lit {w : World} {B n : Nat} {cs : Array Value} {xs : List C} (hB : B ≤ w.heap.size) (hcs : cs.toList = xs.flatMap C.vals) (hn : xs.length = n) (hle : n ≤ 2097152) : OwnC (w.alloc (.cells cs 49)) B (some ⟨w.heap.size, 0, none⟩) n n xs := by
  refine ⟨hle, hn, ?_⟩
  rw [← hcs]
  exact World.ownsRow_lit w cs n hB (by unfold maxLen; omega) (by rw [← Array.length_toList, hcs, flat_len, hn])
theorem OwnC.litAt {w : World} {B n g : Nat} {cs : Array Value} {xs : List C} (hg : g = w.heap.size) (hB : B ≤ g) (hcs : cs.toList = xs.flatMap C.vals) (hn : xs.length = n) (hle : n ≤ 2097152) : OwnC (w.alloc (.cells cs 49)) B (some ⟨g, 0, none⟩) n n xs := by
  subst hg
  exact OwnC.lit hB hcs hn hle
theorem whole1 : wholeC 1 = ⟨0, 1, 1⟩ := rfl
theorem split101 : splitC 1 0 1 = ⟨1, 0, 1⟩ := rfl
theorem split210 : splitC 2 1 0 = ⟨2, 1, 0⟩ := rfl
theorem split201 : splitC 2 0 1 = ⟨2, 0, 1⟩ := rfl
theorem split110 : splitC 1 1 0 = ⟨1, 1, 0⟩ := rfl

set_option maxRecDepth 100000 in
set_option maxHeartbeats 1000000 in
theorem spec_StarBlock (w : World) :
    Calls Try.prog 107 #[] w fun e w' => ∃ g, e = .returned (.agg #[.int .i64 3, .slice (some ⟨g, 0, none⟩) 9 9]) ∧ OwnC w' w.heap.size (some ⟨g, 0, none⟩) 9 9 starL ∧ Below w.heap.size w w' := by
  have hs := lt2
  go_enter Try.func107, Try.ntmps107
  go_wp2_with fail
  refine (spec_WholeCell _ _).mono ?_
  rw [whole1]
  rintro e w1 ⟨rfl, hb1⟩
  have hx1 := bsize hb1
  (try simp at hx1)
  obtain ⟨hc1, hf1, hz1⟩ := bcell hb1 (b := w.heap.size) (by go_size)
  have HB := Lib.hid (show Below w.heap.size w w1 by (repeat' (first | (with_reducible exact Below.refl _ _) | (with_reducible refine Below.setCell ?_ ?_ _) | (with_reducible refine Below.alloc ?_ ?_ _) | (with_reducible refine Below.drew ?_) | (with_reducible refine Below.drewN ?_ _) | (with_reducible refine Below.trans ?_ (Below.mono (by with_reducible assumption) ?_)) | go_size | (dsimp only; omega))))
  clear hb1
  go_wp2
  refine bodyPost_ret (by simp [results, Try.results107, go_sem, *]; try rfl) rfl ?_
  have hb := HB.out
  refine ⟨_, rfl, OwnC.litAt (by simp) (by omega) rfl rfl (by omega), ?_⟩
  (repeat' (first | (with_reducible exact Below.refl _ _) | (with_reducible refine Below.setCell ?_ ?_ _) | (with_reducible refine Below.alloc ?_ ?_ _) | (with_reducible refine Below.drew ?_) | (with_reducible refine Below.drewN ?_ _) | (with_reducible refine Below.trans ?_ (Below.mono (by with_reducible assumption) ?_)) | go_size | (dsimp only; omega)))

set_option maxRecDepth 100000 in
set_option maxHeartbeats 1000000 in
theorem impl_StarBlock (w : World) :
    Calls Try.prog 32 #[] w fun e w' => ∃ g, e = .returned (.agg #[.int .i64 3, .slice (some ⟨g, 0, none⟩) 9 9]) ∧ OwnC w' w.heap.size (some ⟨g, 0, none⟩) 9 9 starL ∧ Below w.heap.size w w' := by
  have hs := lt2
  go_enter Try.func32, Try.ntmps32
  go_wp2_with fail
  refine (impl_WholeCell _ _).mono ?_
  rw [whole1]
  rintro e w1 ⟨rfl, hb1⟩
  have hx1 := bsize hb1
  (try simp at hx1)
  obtain ⟨hc1, hf1, hz1⟩ := bcell hb1 (b := w.heap.size) (by go_size)
  have HB := Lib.hid (show Below w.heap.size w w1 by (repeat' (first | (with_reducible exact Below.refl _ _) | (with_reducible refine Below.setCell ?_ ?_ _) | (with_reducible refine Below.alloc ?_ ?_ _) | (with_reducible refine Below.drew ?_) | (with_reducible refine Below.drewN ?_ _) | (with_reducible refine Below.trans ?_ (Below.mono (by with_reducible assumption) ?_)) | go_size | (dsimp only; omega))))
  clear hb1
  have hn1 : ¬ w1.heap.size = w.heap.size := by omega
  have hn2 : ¬ w.heap.size = w1.heap.size := by omega
  go_wp2_with fail
  go_region_held3 (fun w' => w'.cell? ⟨w1.heap.size, 0, none⟩ = some (.int .i64 0) ∧ w'.cell? ⟨w1.heap.size, 1, none⟩ = some (.int .i64 1) ∧ w'.cell? ⟨w1.heap.size, 2, none⟩ = some (.int .i64 1)) (go_keep) (first
    | (go_at_call 77; (with_reducible refine (impl_SplitCell 1 0 1 _).mono ?_); rw [split101]; rintro e w2 ⟨rfl, hb2⟩; have hx2 := bsize hb2; (try simp at hx2); obtain ⟨hc2, hf2, hz2⟩ := bcell hb2 (b := w.heap.size) (by go_size); obtain ⟨hd2, hg2, hy2⟩ := bcell hb2 (b := w1.heap.size) (by go_size))
    | (go_at_call 77; (with_reducible refine (impl_SplitCell 2 1 0 _).mono ?_); rw [split210]; rintro e w3 ⟨rfl, hb3⟩; have hx3 := bsize hb3; (try simp at hx3); obtain ⟨hc3, hf3, hz3⟩ := bcell hb3 (b := w.heap.size) (by go_size); obtain ⟨hd3, hg3, hy3⟩ := bcell hb3 (b := w1.heap.size) (by go_size))
    | (go_at_call 77; (with_reducible refine (impl_SplitCell 2 0 1 _).mono ?_); rw [split201]; rintro e w4 ⟨rfl, hb4⟩; have hx4 := bsize hb4; (try simp at hx4); obtain ⟨hc4, hf4, hz4⟩ := bcell hb4 (b := w.heap.size) (by go_size); obtain ⟨hd4, hg4, hy4⟩ := bcell hb4 (b := w1.heap.size) (by go_size))
    | (go_at_call 77; (with_reducible refine (impl_SplitCell 1 1 0 _).mono ?_); rw [split110]; rintro e w5 ⟨rfl, hb5⟩; have hx5 := bsize hb5; (try simp at hx5); obtain ⟨hc5, hf5, hz5⟩ := bcell hb5 (b := w.heap.size) (by go_size); obtain ⟨hd5, hg5, hy5⟩ := bcell hb5 (b := w1.heap.size) (by go_size)))
  go_wp2
  refine bodyPost_ret (by simp [results, Try.results32, go_sem, *]; try rfl) rfl ?_
  have hb := HB.out
  refine ⟨_, rfl, OwnC.litAt (by simp) (by omega) rfl rfl (by omega), ?_⟩
  (repeat' (first | (with_reducible exact Below.refl _ _) | (with_reducible refine Below.setCell ?_ ?_ _) | (with_reducible refine Below.alloc ?_ ?_ _) | (with_reducible refine Below.drew ?_) | (with_reducible refine Below.drewN ?_ _) | (with_reducible refine Below.trans ?_ (Below.mono (by with_reducible assumption) ?_)) | go_size | (dsimp only; omega)))

end Go.Proofs.Ytlcllpgbpjdofaa
