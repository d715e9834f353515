/- Walks of SampleLayout, both sides. No condition. -/
import Derived.Test.YtlcllpgbpjdofaaPa
set_option linter.unusedSimpArgs false
set_option linter.unusedVariables false
set_option maxRecDepth 100000
namespace Go.Proofs.Ytlcllpgbpjdofaa
open Go.RowKit

def sampleL : List Pt := [⟨0, 0, 2, 1, 0⟩, ⟨2, 0, 1, 2, 1⟩, ⟨1, 2, 2, 1, 2⟩, ⟨0, 1, 1, 2, 3⟩, ⟨1, 1, 1, 1, 4⟩]
theorem OwnP.litAt {w : World} {B n g : Nat} {cs : Array Value} {xs : List Pt} (hg : g = w.heap.size) (hB : B ≤ g) (hcs : cs.toList = xs.flatMap Pt.vals) (hn : xs.length = n) (hle : n ≤ 2097152) : OwnP (w.alloc (.cells cs 34)) B (some ⟨g, 0, none⟩) n n xs := by
  subst hg
  exact OwnG.lit Pt.len hB hcs hn hle

set_option maxRecDepth 100000 in
set_option maxHeartbeats 1000000 in
theorem spec_SampleLayout (w : World) :
    Calls Try.prog 106 #[] w fun e w' => ∃ g, e = .returned (.agg #[.int .i64 3, .int .i64 3, .slice (some ⟨g, 0, none⟩) 5 5]) ∧ OwnP w' w.heap.size (some ⟨g, 0, none⟩) 5 5 sampleL ∧ Below w.heap.size w w' := by
  have hs := lt2
  go_enter Try.func106, Try.ntmps106
  go_wp2
  refine bodyPost_ret (by simp [results, Try.results106, go_sem, *]; try rfl) rfl ?_
  refine ⟨_, rfl, OwnP.litAt (by simp) (by omega) rfl rfl (by omega), ?_⟩
  (repeat' (first | (with_reducible exact Below.refl _ _) | (with_reducible refine Below.setCell ?_ ?_ _) | (with_reducible refine Below.alloc ?_ ?_ _) | (with_reducible refine Below.drew ?_) | (with_reducible refine Below.drewN ?_ _) | (with_reducible refine Below.trans ?_ (Below.mono (by with_reducible assumption) ?_)) | go_size | (dsimp only; omega)))

set_option maxRecDepth 100000 in
set_option maxHeartbeats 1000000 in
theorem impl_SampleLayout (w : World) :
    Calls Try.prog 21 #[] w fun e w' => ∃ g, e = .returned (.agg #[.int .i64 3, .int .i64 3, .slice (some ⟨g, 0, none⟩) 5 5]) ∧ OwnP w' w.heap.size (some ⟨g, 0, none⟩) 5 5 sampleL ∧ Below w.heap.size w w' := by
  have hs := lt2
  go_enter Try.func21, Try.ntmps21
  go_wp2
  refine bodyPost_ret (by simp [results, Try.results21, go_sem, *]; try rfl) rfl ?_
  refine ⟨_, rfl, OwnP.litAt (by simp) (by omega) rfl rfl (by omega), ?_⟩
  (repeat' (first | (with_reducible exact Below.refl _ _) | (with_reducible refine Below.setCell ?_ ?_ _) | (with_reducible refine Below.alloc ?_ ?_ _) | (with_reducible refine Below.drew ?_) | (with_reducible refine Below.drewN ?_ _) | (with_reducible refine Below.trans ?_ (Below.mono (by with_reducible assumption) ?_)) | go_size | (dsimp only; omega)))

end Go.Proofs.Ytlcllpgbpjdofaa
