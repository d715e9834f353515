/- Walks of the laws on lists of ints: each returns true. No condition. -/
import Derived.Test.YtmddlkmondbbaaaI
import Derived.Test.YtmddlkmondbbaaaR0
set_option linter.unusedSimpArgs false
set_option linter.unusedVariables false
namespace Go.Proofs.Ytmddlkmondbbaaa
open Go.RowKit

set_option maxHeartbeats 400000 in
theorem walk_FnExactListOk_big (A : Option Addr) (n c : Nat) (xs : List Int) (w : World) (hb : 1048576 < n) (hm : n ≤ 9223372036854775807) :
    Calls Try.prog 13 #[.slice A n c] w fun e w' => e = .returned (.bool true) ∧ Below w.heap.size w w' := by
  go_enter Try.func13, Try.ntmps13
  go_wp2
  go_ret
  exact ⟨rfl, Below.refl _ _⟩

set_option maxHeartbeats 400000 in
theorem walk_FnExactListOk_small (A : Option Addr) (n c : Nat) (xs : List Int) (w : World) (h : RdI w w.heap.size A n xs) (hn : n ≤ 1048576) :
    Calls Try.prog 13 #[.slice A n c] w fun e w' => e = .returned (.bool true) ∧ Below w.heap.size w w' := by
  go_enter Try.func13, Try.ntmps13
  go_wp2_with fail
  refine (laws_toIntS _ _ _ _ _ h).mono ?_
  rintro e w1 ⟨g1, rfl, ho1, hb1⟩
  go_wp2_with fail
  refine (spec_ListOk _ _ _ _ _ ho1.rd).mono ?_
  rintro e w' ⟨rfl, rfl⟩
  go_wp2_with fail
  refine (laws_toIntS _ _ _ _ _ (h.next hb1)).mono ?_
  rintro e w2 ⟨g2, rfl, ho2, hb2⟩
  go_wp2_with fail
  refine (impl_ListOk _ _ _ _ _ ho2.rd).mono ?_
  rintro e w' ⟨rfl, rfl⟩
  go_wp2_with fail
  refine (laws_toIntS _ _ _ _ _ ((h.next hb1).next hb2)).mono ?_
  rintro e w3 ⟨g3, rfl, ho3, hb3⟩
  go_wp2_with fail
  refine (laws_eqIntS_self _ _ _ _ _ _ _ _ (ho2.rd.next hb3) ho3.rd).mono ?_
  rintro e w4 ⟨rfl, hb4⟩
  have hy1 := hb1.size; have hy2 := hb2.size; have hy3 := hb3.size
  go_wp2
  go_ret
  refine ⟨rfl, ?_⟩
  (repeat' (first | (with_reducible exact Below.refl _ _) | (with_reducible refine Below.setCell ?_ ?_ _) | (with_reducible refine Below.alloc ?_ ?_ _) | (with_reducible refine Below.drew ?_) | (with_reducible refine Below.trans ?_ (Below.mono (by with_reducible assumption) ?_)) | go_size | omega))

theorem walk_FnExactListOk (A : Option Addr) (n c : Nat) (xs : List Int) (w : World) (h : ArgI w A n xs) :
    Calls Try.prog 13 #[.slice A n c] w fun e w' => e = .returned (.bool true) ∧ Below w.heap.size w w' := by
  by_cases hb : n ≤ 1048576
  · exact walk_FnExactListOk_small A n c xs w (h.2 (by omega)) hb
  · exact walk_FnExactListOk_big A n c xs w (by omega) (by have := h.1; unfold maxLen at this; omega)

end Go.Proofs.Ytmddlkmondbbaaa
