/- The size of a block, taken off a number that is left. -/
import Derived.Test.YtjjdkbkmjjfnoaaB2
set_option linter.unusedSimpArgs false
set_option linter.unusedVariables false
namespace Go.Proofs.Ytjjdkbkmjjfnoaa
open Go.RowKit

def szL (L : Int) (n : Nat) : Int := if (n : Int) ≤ L then L - n else -1
theorem szL_small {L : Int} {n : Nat} (h : (n : Int) ≤ L) : szL L n = L - n := if_pos h
theorem szL_big {L : Int} {n : Nat} (h : L < (n : Int)) : szL L n = -1 := if_neg (by omega)
set_option maxHeartbeats 400000 in
theorem laws_szCellSL (L : Int) (A : Option Addr) (n c : Nat) (w : World) (hn : n ≤ 9223372036854775807) (h0 : 0 ≤ L) (h1 : L ≤ 1048576) :
    Calls Try.prog 74 #[.slice A n c, .int .i64 L] w fun e w' => e = .returned (.int .i64 (szL L n)) ∧ w = w' := by
  by_cases hb : (n : Int) ≤ L
  · have E := Lib.hid (szL_small hb)
    go_enter Try.func74, Try.ntmps74
    go_wp2
    go_ret
    exact ⟨by rw [E.out]; rfl, rfl⟩
  · have E := Lib.hid (szL_big (L := L) (n := n) (by omega))
    go_enter Try.func74, Try.ntmps74
    go_wp2
    go_ret
    exact ⟨by rw [E.out]; rfl, rfl⟩
set_option maxHeartbeats 400000 in
theorem laws_szBlockL (L : Int) (z : Int) (A : Option Addr) (n c : Nat) (w : World) (hn : n ≤ 9223372036854775807) (h0 : 0 ≤ L) (h1 : L ≤ 1048576) :
    Calls Try.prog 22 #[.agg #[.int .i64 z, .slice A n c], .int .i64 L] w fun e w' => e = .returned (.int .i64 (szL L n)) ∧ Below w.heap.size w w' := by
  by_cases hb : (n : Int) ≤ L
  · have E := Lib.hid (szL_small hb)
    have hp : 0 ≤ szL L n := by rw [E.out]; omega
    go_enter Try.func22, Try.ntmps22
    go_wp2_with (go_at_call 74; refine (laws_szCellSL _ _ _ _ _ hn h0 h1).mono ?_; rintro e w' ⟨rfl, rfl⟩)
    go_ret
    exact ⟨rfl, by go_grown⟩
  · have E := Lib.hid (szL_big (L := L) (n := n) (by omega))
    have hp : szL L n < 0 := by rw [E.out]; omega
    go_enter Try.func22, Try.ntmps22
    go_wp2_with (go_at_call 74; refine (laws_szCellSL _ _ _ _ _ hn h0 h1).mono ?_; rintro e w' ⟨rfl, rfl⟩)
    go_ret
    exact ⟨by rw [E.out]; rfl, by go_grown⟩
end Go.Proofs.Ytjjdkbkmjjfnoaa
