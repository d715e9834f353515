/- Walks of the laws on exchanges: each returns true. No condition. -/
import Derived.Test.YtjjdkbkmjjfnoaaQ
set_option linter.unusedSimpArgs false
set_option linter.unusedVariables false
namespace Go.Proofs.Ytjjdkbkmjjfnoaa
open Go.RowKit

set_option maxHeartbeats 1000000 in
theorem walk_FnExactSwapList (a b : Int) (w : World) (_ : I64 a) (_ : I64 b) :
    Calls Try.prog 20 #[.int .i64 a, .int .i64 b] w fun e w' => e = .returned (.bool true) ∧ Below w.heap.size w w' := by
  have HW := Below.refl w.heap.size w
  have hs := lt2
  go_enter Try.func20, Try.ntmps20
  go_wp2_with fail
  refine (spec_SwapList _ _ _).mono ?_
  rintro e w1 ⟨A_w0, n_w0, c_w0, rfl, f_w0, hb1⟩
  have hy1 := hb1.size
  replace HW := HW.trans (hb1.mono (by omega))
  have l_w0 := Lib.hid f_w0.lt
  go_wp2_with fail
  refine (impl_SwapList _ _ _).mono ?_
  rintro e w2 ⟨A_g0, n_g0, c_g0, rfl, f_g0, hb2⟩
  have hy2 := hb2.size
  replace f_w0 := f_w0.next hb2
  replace HW := HW.trans (hb2.mono (by omega))
  have l_g0 := Lib.hid f_g0.lt
  go_wp2_with fail
  refine (laws_eqIntS_self _ _ _ _ _ _ _ _ f_g0.rd f_w0.rd).mono ?_
  rintro e w3 ⟨rfl, hb3⟩
  have hy3 := hb3.size
  replace f_w0 := f_w0.next hb3
  replace f_g0 := f_g0.next hb3
  replace HW := HW.trans (hb3.mono (by omega))
  go_wp2_with fail
  refine (laws_markIntS _ _ _ _ _ _ _ f_g0 (by omega) (by omega)).mono ?_
  rintro e w4 ⟨rfl, f_g0', hg4⟩
  have hy4 := hg4.size
  replace f_w0 := f_w0.keep hg4 (fun k1 e1 e2 => by have h1 := l_w0.out k1 e1; have h2 := l_g0.out k1 e2; omega)
  replace HW := HW.grown hg4 (by omega) (fun k1 e1 => by have h1 := l_g0.out k1 e1; omega)
  clear f_g0
  have f_g0 := f_g0'
  clear f_g0'
  go_wp2_with fail
  refine (laws_heldIntS _ _ _ _ _ f_g0.rd (by omega) (by omega)).mono ?_
  rintro e w' ⟨rfl, rfl⟩
  go_wp2_with fail
  refine (impl_SwapList _ _ _).mono ?_
  rintro e w5 ⟨A_h0, n_h0, c_h0, rfl, f_h0, hb5⟩
  have hy5 := hb5.size
  replace f_w0 := f_w0.next hb5
  replace f_g0 := f_g0.next hb5
  replace HW := HW.trans (hb5.mono (by omega))
  have l_h0 := Lib.hid f_h0.lt
  go_wp2_with fail
  refine (laws_eqIntS_self _ _ _ _ _ _ _ _ f_h0.rd f_w0.rd).mono ?_
  rintro e w6 ⟨rfl, hb6⟩
  have hy6 := hb6.size
  replace f_w0 := f_w0.next hb6
  replace f_g0 := f_g0.next hb6
  replace f_h0 := f_h0.next hb6
  replace HW := HW.trans (hb6.mono (by omega))
  go_wp2_with fail
  refine (laws_heldIntS _ _ _ _ _ f_g0.rd (by omega) (by omega)).mono ?_
  rintro e w' ⟨rfl, rfl⟩
  go_wp2
  go_ret
  exact ⟨rfl, HW⟩

set_option maxHeartbeats 1000000 in
theorem walk_FnExactIsExchange_small (A : Option Addr) (n c : Nat) (xs : List Int) (w : World) (h : RdI w w.heap.size A n xs) (hn : n ≤ 1048576) :
    Calls Try.prog 19 #[.slice A n c] w fun e w' => e = .returned (.bool true) ∧ Below w.heap.size w w' := by
  have a_x := h
  have HW := Below.refl w.heap.size w
  have hs := lt2
  go_enter Try.func19, Try.ntmps19
  go_wp2_with fail
  refine (laws_toIntS _ _ _ _ _ (a_x.more (by omega))).mono ?_
  rintro e w1 ⟨g_p, rfl, f_p, hb1⟩
  have hy1 := hb1.size
  replace a_x := a_x.below (hb1.mono (by omega))
  replace HW := HW.trans (hb1.mono (by omega))
  have l_p := Lib.hid f_p.lt
  go_wp2_with fail
  refine (spec_IsExchange _ _ _ _ _ f_p.rd).mono ?_
  rintro e w2 ⟨rfl, hb2⟩
  have hy2 := hb2.size
  replace f_p := f_p.next hb2
  replace a_x := a_x.below (hb2.mono (by omega))
  replace HW := HW.trans (hb2.mono (by omega))
  go_wp2_with fail
  refine (laws_toIntS _ _ _ _ _ (a_x.more (by omega))).mono ?_
  rintro e w3 ⟨g_x0, rfl, f_x0, hb3⟩
  have hy3 := hb3.size
  replace f_p := f_p.next hb3
  replace a_x := a_x.below (hb3.mono (by omega))
  replace HW := HW.trans (hb3.mono (by omega))
  have l_x0 := Lib.hid f_x0.lt
  go_wp2_with fail
  refine (impl_IsExchange _ _ _ _ _ f_x0.rd).mono ?_
  rintro e w4 ⟨rfl, hb4⟩
  have hy4 := hb4.size
  replace f_p := f_p.next hb4
  replace f_x0 := f_x0.next hb4
  replace a_x := a_x.below (hb4.mono (by omega))
  replace HW := HW.trans (hb4.mono (by omega))
  go_wp2_with fail
  refine (laws_toIntS _ _ _ _ _ (a_x.more (by omega))).mono ?_
  rintro e w5 ⟨g_q, rfl, f_q, hb5⟩
  have hy5 := hb5.size
  replace f_p := f_p.next hb5
  replace f_x0 := f_x0.next hb5
  replace a_x := a_x.below (hb5.mono (by omega))
  replace HW := HW.trans (hb5.mono (by omega))
  have l_q := Lib.hid f_q.lt
  go_wp2_with fail
  refine (laws_eqIntS_self _ _ _ _ _ _ _ _ f_x0.rd f_q.rd).mono ?_
  rintro e w6 ⟨rfl, hb6⟩
  have hy6 := hb6.size
  replace f_p := f_p.next hb6
  replace f_x0 := f_x0.next hb6
  replace f_q := f_q.next hb6
  replace a_x := a_x.below (hb6.mono (by omega))
  replace HW := HW.trans (hb6.mono (by omega))
  go_wp2
  go_ret
  exact ⟨rfl, HW⟩

set_option maxHeartbeats 400000 in
theorem walk_FnExactIsExchange_big (A : Option Addr) (n c : Nat) (xs : List Int) (w : World) (hb : 1048576 < n) (hm : n ≤ 9223372036854775807) :
    Calls Try.prog 19 #[.slice A n c] w fun e w' => e = .returned (.bool true) ∧ Below w.heap.size w w' := by
  go_enter Try.func19, Try.ntmps19
  go_wp2
  go_ret
  exact ⟨rfl, Below.refl _ _⟩

theorem walk_FnExactIsExchange (A : Option Addr) (n c : Nat) (xs : List Int) (w : World) (h : ArgI w A n xs) :
    Calls Try.prog 19 #[.slice A n c] w fun e w' => e = .returned (.bool true) ∧ Below w.heap.size w w' := by
  by_cases hb : n ≤ 1048576
  · exact walk_FnExactIsExchange_small A n c xs w (h.2 (by omega)) hb
  · exact walk_FnExactIsExchange_big A n c xs w (by omega) (by have := h.1; unfold maxLen at this; omega)

set_option maxHeartbeats 1000000 in
theorem walk_FnExactUndoList_small (A : Option Addr) (n c : Nat) (xs : List Int) (w : World) (h : RdI w w.heap.size A n xs) (hn : n ≤ 1048576) :
    Calls Try.prog 18 #[.slice A n c] w fun e w' => e = .returned (.bool true) ∧ Below w.heap.size w w' := by
  have a_x := h
  have HW := Below.refl w.heap.size w
  have hs := lt2
  go_enter Try.func18, Try.ntmps18
  go_wp2_with fail
  refine (laws_toIntS _ _ _ _ _ (a_x.more (by omega))).mono ?_
  rintro e w1 ⟨g_p, rfl, f_p, hb1⟩
  have hy1 := hb1.size
  replace a_x := a_x.below (hb1.mono (by omega))
  replace HW := HW.trans (hb1.mono (by omega))
  have l_p := Lib.hid f_p.lt
  go_wp2_with fail
  refine (spec_UndoList _ _ _ _ _ f_p.rd).mono ?_
  rintro e w2 ⟨A_w0, n_w0, c_w0, rfl, f_w0, hb2⟩
  have hy2 := hb2.size
  replace f_p := f_p.next hb2
  replace a_x := a_x.below (hb2.mono (by omega))
  replace HW := HW.trans (hb2.mono (by omega))
  have l_w0 := Lib.hid f_w0.lt
  go_wp2_with fail
  refine (laws_toIntS _ _ _ _ _ (a_x.more (by omega))).mono ?_
  rintro e w3 ⟨g_x0, rfl, f_x0, hb3⟩
  have hy3 := hb3.size
  replace f_p := f_p.next hb3
  replace f_w0 := f_w0.next hb3
  replace a_x := a_x.below (hb3.mono (by omega))
  replace HW := HW.trans (hb3.mono (by omega))
  have l_x0 := Lib.hid f_x0.lt
  go_wp2_with fail
  refine (impl_UndoList _ _ _ _ _ f_x0.rd).mono ?_
  rintro e w4 ⟨A_g0, n_g0, c_g0, rfl, f_g0, hb4⟩
  have hy4 := hb4.size
  replace f_p := f_p.next hb4
  replace f_w0 := f_w0.next hb4
  replace f_x0 := f_x0.next hb4
  replace a_x := a_x.below (hb4.mono (by omega))
  replace HW := HW.trans (hb4.mono (by omega))
  have l_g0 := Lib.hid f_g0.lt
  go_wp2_with fail
  refine (laws_eqIntS_self _ _ _ _ _ _ _ _ f_g0.rd f_w0.rd).mono ?_
  rintro e w5 ⟨rfl, hb5⟩
  have hy5 := hb5.size
  replace f_p := f_p.next hb5
  replace f_w0 := f_w0.next hb5
  replace f_x0 := f_x0.next hb5
  replace f_g0 := f_g0.next hb5
  replace a_x := a_x.below (hb5.mono (by omega))
  replace HW := HW.trans (hb5.mono (by omega))
  go_wp2_with fail
  refine (laws_toIntS _ _ _ _ _ (a_x.more (by omega))).mono ?_
  rintro e w6 ⟨g_q, rfl, f_q, hb6⟩
  have hy6 := hb6.size
  replace f_p := f_p.next hb6
  replace f_w0 := f_w0.next hb6
  replace f_x0 := f_x0.next hb6
  replace f_g0 := f_g0.next hb6
  replace a_x := a_x.below (hb6.mono (by omega))
  replace HW := HW.trans (hb6.mono (by omega))
  have l_q := Lib.hid f_q.lt
  go_wp2_with fail
  refine (laws_eqIntS_self _ _ _ _ _ _ _ _ f_x0.rd f_q.rd).mono ?_
  rintro e w7 ⟨rfl, hb7⟩
  have hy7 := hb7.size
  replace f_p := f_p.next hb7
  replace f_w0 := f_w0.next hb7
  replace f_x0 := f_x0.next hb7
  replace f_g0 := f_g0.next hb7
  replace f_q := f_q.next hb7
  replace a_x := a_x.below (hb7.mono (by omega))
  replace HW := HW.trans (hb7.mono (by omega))
  go_wp2_with fail
  refine (laws_markIntS _ _ _ _ _ _ _ f_x0 (by omega) (by omega)).mono ?_
  rintro e w8 ⟨rfl, f_x0', hg8⟩
  have hy8 := hg8.size
  replace f_p := f_p.keep hg8 (fun k1 e1 e2 => by have h1 := l_p.out k1 e1; have h2 := l_x0.out k1 e2; omega)
  replace f_w0 := f_w0.keep hg8 (fun k1 e1 e2 => by have h1 := l_w0.out k1 e1; have h2 := l_x0.out k1 e2; omega)
  replace f_g0 := f_g0.keep hg8 (fun k1 e1 e2 => by have h1 := l_g0.out k1 e1; have h2 := l_x0.out k1 e2; omega)
  replace f_q := f_q.keep hg8 (fun k1 e1 e2 => by have h1 := l_q.out k1 e1; have h2 := l_x0.out k1 e2; omega)
  replace a_x := a_x.grown hg8 (by omega) (fun k1 e1 => by have h1 := l_x0.out k1 e1; omega)
  replace HW := HW.grown hg8 (by omega) (fun k1 e1 => by have h1 := l_x0.out k1 e1; omega)
  clear f_x0
  have f_x0 := f_x0'
  clear f_x0'
  go_wp2_with fail
  refine (laws_eqIntS_self _ _ _ _ _ _ _ _ f_g0.rd f_w0.rd).mono ?_
  rintro e w9 ⟨rfl, hb9⟩
  have hy9 := hb9.size
  replace f_p := f_p.next hb9
  replace f_w0 := f_w0.next hb9
  replace f_x0 := f_x0.next hb9
  replace f_g0 := f_g0.next hb9
  replace f_q := f_q.next hb9
  replace a_x := a_x.below (hb9.mono (by omega))
  replace HW := HW.trans (hb9.mono (by omega))
  go_wp2_with fail
  refine (laws_markIntS _ _ _ _ _ _ _ f_g0 (by omega) (by omega)).mono ?_
  rintro e w10 ⟨rfl, f_g0', hg10⟩
  have hy10 := hg10.size
  replace f_p := f_p.keep hg10 (fun k1 e1 e2 => by have h1 := l_p.out k1 e1; have h2 := l_g0.out k1 e2; omega)
  replace f_w0 := f_w0.keep hg10 (fun k1 e1 e2 => by have h1 := l_w0.out k1 e1; have h2 := l_g0.out k1 e2; omega)
  replace f_x0 := f_x0.keep hg10 (fun k1 e1 e2 => by have h1 := l_x0.out k1 e1; have h2 := l_g0.out k1 e2; omega)
  replace f_q := f_q.keep hg10 (fun k1 e1 e2 => by have h1 := l_q.out k1 e1; have h2 := l_g0.out k1 e2; omega)
  replace a_x := a_x.grown hg10 (by omega) (fun k1 e1 => by have h1 := l_g0.out k1 e1; omega)
  replace HW := HW.grown hg10 (by omega) (fun k1 e1 => by have h1 := l_g0.out k1 e1; omega)
  clear f_g0
  have f_g0 := f_g0'
  clear f_g0'
  go_wp2_with fail
  refine (laws_heldIntS _ _ _ _ _ f_g0.rd (by omega) (by omega)).mono ?_
  rintro e w' ⟨rfl, rfl⟩
  go_wp2_with fail
  refine (laws_toIntS _ _ _ _ _ (a_x.more (by omega))).mono ?_
  rintro e w11 ⟨g_r, rfl, f_r, hb11⟩
  have hy11 := hb11.size
  replace f_p := f_p.next hb11
  replace f_w0 := f_w0.next hb11
  replace f_x0 := f_x0.next hb11
  replace f_g0 := f_g0.next hb11
  replace f_q := f_q.next hb11
  replace a_x := a_x.below (hb11.mono (by omega))
  replace HW := HW.trans (hb11.mono (by omega))
  have l_r := Lib.hid f_r.lt
  go_wp2_with fail
  refine (impl_UndoList _ _ _ _ _ f_r.rd).mono ?_
  rintro e w12 ⟨A_h0, n_h0, c_h0, rfl, f_h0, hb12⟩
  have hy12 := hb12.size
  replace f_p := f_p.next hb12
  replace f_w0 := f_w0.next hb12
  replace f_x0 := f_x0.next hb12
  replace f_g0 := f_g0.next hb12
  replace f_q := f_q.next hb12
  replace f_r := f_r.next hb12
  replace a_x := a_x.below (hb12.mono (by omega))
  replace HW := HW.trans (hb12.mono (by omega))
  have l_h0 := Lib.hid f_h0.lt
  go_wp2_with fail
  refine (laws_eqIntS_self _ _ _ _ _ _ _ _ f_h0.rd f_w0.rd).mono ?_
  rintro e w13 ⟨rfl, hb13⟩
  have hy13 := hb13.size
  replace f_p := f_p.next hb13
  replace f_w0 := f_w0.next hb13
  replace f_x0 := f_x0.next hb13
  replace f_g0 := f_g0.next hb13
  replace f_q := f_q.next hb13
  replace f_r := f_r.next hb13
  replace f_h0 := f_h0.next hb13
  replace a_x := a_x.below (hb13.mono (by omega))
  replace HW := HW.trans (hb13.mono (by omega))
  go_wp2_with fail
  refine (laws_heldIntS _ _ _ _ _ f_g0.rd (by omega) (by omega)).mono ?_
  rintro e w' ⟨rfl, rfl⟩
  go_wp2
  go_ret
  exact ⟨rfl, HW⟩

set_option maxHeartbeats 400000 in
theorem walk_FnExactUndoList_big (A : Option Addr) (n c : Nat) (xs : List Int) (w : World) (hb : 1048576 < n) (hm : n ≤ 9223372036854775807) :
    Calls Try.prog 18 #[.slice A n c] w fun e w' => e = .returned (.bool true) ∧ Below w.heap.size w w' := by
  go_enter Try.func18, Try.ntmps18
  go_wp2
  go_ret
  exact ⟨rfl, Below.refl _ _⟩

theorem walk_FnExactUndoList (A : Option Addr) (n c : Nat) (xs : List Int) (w : World) (h : ArgI w A n xs) :
    Calls Try.prog 18 #[.slice A n c] w fun e w' => e = .returned (.bool true) ∧ Below w.heap.size w w' := by
  by_cases hb : n ≤ 1048576
  · exact walk_FnExactUndoList_small A n c xs w (h.2 (by omega)) hb
  · exact walk_FnExactUndoList_big A n c xs w (by omega) (by have := h.1; unfold maxLen at this; omega)

end Go.Proofs.Ytjjdkbkmjjfnoaa
