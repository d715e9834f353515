/- Walk of CanSew, the program's side; both sides' word for any layout. No condition. -/
import Derived.Test.YtlcllpgbpjdofaaCg
import Derived.Test.YtlcllpgbpjdofaaCe
set_option linter.unusedSimpArgs false
set_option linter.unusedVariables false
set_option maxRecDepth 100000
namespace Go.Proofs.Ytlcllpgbpjdofaa
open Go.RowKit

set_option maxRecDepth 100000 in
set_option maxHeartbeats 4000000 in
theorem impl_CanSew (f : Nat) (z y : Int) (A : Option Addr) (n c : Nat) (ps : List Pt) (w : World) (h : RdP w w.heap.size A n ps) (hf : (z + y).toNat ≤ f) :
    Calls Try.prog 57 #[.agg #[.int .i64 z, .int .i64 y, .slice A n c]] w fun e w' => e = .returned (.bool (sewB f z y ps)) ∧ Below w.heap.size w w' := by
  have hs := lt2
  have HS := Lib.hid (sew_knot f z y ps hf)
  have H := Lib.hid h
  clear h
  have B0 := Lib.hid (Box3.mk_ w z y A n c 29)
  have BW0 := Lib.hid ((Below.refl w.heap.size w).alloc (Nat.le_refl _) (.cells #[.int .i64 z, .int .i64 y, .slice A n c] 29))
  go_enter Try.func57, Try.ntmps57
  go_wp2_with fail
  refine (impl_FirstKnot f _ _ _ _ _ ps _ (H.out.below' (by go_grown) (by go_size)) hf).mono ?_
  rintro e w1 ⟨z1, y1, A1, n1, c1, rfl, hb1⟩
  have HBA := Lib.hid (hb1.trans ((Below.refl w1.heap.size w1).alloc (Nat.le_refl _) (.cells #[.int .i64 z1, .int .i64 y1, .slice A1 n1 c1] 29) |>.mono hb1.size))
  have B1 := Lib.hid (B0.out.next HBA.out)
  have BW1 := Lib.hid (BW0.out.trans (HBA.out.mono BW0.out.size))
  clear hb1
  have b0 := B1.out.c0
  have b1 := B1.out.c1
  have b2 := B1.out.c2
  go_wp2_with fail
  refine (impl_LayoutOk _ _ _ _ _ ps _ (H.out.below' BW1.out (by simpa using BW1.out.size))).mono ?_
  rintro e w2 ⟨rfl, hb2⟩
  have BW2 := Lib.hid (BW1.out.trans (hb2.mono BW1.out.size))
  clear hb2
  cases hk : layB z y ps with
  | false =>
    have HF := Lib.hid (show sewB f z y ps = false by rw [HS.out, hk]; rfl)
    go_wp2
    go_ret
    exact ⟨ret_bool HF.out.symm, BW2.out⟩
  | true =>
    cases hq : knotB f z y ps with
    | false =>
      have HF := Lib.hid (show sewB f z y ps = true by rw [HS.out, hk, hq]; rfl)
      go_wp2
      go_ret
      exact ⟨ret_bool HF.out.symm, BW2.out⟩
    | true =>
      have HF := Lib.hid (show sewB f z y ps = false by rw [HS.out, hk, hq]; rfl)
      go_wp2
      go_ret
      exact ⟨ret_bool HF.out.symm, BW2.out⟩
theorem impl_CanSewN (z y : Int) (A : Option Addr) (n c : Nat) (ps : List Pt) (w : World) (h : RdP w w.heap.size A n ps) :
    Calls Try.prog 57 #[.agg #[.int .i64 z, .int .i64 y, .slice A n c]] w fun e w' => e = .returned (.bool (sewB (z + y).toNat z y ps)) ∧ Below w.heap.size w w' :=
  impl_CanSew _ z y A n c ps w h (Nat.le_refl _)
theorem spec_CanSewN (z y : Int) (A : Option Addr) (n c : Nat) (ps : List Pt) (w : World) (h : RdP w w.heap.size A n ps) :
    Calls Try.prog 56 #[.agg #[.int .i64 z, .int .i64 y, .slice A n c]] w fun e w' => e = .returned (.bool (sewB (z + y).toNat z y ps)) ∧ Below w.heap.size w w' :=
  spec_CanSew _ z y A n c ps w h (Nat.le_refl _)

end Go.Proofs.Ytlcllpgbpjdofaa
