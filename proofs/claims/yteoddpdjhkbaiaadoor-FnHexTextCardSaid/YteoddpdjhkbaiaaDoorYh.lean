/- The law FnHexText returns true where the library's listed variables read as their text lays them. -/
import Derived.Test.YteoddpdjhkbaiaaDoorYx
import Derived.Test.YteoddpdjhkbaiaaDoorYe
import Derived.Test.YteoddpdjhkbaiaaDoorYd
import Derived.Test.YteoddpdjhkbaiaaDoorYf
import Derived.Test.YteoddpdjhkbaiaaDoorR3
set_option linter.unusedSimpArgs false
set_option linter.unusedVariables false
set_option maxRecDepth 100000
namespace Go.Proofs.YteoddpdjhkbaiaaDoor
open Go.RowKit

theorem hexL_cons (b : UInt8) (l : List UInt8) : hexL (b :: l) = fig (b.toNat / 16) :: fig (b.toNat % 16) :: hexL l := rfl
theorem hexL_at (l : List UInt8) : ∀ j, j < l.length → (hexL l).getD (2 * j) 0 = fig ((l.getD j 0).toNat / 16) ∧ (hexL l).getD (2 * j + 1) 0 = fig ((l.getD j 0).toNat % 16) := by
  induction l with
  | nil => intro j h; simp at h
  | cons b l ih =>
    intro j h
    rw [hexL_cons]
    cases j with
    | zero => simp
    | succ j =>
      have h2 := ih j (by simpa using h)
      rw [show 2 * (j + 1) = 2 * j + 1 + 1 by omega]
      simpa using h2
theorem val_fig (x : Fin 16) : valU (fig x.1).toNat = x.1 := by
  have key : ∀ x : Fin 16, valU (fig x.1).toNat = x.1 := by decide
  exact key x
theorem pv_hex (l : List UInt8) {j : Nat} (h : j < l.length) : pv (bstr (hexL l)) j = ((l.getD j 0).toNat : Int) := by
  obtain ⟨h1, h2⟩ := hexL_at l j h
  have hb : (l.getD j 0).toNat < 256 := (l.getD j 0).toNat_lt
  have e1 : bt (bstr (hexL l)) (2 * j) = (fig ((l.getD j 0).toNat / 16)).toNat := congrArg UInt8.toNat h1
  have e2 : bt (bstr (hexL l)) (2 * j + 1) = (fig ((l.getD j 0).toNat % 16)).toNat := congrArg UInt8.toNat h2
  unfold pv
  rw [e1, e2, val_fig ⟨(l.getD j 0).toNat / 16, by omega⟩, val_fig ⟨(l.getD j 0).toNat % 16, by omega⟩]
  dsimp only
  rw [if_neg (by omega)]
  omega
theorem fits_hex {l : List UInt8} (h : l.length ≤ 20000) : fitsD (bstr (hexL l)) := by
  have hs : (bstr (hexL l)).size = 2 * l.length := by rw [bstr_size, hexL_len]
  refine ⟨by omega, by omega, fun j hj => ?_⟩
  rw [pv_hex l (by omega)]
  omega
theorem dec_hex (l : List UInt8) : decL (bstr (hexL l)) ((bstr (hexL l)).size / 2) = l := by
  have hs : (bstr (hexL l)).size / 2 = l.length := by rw [bstr_size, hexL_len]; omega
  rw [hs]
  apply List.ext_getElem (by rw [decL_len])
  intro j h1 h2
  simp only [decL, List.getElem_map, List.getElem_range]
  rw [pv_hex l h2, Int.toNat_natCast, UInt8.ofNat_toNat]
  simp [List.getD, List.getElem?_eq_getElem h2]
theorem bstr_data (s : ByteArray) : bstr s.data.toList = s := by
  apply ByteArray.ext; simp [bstr]
theorem itoa_ten : itoaS 10 = ⟨#[49, 48]⟩ := by
  unfold itoaS Lib.itoa
  rw [if_neg (by omega), show (10 : Int).toNat = 10 from rfl, Lib.decDigits, dif_neg (by omega), Lib.decDigits, dif_pos (by omega)]
  rfl

set_option maxHeartbeats 1000000 in
theorem spec_DrawEncodeHex (A : Option Addr) (n c : Nat) (w : World) (h : RdB w w.heap.size A n) :
    Calls Tryd.prog 17 #[.slice A n c] w fun e w' => ∃ s : ByteArray, s.size ≤ 20001 ∧ e = .returned (.string s) ∧ Below w.heap.size w w' := by
  have H := Lib.hid h
  clear h
  go_enter Tryd.func17, Tryd.ntmps17
  go_wp2_with fail
  refine (spec_l01New _ _ _ _ _ (Nat.le_refl _) H.out).mono ?_
  rintro e w0 ⟨g, rfl, hg, hc, hb⟩
  have HC := Lib.hid hc
  have HB := Lib.hid hb
  clear hc hb
  go_wp2_with fail
  refine (spec_l01Once _ _ _ _ _ _ _ HC.out).mono ?_
  rintro e w1 ⟨b, rfl, hc1, hg1⟩
  have H1 := Lib.hid hc1
  have G1 := Lib.hid hg1
  clear hc1 hg1
  have KB : ∀ w', w0.grownBy w' (some g) → Below w.heap.size w w' := fun w' hg' => HB.out.grown hg' HB.out.size (fun k e => by cases e; exact hg)
  have HK := Lib.hid KB
  clear KB
  cases b with
  | true =>
    go_wp2_with fail
    refine (spec_l01Below _ _ _ _ _ _ _ H1.out).mono ?_
    rintro e w2 ⟨x, px, rfl, hc2, hg2⟩
    have G2 := Lib.hid (grown_tr G1.out hg2)
    obtain ⟨x0, x1⟩ := px.2 (by omega)
    clear px hc2 hg2
    go_wp2_with fail
    refine (spec_l01LongI _ _ _ (by omega) (by omega) (by omega) (by omega)).mono ?_
    rintro e w3 ⟨s, hs, rfl, hb3⟩
    have HS := Lib.hid (show s.size ≤ 20001 by
      have h1 := congrArg List.length hs
      simp at h1
      omega)
    have HB3 := Lib.hid ((HK.out _ G2.out).trans (hb3.mono (HK.out _ G2.out).size))
    clear hs hb3
    go_wp2
    go_ret
    exact ⟨s, HS.out, rfl, HB3.out⟩
  | false =>
    go_wp2_with fail
    refine (spec_l01Below _ _ _ _ _ _ _ H1.out).mono ?_
    rintro e w2 ⟨x, px, rfl, hc2, hg2⟩
    have H2 := Lib.hid hc2
    have G2 := Lib.hid (grown_tr G1.out hg2)
    obtain ⟨x0, x1⟩ := px.2 (by omega)
    clear px hc2 hg2
    go_wp2_with fail
    refine (spec_l01TextI _ _ _ _ _ _ _ H2.out x0 (by omega)).mono ?_
    rintro e w3 ⟨s, hs, rfl, hc3, hg3⟩
    have HS := Lib.hid (show s.size ≤ 20001 by omega)
    have G3 := Lib.hid (grown_tr G2.out hg3)
    clear hs hc3 hg3
    go_wp2
    go_ret
    exact ⟨s, HS.out, rfl, HK.out _ G3.out⟩

set_option maxHeartbeats 1000000 in
theorem walk_FnHexText (A : Option Addr) (n c : Nat) (w : World) (h : ArgB w A n) (ht : Pow w) :
    Calls Tryd.prog 6 #[.slice A n c] w fun e w' => e = .returned (.bool true) ∧ Below w.heap.size w w' := by
  have HA := Lib.hid h
  have HT := Lib.hid ht
  clear h ht
  by_cases hn : 1048576 < n
  · have E1 := Lib.hid (show decide (1048576 < n) = true by simpa using hn)
    go_enter Tryd.func6, Tryd.ntmps6
    go_wp2_with fail
    refine (laws_big _ _ _ _ HA.out.1).mono ?_
    rintro e w' ⟨rfl, rfl⟩
    rw [E1.out]
    go_wp2
    go_ret
    exact ⟨rfl, Below.refl _ _⟩
  · have E1 := Lib.hid (show decide (1048576 < n) = false by simpa using hn)
    go_enter Tryd.func6, Tryd.ntmps6
    go_wp2_with fail
    refine (laws_big _ _ _ _ HA.out.1).mono ?_
    rintro e w' ⟨rfl, rfl⟩
    rw [E1.out]
    go_wp2_with fail
    refine (spec_DrawEncodeHex _ _ _ _ (HA.out.2 (by omega))).mono ?_
    rintro e w1 ⟨s, hs, rfl, hb1⟩
    have HB1 := Lib.hid hb1
    clear hb1
    by_cases hbig : 20000 < s.size
    · have d1 : (20000 : Int) < (s.size : Int) := by omega
      go_wp2_with fail
      refine (impl_EncodeHex_no _ _ hbig (by unfold maxLen; omega)).mono ?_
      rintro e w2 ⟨rfl, hb2⟩
      have HB2 := Lib.hid (HB1.out.trans (hb2.mono HB1.out.size))
      clear hb2
      go_wp2_with fail
      refine (impl_FormatInt _ _ (Lib.hid (show I64r 10 from ⟨by omega, by omega⟩)) (Lib.hid (HT.out.next HB2.out))).mono ?_
      rintro e w3 ⟨rfl, hb3⟩
      rw [itoa_ten]
      have HB3 := Lib.hid (HB2.out.trans (hb3.mono HB2.out.size))
      clear hb3
      go_wp2
      go_ret
      exact ⟨rfl, HB3.out⟩
    · have d1 : ¬ (20000 : Int) < (s.size : Int) := by omega
      have hlen : s.data.toList.length ≤ 20000 := by simp; omega
      have HZ := Lib.hid (show (bstr (hexL s.data.toList)).size = 2 * s.size by rw [bstr_size, hexL_len]; simp)
      have HF := Lib.hid (dec_t (fits_hex hlen))
      have HE := Lib.hid (show bstr (decL (bstr (hexL s.data.toList)) ((bstr (hexL s.data.toList)).size / 2)) = s by rw [dec_hex, bstr_data])
      go_wp2_with fail
      refine (impl_EncodeHex_yes _ _ (by omega)).mono ?_
      rintro e w2 ⟨rfl, hb2⟩
      have HB2 := Lib.hid (HB1.out.trans (hb2.mono HB1.out.size))
      clear hb2 hlen
      obtain ⟨u, hu⟩ : ∃ u, u = bstr (hexL s.data.toList) := ⟨_, rfl⟩
      have HU := Lib.hid hu
      rw [← hu]
      clear hu
      have z1 : u.size = 2 * s.size := by rw [HU.out]; exact HZ.out
      have Z1 := Lib.hid z1
      have z2 : (u.size : Int) = 2 * (s.size : Int) := by omega
      have z3 : ((u.size : Int) == 2 * (s.size : Int)) = true := by rw [beq_iff_eq]; exact z2
      clear z1 z2
      go_wp2_with fail
      refine (impl_DecodeHex _ _ (by have := Z1.out; unfold maxLen; omega)).mono ?_
      rintro e w3 ⟨rfl, hb3⟩
      rw [HU.out, HF.out, HE.out, ← HU.out]
      have HB3 := Lib.hid (HB2.out.trans (hb3.mono HB2.out.size))
      clear hb3
      go_wp2
      all_goals (go_ret; exact ⟨rfl, HB3.out⟩)
end Go.Proofs.YteoddpdjhkbaiaaDoor
