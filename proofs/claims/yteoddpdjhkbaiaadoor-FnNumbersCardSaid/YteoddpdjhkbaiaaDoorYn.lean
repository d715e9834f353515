/- The law FnNumbers returns true where the library's listed variables read as their text lays them. -/
import Derived.Test.YteoddpdjhkbaiaaDoorYp
import Derived.Test.YteoddpdjhkbaiaaDoorKn
import Derived.Test.YteoddpdjhkbaiaaDoorR3
set_option linter.unusedSimpArgs false
set_option linter.unusedVariables false
set_option maxRecDepth 100000
namespace Go.Proofs.YteoddpdjhkbaiaaDoor
open Go.RowKit

/-- a drawn number, behind a cursor of the call's own -/
def DrawnI (w : World) (P : Int → Prop) (e : Ending) (w' : World) : Prop := ∃ x : Int, P x ∧ e = .returned (.int .i64 x) ∧ Below w.heap.size w w'
theorem i64q_mul {x y : Int} (h0 : 0 ≤ x) (h1 : x < 1000000) (h2 : 0 ≤ y) (h3 : y < 2000000) : -1000000000000 ≤ x * (y - 1000000) ∧ x * (y - 1000000) ≤ 1000000000000 := by
  have a := Int.mul_le_mul_of_nonneg_left (show y - 1000000 ≤ 1000000 by omega) h0
  have b := Int.mul_le_mul_of_nonneg_left (show -1000000 ≤ y - 1000000 by omega) h0
  omega
set_option maxHeartbeats 1000000 in
theorem spec_DrawFormatInt (A : Option Addr) (n c : Nat) (w : World) (h : RdB w w.heap.size A n) :
    Calls Tryd.prog 16 #[.slice A n c] w (DrawnI w I64q) := by
  have H := Lib.hid h
  clear h
  go_enter Tryd.func16, Tryd.ntmps16
  go_wp2_with fail
  refine (spec_l01New _ _ _ _ _ (Nat.le_refl _) H.out).mono ?_
  rintro e w0 ⟨g, rfl, hg, hc, hb⟩
  have HC := Lib.hid hc
  have HB := Lib.hid hb
  clear hc hb
  go_wp2_with fail
  refine (spec_l01Once _ _ _ _ _ _ _ HC.out).mono ?_
  rintro e w1 ⟨b, rfl, hc1, hg1⟩
  have H1 := Lib.hid hc1
  have G1 := Lib.hid hg1
  clear hc1 hg1
  have KB : ∀ w', w0.grownBy w' (some g) → Below w.heap.size w w' := fun w' hg' => HB.out.grown hg' HB.out.size (fun k e => by cases e; exact hg)
  have HK := Lib.hid KB
  clear KB
  cases b with
  | true =>
    go_wp2_with fail
    refine (spec_l01Below _ _ _ _ _ _ _ H1.out).mono ?_
    rintro e w2 ⟨x, p_x, rfl, hc2, hg2⟩
    have H2 := Lib.hid hc2
    have G2 := Lib.hid (grown_tr G1.out hg2)
    clear hc2 hg2
    obtain ⟨l_x, u_x⟩ := p_x.2 (by omega)
    clear p_x
    go_wp2_with fail
    refine (spec_l01Below _ _ _ _ _ _ _ H2.out).mono ?_
    rintro e w3 ⟨y, p_y, rfl, hc3, hg3⟩
    have H3 := Lib.hid hc3
    have G3 := Lib.hid (grown_tr G2.out hg3)
    clear hc3 hg3
    obtain ⟨l_y, u_y⟩ := p_y.2 (by omega)
    clear p_y
    have hm := i64q_mul l_x u_x l_y u_y
    obtain ⟨z, hz⟩ : ∃ z, z = x * (y - 1000000) := ⟨_, rfl⟩
    rw [← hz] at hm
    have HZ := Lib.hid hz
    have e1 : wrap64 (x * (y - 1000000)) = z := by rw [← hz]; exact IntWalk.wrap64_in _ (by omega)
    clear hz
    go_wp2
    go_ret
    exact ⟨z, ⟨by omega, by omega⟩, ret_int e1, HK.out _ G3.out⟩
  | false =>
    go_wp2_with fail
    refine (spec_l01Number _ _ _ _ _ _ H1.out).mono ?_
    rintro e w2 ⟨x, px, rfl, hc2, hg2⟩
    have HP := Lib.hid px
    have G2 := Lib.hid (grown_tr G1.out hg2)
    clear px hc2 hg2
    go_wp2
    go_ret
    exact ⟨x, HP.out, rfl, HK.out _ G2.out⟩

theorem dec_head {m : Nat} {l : List UInt8} (h : Lib.decDigits m = 45 :: l) : False := by
  have h1 := decFrom_digits m
  rw [h] at h1
  have h2 : Lib.digitVal 45 = none := by decide
  simp [Lib.decFrom, h2] at h1
theorem itoa_list {n : Int} (h : 0 ≤ n) : (itoaS n).data.toList = Lib.decDigits n.toNat := by
  unfold itoaS Lib.itoa
  rw [if_neg (by omega)]
theorem itoa_listN {n : Int} (h : n < 0) : (itoaS n).data.toList = 45 :: Lib.decDigits n.natAbs := by
  unfold itoaS Lib.itoa
  rw [if_pos h]
theorem dec_ne (m : Nat) : Lib.decDigits m ≠ [] := by rw [Lib.decDigits]; split <;> simp
theorem itoa_ne (n : Int) : (itoaS n).data.toList ≠ [] := by
  by_cases h : 0 ≤ n
  · rw [itoa_list h]; exact dec_ne _
  · rw [itoa_listN (by omega)]; simp
theorem itoa_out {n : Int} (h : n < 0 ∨ 1000000000 < n) : ∀ m, ¬ pOk (itoaS n) m := by
  intro m hm
  have h1 := pOk_list hm
  by_cases h0 : n < 0
  · rw [itoa_listN h0] at h1
    exact dec_head h1.symm
  · rw [itoa_list (by omega)] at h1
    have h2 := decFrom_digits n.toNat
    rw [h1, decFrom_digits] at h2
    have := Option.some.inj h2
    have := hm.1
    omega
theorem itoa_in {n : Int} (h0 : 0 ≤ n) (h1 : n ≤ 1000000000) : pOk (itoaS n) n.toNat := ⟨by omega, by rw [Int.toNat_of_nonneg h0]⟩
theorem dec_len20 {m : Nat} (h : m < 10 ^ 20) : (Lib.decDigits m).length ≤ 20 := decDigits_len 19 m h
theorem itoa_size {n : Int} (h : I64r n) : (itoaS n).size ≤ 21 := by
  have e : (itoaS n).size = (itoaS n).data.toList.length := by simp
  rw [e]
  have b : (10 : Nat) ^ 20 = 100000000000000000000 := by decide
  by_cases h0 : 0 ≤ n
  · rw [itoa_list h0]
    have := dec_len20 (m := n.toNat) (by rw [b]; have := h.2; omega)
    omega
  · rw [itoa_listN (by omega)]
    have := dec_len20 (m := n.natAbs) (by rw [b]; have := h.1; omega)
    simp; omega

set_option maxHeartbeats 1000000 in
theorem walk_FnNumbers (A : Option Addr) (n c : Nat) (w : World) (h : ArgB w A n) (ht : Pow w) (he : Errs w) :
    Calls Tryd.prog 5 #[.slice A n c] w fun e w' => e = .returned (.bool true) ∧ Below w.heap.size w w' := by
  have HA := Lib.hid h
  have HT := Lib.hid ht
  have HE := Lib.hid he
  clear h ht he
  by_cases hn : 1048576 < n
  · have E1 := Lib.hid (show decide (1048576 < n) = true by simpa using hn)
    go_enter Tryd.func5, Tryd.ntmps5
    go_wp2_with fail
    refine (laws_big _ _ _ _ HA.out.1).mono ?_
    rintro e w' ⟨rfl, rfl⟩
    rw [E1.out]
    go_wp2
    go_ret
    exact ⟨rfl, Below.refl _ _⟩
  · have E1 := Lib.hid (show decide (1048576 < n) = false by simpa using hn)
    go_enter Tryd.func5, Tryd.ntmps5
    go_wp2_with fail
    refine (laws_big _ _ _ _ HA.out.1).mono ?_
    rintro e w' ⟨rfl, rfl⟩
    rw [E1.out]
    go_wp2_with fail
    refine (spec_DrawFormatInt _ _ _ _ (HA.out.2 (by omega))).mono ?_
    rintro e w1 ⟨x, hx, rfl, hb1⟩
    have HX := Lib.hid (show I64r x from hx)
    have HB1 := Lib.hid hb1
    clear hx hb1
    go_wp2_with fail
    refine (impl_FormatInt _ _ HX (Lib.hid (HT.out.next HB1.out))).mono ?_
    rintro e w2 ⟨rfl, hb2⟩
    have HB2 := Lib.hid (HB1.out.trans (hb2.mono HB1.out.size))
    clear hb2
    go_wp2_with fail
    refine (impl_ParseUint _ _ (by have := itoa_size HX.out; unfold maxLen; omega) (Lib.hid (HT.out.next HB2.out)) (Lib.hid (HE.out.below HB2.out (Nat.le_refl _)))).mono ?_
    rintro e w3 ⟨rfl, hb3⟩
    have HB3 := Lib.hid (HB2.out.trans (hb3.mono HB2.out.size))
    clear hb3
    have hne := itoa_ne x
    rw [← ByteArray.toList_eq] at hne
    by_cases hin : 0 ≤ x ∧ x ≤ 1000000000
    · obtain ⟨m, hm⟩ := Int.eq_ofNat_of_zero_le hin.1
      rw [pu_t (itoa_in hin.1 hin.2), Int.toNat_of_nonneg hin.1]
      obtain ⟨x0, x1⟩ := hin
      obtain ⟨t, hts⟩ : ∃ t, t = itoaS x := ⟨_, rfl⟩
      rw [← hts] at hne
      simp only [← hts]
      clear hts hm
      have q1 : t.toList.isEmpty = false := by simpa using hne
      go_wp2
      go_ret
      exact ⟨rfl, HB3.out⟩
    · rw [pu_f (itoa_out (by omega))]
      obtain ⟨t, hts⟩ : ∃ t, t = itoaS x := ⟨_, rfl⟩
      rw [← hts] at hne
      simp only [← hts]
      clear hts
      have q1 : t.toList.isEmpty = false := by simpa using hne
      by_cases x0 : 0 ≤ x
      · have x1 : ¬ x ≤ 1000000000 := fun h => hin ⟨x0, h⟩
        clear hin
        go_wp2
        go_ret
        exact ⟨rfl, HB3.out⟩
      · clear hin
        go_wp2
        go_ret
        exact ⟨rfl, HB3.out⟩
end Go.Proofs.YteoddpdjhkbaiaaDoor
