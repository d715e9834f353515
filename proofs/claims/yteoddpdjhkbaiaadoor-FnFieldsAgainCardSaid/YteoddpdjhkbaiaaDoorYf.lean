/- FormatInt, both sides; the law FnExactFormatInt returns true where the library's table of powers reads as its text lays it. -/
import Derived.Test.YteoddpdjhkbaiaaDoorYg
import Derived.Test.YteoddpdjhkbaiaaDoorSh
import Derived.Test.YteoddpdjhkbaiaaDoorR0
import Derived.OpenShut
import Derived.Lib.SmallJoins
import Derived.Lib.AppendIntMem
set_option linter.unusedSimpArgs false
set_option linter.unusedVariables false
set_option maxRecDepth 100000
namespace Go.Proofs.YteoddpdjhkbaiaaDoor
open Go.RowKit

/-- the decimal text of a number -/
def itoaS (n : Int) : ByteArray := ⟨(Lib.itoa n).toArray⟩
/-- the library's table of powers of ten, as the program's text lays it -/
def Pow (w : World) : Prop := Lib.TabIs Tryd.prog w "internal/strconv.uint64pow10" .u64 Lib.pow10Tab
theorem pow_global : ∃ g, Tryd.prog.globalNamed "internal/strconv.uint64pow10" = some g := Option.isSome_iff_exists.1 (by kernel_rfl)
theorem Pow.below {w w' : World} {B : Nat} (h : Pow w) (hb : Below B w w') (hB : w.heap.size ≤ B) : Pow w' := by
  obtain ⟨g, hg⟩ := pow_global
  exact Joins.tab_stays hg h hb hB
theorem Pow.next {w w' : World} (h : Pow w) (hb : Below w.heap.size w w') : Pow w' := h.below hb (Nat.le_refl _)
def I64r (n : Int) : Prop := -9223372036854775808 ≤ n ∧ n ≤ 9223372036854775807
theorem dec_mdig (k : Nat) (out : ByteArray) (h : 0 < k) : mdig k out = bstr (Lib.decDigits k) ++ out := by
  induction k using Nat.strongRecOn generalizing out with
  | _ k ih =>
    rw [mdig_pos h, Lib.decDigits]
    by_cases h10 : k < 10
    · rw [dif_pos h10, show k / 10 = 0 by omega, mdig_zero]
      unfold digS
      rw [Nat.mod_eq_of_lt h10]
    · rw [dif_neg h10, ih (k / 10) (by omega) _ (by omega)]
      unfold digS bstr
      apply ByteArray.ext
      simp
theorem app_empty (a : ByteArray) : a ++ ByteArray.empty = a := by
  apply ByteArray.ext
  simp
theorem itoa_zero : itoaS 0 = ⟨#[48]⟩ := by unfold itoaS; rw [show Lib.itoa 0 = [48] by unfold Lib.itoa Lib.decDigits; rfl]
theorem itoa_pos {k : Nat} (h : 0 < k) : itoaS k = mdig k ByteArray.empty := by
  rw [dec_mdig k _ h, app_empty]
  unfold itoaS Lib.itoa bstr
  rw [if_neg (by omega), Int.toNat_natCast]
theorem itoa_neg {k : Nat} (h : 0 < k) : itoaS (-(k : Int)) = ⟨#[45]⟩ ++ mdig k ByteArray.empty := by
  rw [dec_mdig k _ h, app_empty]
  unfold itoaS Lib.itoa bstr
  rw [if_pos (by omega), show (-(k : Int)).natAbs = k by omega]
  apply ByteArray.ext
  simp

theorem pow_small {z : Nat} (h : 10 ^ z ≤ 9223372036854775808) : z ≤ 18 := by
  rcases Nat.lt_or_ge z 19 with h1 | h1
  · omega
  · have h2 : 10 ^ 19 ≤ 10 ^ z := Nat.pow_le_pow_right (by decide) h1
    have h3 : (10 : Nat) ^ 19 = 10000000000000000000 := by decide
    omega
theorem size_small {k m z : Nat} (hk : 0 < k) (h : k * 10 ^ z ≤ m) (hm : I64r m) : z ≤ 18 := by
  have h2 : 10 ^ z ≤ k * 10 ^ z := Nat.le_mul_of_pos_left _ hk
  have h3 := hm.2
  exact pow_small (by omega)
theorem size_smallN {k m z : Nat} (hk : 0 < k) (h : k * 10 ^ z ≤ m) (hm : I64r (-(m : Int))) : z ≤ 18 := by
  have h2 : 10 ^ z ≤ k * 10 ^ z := Nat.le_mul_of_pos_left _ hk
  have h3 := hm.1
  exact pow_small (by omega)
set_option maxHeartbeats 400000 in
theorem impl_FormatInt (n : Int) (w : World) (h : Hid (I64r n)) (ht : Hid (Pow w)) :
    Calls Tryd.prog 14 #[.int .i64 n] w fun e w' => e = .returned (.string (itoaS n)) ∧ Below w.heap.size w w' := by
  go_enter Tryd.func14, Tryd.ntmps14
  go_wp2_with fail
  refine (Tryd.strconv_Itoa n h.out.1 h.out.2 w ht.out).mono ?_
  rintro e w' ⟨rfl, k, os, rfl⟩
  have HB := Lib.hid (Lib.below_grow w.heap.size w (Nat.le_refl _) k os)
  generalize Sort.grow (w.drewN k) os = w2 at HB
  go_wp2
  go_ret
  exact ⟨rfl, HB.out⟩

set_option maxRecDepth 100000 in
set_option maxHeartbeats 1000000 in
theorem spec_FormatInt_pos (m : Nat) (w : World) (h0 : 0 < m) (h : Hid (I64r m)) :
    Calls Tryd.prog 13 #[.int .i64 m] w fun e w' => e = .returned (.string (itoaS m)) ∧ Below w.heap.size w w' := by
  have q0 : ((m : Int) == 0) = false := by rw [beq_eq_false_iff_ne]; omega
  have q1 : ¬ (m : Int) < 0 := by omega
  go_enter Tryd.func13, Tryd.ntmps13
  go_wp2
  clear q0
  go_loopw [0, 4, 5] (fun v o d wr => ∃ (k : Nat) (out : ByteArray), k ≤ m ∧ v = .int .i64 k ∧ o = .string out ∧ Hid (mdig k out = mdig m ByteArray.empty) ∧ out.size ≤ 19 ∧ Hid (k * 10 ^ out.size ≤ m) ∧ Hid (Below w.heap.size w wr)) (fun v _ _ _ => (intOf v).toNat)
  case atStart => exact ⟨m, ByteArray.empty, Nat.le_refl _, rfl, rfl, rfl, by decide, (by show m * 10 ^ 0 ≤ m; omega), Below.refl _ _⟩
  case round =>
    obtain ⟨k, out, hk, rfl, rfl, hm, hsz, hpw, hb⟩ := hrel
    by_cases hlt : 0 < k
    · have q0 : ((k : Int) != 0) = true := by rw [bne_iff_ne]; omega
      go_wp2_with fail
      refine (spec_l01Figure _ _ (by omega) (by omega)).mono ?_
      rintro e w2 ⟨rfl, rfl⟩
      rw [show ((k : Int) % 10).toNat = k % 10 by omega]
      have hconv := one_byteS w2 (fig (k % 10))
      rw [fig_dig] at hconv
      have hd := digS_size k
      have hs18 : out.size ≤ 18 := size_small hlt hpw.out h.out
      have HM := Lib.hid (show mdig (k / 10) (digS k ++ out) = mdig m ByteArray.empty by rw [← hm.out, mdig_pos hlt])
      have HPW := Lib.hid (show k / 10 * 10 ^ (digS k ++ out).size ≤ m by
        rw [app_size, hd, Nat.pow_add, ← Nat.mul_assoc]
        exact Nat.le_trans (Nat.mul_le_mul_right _ (by omega)) hpw.out)
      have HS := Lib.hid (show (digS k ++ out).size ≤ 19 by rw [app_size, hd]; omega)
      have hlen : ¬ 9223372036854775807 < (digS k).size + out.size := by omega
      have i1 : wrap64 ((k : Int) / 10) = (k : Int) / 10 := IntWalk.wrap64_in _ (by have := h.out.2; omega)
      go_wp2
      go_roundw
      case rel => exact ⟨k / 10, _, by omega, by rw [i1]; go_num, rfl, HM.out, HS.out, HPW.out, hb.out.alloc hb.out.size _⟩
      case measure => (rw [i1]; simp [intOf]; omega)
    · obtain rfl : k = 0 := by omega
      have HM := Lib.hid (show out = itoaS m by rw [itoa_pos h0, ← hm.out, mdig_zero])
      go_wp2
      go_ret
      exact ⟨by rw [← HM.out]; rfl, hb.out⟩
set_option maxRecDepth 100000 in
set_option maxHeartbeats 1000000 in
theorem spec_FormatInt_neg (m : Nat) (w : World) (h0 : 0 < m) (h : Hid (I64r (-(m : Int)))) :
    Calls Tryd.prog 13 #[.int .i64 (-(m : Int))] w fun e w' => e = .returned (.string (itoaS (-(m : Int)))) ∧ Below w.heap.size w w' := by
  have q0 : ((-(m : Int)) == 0) = false := by rw [beq_eq_false_iff_ne]; omega
  have q1 : -(m : Int) < 0 := by omega
  go_enter Tryd.func13, Tryd.ntmps13
  go_wp2
  clear q0
  go_loopw [0, 4, 5] (fun v o d wr => ∃ (k : Nat) (out : ByteArray), k ≤ m ∧ v = .int .i64 (-(k : Int)) ∧ o = .string out ∧ Hid (mdig k out = mdig m ByteArray.empty) ∧ out.size ≤ 19 ∧ Hid (k * 10 ^ out.size ≤ m) ∧ Hid (Below w.heap.size w wr)) (fun v _ _ _ => (- intOf v).toNat)
  case atStart => exact ⟨m, ByteArray.empty, Nat.le_refl _, rfl, rfl, rfl, by decide, (by show m * 10 ^ 0 ≤ m; omega), Below.refl _ _⟩
  case round =>
    obtain ⟨k, out, hk, rfl, rfl, hm, hsz, hpw, hb⟩ := hrel
    by_cases hlt : 0 < k
    · have q0 : ((-(k : Int)) != 0) = true := by rw [bne_iff_ne]; omega
      have hd := digS_size k
      have hs18 : out.size ≤ 18 := size_smallN hlt hpw.out h.out
      have HM := Lib.hid (show mdig (k / 10) (digS k ++ out) = mdig m ByteArray.empty by rw [← hm.out, mdig_pos hlt])
      have HPW := Lib.hid (show k / 10 * 10 ^ (digS k ++ out).size ≤ m by
        rw [app_size, hd, Nat.pow_add, ← Nat.mul_assoc]
        exact Nat.le_trans (Nat.mul_le_mul_right _ (by omega)) hpw.out)
      have HS := Lib.hid (show (digS k ++ out).size ≤ 19 by rw [app_size, hd]; omega)
      have hlen : ¬ 9223372036854775807 < (digS k).size + out.size := by omega
      have i1 : wrap64 (-((k : Int) / 10)) = -((k : Int) / 10) := IntWalk.wrap64_in _ (by have := h.out.1; omega)
      by_cases hd0 : 0 < k % 10
      · have d0 : 0 < (k : Int) % 10 := by omega
        go_wp2_with fail
        refine (spec_l01Figure _ _ (by omega) (by omega)).mono ?_
        rintro e w2 ⟨rfl, rfl⟩
        rw [show ((k : Int) % 10).toNat = k % 10 by omega]
        have hconv := one_byteS w2 (fig (k % 10))
        rw [fig_dig] at hconv
        go_wp2
        go_roundw
        case rel => exact ⟨k / 10, _, by omega, by rw [i1]; go_num, rfl, HM.out, HS.out, HPW.out, hb.out.alloc hb.out.size _⟩
        case measure => simp [intOf, i1]; omega
      · have d0 : ¬ 0 < (k : Int) % 10 := by omega
        go_wp2_with fail
        refine (spec_l01Figure _ _ (by omega) (by omega)).mono ?_
        rintro e w2 ⟨rfl, rfl⟩
        rw [show (-((k : Int) % 10)).toNat = k % 10 by omega]
        have hconv := one_byteS w2 (fig (k % 10))
        rw [fig_dig] at hconv
        go_wp2
        go_roundw
        case rel => exact ⟨k / 10, _, by omega, by rw [i1]; go_num, rfl, HM.out, HS.out, HPW.out, hb.out.alloc hb.out.size _⟩
        case measure => simp [intOf, i1]; omega
    · obtain rfl : k = 0 := by omega
      have HM := Lib.hid (show ⟨#[45]⟩ ++ out = itoaS (-(m : Int)) by rw [itoa_neg h0, ← hm.out, mdig_zero])
      have hlen : ¬ 9223372036854775807 < (⟨#[45]⟩ : ByteArray).size + out.size := by show ¬ _ < 1 + _; omega
      go_wp2
      go_ret
      exact ⟨by rw [← HM.out]; rfl, hb.out⟩
theorem spec_FormatInt (n : Int) (w : World) (h : Hid (I64r n)) :
    Calls Tryd.prog 13 #[.int .i64 n] w fun e w' => e = .returned (.string (itoaS n)) ∧ Below w.heap.size w w' := by
  by_cases h0 : n = 0
  · subst h0
    have HE := Lib.hid itoa_zero
    go_enter Tryd.func13, Tryd.ntmps13
    go_wp2
    go_ret
    exact ⟨by rw [HE.out]; rfl, Below.refl _ _⟩
  · by_cases h1 : 0 < n
    · obtain ⟨m, rfl⟩ := Int.eq_ofNat_of_zero_le (show 0 ≤ n by omega)
      exact spec_FormatInt_pos m w (by omega) h
    · obtain ⟨m, hm⟩ := Int.eq_ofNat_of_zero_le (show 0 ≤ -n by omega)
      obtain rfl : n = -(m : Int) := by omega
      exact spec_FormatInt_neg m w (by omega) h

theorem I64r_of {n : Int} (h : I64 n) : I64r n := bounds_i64 h
set_option maxHeartbeats 1000000 in
theorem walk_FnExactFormatInt (n : Int) (w : World) (h : I64 n) (ht : Pow w) :
    Calls Tryd.prog 4 #[.int .i64 n] w fun e w' => e = .returned (.bool true) ∧ Below w.heap.size w w' := by
  have HI := Lib.hid (I64r_of h)
  have HT := Lib.hid ht
  obtain ⟨t, hts⟩ : ∃ t, t = itoaS n := ⟨_, rfl⟩
  have HTS := Lib.hid hts
  clear h ht hts
  go_enter Tryd.func4, Tryd.ntmps4
  go_wp2_with fail
  refine (spec_FormatInt _ _ HI).mono ?_
  rintro e w1 ⟨rfl, hb1⟩
  rw [← HTS.out]
  have HB1 := Lib.hid hb1
  clear hb1
  go_wp2_with fail
  refine (impl_FormatInt _ _ HI (Lib.hid (HT.out.next HB1.out))).mono ?_
  rintro e w2 ⟨rfl, hb2⟩
  rw [← HTS.out]
  have HB2 := Lib.hid (HB1.out.trans (hb2.mono HB1.out.size))
  clear hb2
  go_wp2
  go_ret
  exact ⟨rfl, HB2.out⟩
end Go.Proofs.YteoddpdjhkbaiaaDoor
