/- ParseUint, both sides; the law FnExactParseUint returns true where the library's listed variables read as their text lays them. -/
import Derived.Test.YteoddpdjhkbaiaaDoorYf
import Derived.Lib.AtoiTie
set_option linter.unusedSimpArgs false
set_option linter.unusedVariables false
set_option maxRecDepth 100000
namespace Go.Proofs.YteoddpdjhkbaiaaDoor
open Go.RowKit

theorem decFrom_snoc (l : List UInt8) (b : UInt8) (a : Nat) : Lib.decFrom a (l ++ [b]) = (Lib.decFrom a l).bind (fun n => (Lib.digitVal b).map (fun d => n * 10 + d)) := by
  induction l generalizing a with
  | nil =>
    simp only [List.nil_append, Lib.decFrom, Option.bind_some]
    cases Lib.digitVal b <;> rfl
  | cons c l ih =>
    simp only [List.cons_append, Lib.decFrom]
    cases Lib.digitVal c with
    | none => rfl
    | some d => exact ih _
theorem decFrom_bad {l : List UInt8} {k : Nat} {b : UInt8} (h : l[k]? = some b) (hb : Lib.digitVal b = none) (a : Nat) : Lib.decFrom a l = none := by
  induction l generalizing k a with
  | nil => simp at h
  | cons c l ih =>
    cases k with
    | zero =>
      simp at h
      subst h
      simp [Lib.decFrom, hb]
    | succ k =>
      simp only [Lib.decFrom]
      cases Lib.digitVal c with
      | none => rfl
      | some d => exact ih (by simpa using h) _
theorem digitVal_of {x : Nat} (h : x < 10) : Lib.digitVal (UInt8.ofNat (48 + x)) = some x := by
  unfold Lib.digitVal
  rw [UInt8.toNat_ofNat_of_lt' (by show _ < 256; omega), if_pos (by omega)]
  congr 1; omega
theorem decFrom_digits (m : Nat) : Lib.decFrom 0 (Lib.decDigits m) = some m := by
  induction m using Nat.strongRecOn with
  | _ m ih =>
    rw [Lib.decDigits]
    by_cases h10 : m < 10
    · rw [dif_pos h10]
      show (match Lib.digitVal (UInt8.ofNat (48 + m)) with | some d => Lib.decFrom (0 * 10 + d) [] | none => none) = some m
      rw [digitVal_of h10]
      simp [Lib.decFrom]
    · rw [dif_neg h10, decFrom_snoc, ih (m / 10) (by omega), Option.bind_some, digitVal_of (by omega)]
      simp; omega
theorem decDigits_len (k m : Nat) (h : m < 10 ^ (k + 1)) : (Lib.decDigits m).length ≤ k + 1 := by
  induction k generalizing m with
  | zero =>
    rw [Lib.decDigits, dif_pos (by omega)]; exact Nat.le_refl _
  | succ k ih =>
    rw [Lib.decDigits]
    by_cases h10 : m < 10
    · rw [dif_pos h10]; simp
    · rw [dif_neg h10, List.length_append]
      have := ih (m / 10) (by rw [Nat.pow_succ] at h; omega)
      simp; omega
/-- s is the text of the number m, which is not too great -/
def pOk (s : ByteArray) (m : Nat) : Prop := m ≤ 1000000000 ∧ itoaS m = s
theorem pOk_list {s : ByteArray} {m : Nat} (h : pOk s m) : s.data.toList = Lib.decDigits m := by
  rw [← h.2]
  unfold itoaS Lib.itoa
  rw [if_neg (by omega), Int.toNat_natCast]
theorem pOk_dec {s : ByteArray} {m : Nat} (h : pOk s m) : Lib.decFrom 0 s.data.toList = some m := by rw [pOk_list h, decFrom_digits]
theorem pOk_size {s : ByteArray} {m : Nat} (h : pOk s m) : s.size ≤ 10 := by
  have h1 := decDigits_len 9 m (by have := h.1; omega)
  rw [← pOk_list h] at h1
  simpa using h1
theorem pOk_atoi {s : ByteArray} {m : Nat} (h : pOk s m) : Lib.atoiAll s.data.toList = .ok (m : Int) := by
  have hs := pOk_size h
  rw [Lib.atoiAll_short _ (by simp; omega)]
  have hd := pOk_dec h
  have hne : s.data.toList ≠ [] := by
    rw [pOk_list h, Lib.decDigits]
    split <;> simp
  cases hl : s.data.toList with
  | nil => exact absurd hl hne
  | cons b r =>
    rw [hl] at hd
    have hb : Lib.digitVal b ≠ none := fun e => by simp [Lib.decFrom, e] at hd
    have h45 : (b == 45) = false := by
      rw [beq_eq_false_iff_ne]; intro e; subst e; exact hb (by decide)
    have h43 : (b == 43) = false := by
      rw [beq_eq_false_iff_ne]; intro e; subst e; exact hb (by decide)
    unfold Lib.atoi
    dsimp only
    rw [h45, h43]
    simp only [Bool.false_eq_true, if_false]
    rw [Lib.decNat, if_neg (by simp), hd]
    rfl
theorem pOk_inj {s : ByteArray} {m k : Nat} (h : pOk s m) (h' : pOk s k) : m = k := by
  have := pOk_dec h
  rw [pOk_dec h'] at this
  exact (Option.some.inj this).symm
open Classical in
noncomputable def puB (s : ByteArray) : Bool := decide (∃ m, pOk s m)
open Classical in
noncomputable def puV (s : ByteArray) : Int := if h : ∃ m, pOk s m then (Classical.choose h : Nat) else 0
theorem pu_t {s : ByteArray} {m : Nat} (h : pOk s m) : Value.tuple #[.int .i64 (puV s), .bool (puB s)] = .tuple #[.int .i64 m, .bool true] := by
  have h1 : puB s = true := by unfold puB; exact @decide_eq_true _ (_) ⟨m, h⟩
  have h2 : puV s = m := by
    unfold puV
    rw [dif_pos ⟨m, h⟩, pOk_inj (Classical.choose_spec (⟨m, h⟩ : ∃ m, pOk s m)) h]
  rw [h1, h2]
theorem pu_f {s : ByteArray} (h : ∀ m, ¬ pOk s m) : Value.tuple #[.int .i64 (puV s), .bool (puB s)] = .tuple #[.int .i64 0, .bool false] := by
  have h0 : ¬ ∃ m, pOk s m := fun ⟨m, hm⟩ => h m hm
  have h1 : puB s = false := by unfold puB; exact @decide_eq_false _ (_) h0
  have h2 : puV s = 0 := by unfold puV; rw [dif_neg h0]
  rw [h1, h2]
theorem str_ne {t s : ByteArray} (h : t ≠ s) : (!t.toList == s.toList) = true := by
  rw [ByteArray.toList_eq, ByteArray.toList_eq]
  simp only [Bool.not_eq_true', beq_eq_false_iff_ne]
  intro e
  exact h (WideShapes.bytes_inj e)
theorem bt_some {s : ByteArray} {k : Nat} (h : k < s.size) : s.data.toList[k]? = some s[k] := by
  rw [List.getElem?_eq_getElem (by simpa using h)]; rfl

set_option maxHeartbeats 400000 in
theorem spec_ParseUint_no (s : ByteArray) (w : World) (h : 10 < s.size) (hs : s.size ≤ maxLen) :
    Calls Tryd.prog 11 #[.string s] w fun e w' => e = .returned (.tuple #[.int .i64 (puV s), .bool (puB s)]) ∧ Below w.heap.size w w' := by
  unfold maxLen at hs
  rw [pu_f (fun m hm => by have := pOk_size hm; omega)]
  have h1 : (10 : Int) < (s.size : Int) := by omega
  go_enter Tryd.func11, Tryd.ntmps11
  go_wp2
  go_ret2
  exact ⟨rfl, Below.refl _ _⟩
set_option maxRecDepth 100000 in
set_option maxHeartbeats 2000000 in
theorem spec_ParseUint_yes (s : ByteArray) (w : World) (hs : s.size ≤ 10) :
    Calls Tryd.prog 11 #[.string s] w fun e w' => e = .returned (.tuple #[.int .i64 (puV s), .bool (puB s)]) ∧ Below w.heap.size w w' := by
  go_enter Tryd.func11, Tryd.ntmps11
  go_wp2
  go_loopw [4, 5] (fun v i wr => ∃ (k acc : Nat), k ≤ s.size ∧ acc ≤ 9999999999 ∧ i = .int .i64 k ∧ v = .int .i64 acc ∧ Hid (Lib.decFrom 0 (s.data.toList.take k) = some acc) ∧ Hid (acc < 10 ^ k) ∧ Hid (Below w.heap.size w wr)) (fun _ i _ => s.size - (intOf i).toNat)
  case atStart => exact ⟨0, 0, by omega, by omega, rfl, rfl, rfl, (by show 0 < 10 ^ 0; omega), Below.refl _ _⟩
  case round =>
    obtain ⟨k, acc, hk, hacc, rfl, rfl, hd, hp, hb⟩ := hrel
    by_cases hlt : k < s.size
    · have hb0 : s[k].toNat < 256 := s[k].toNat_lt
      by_cases hdig : 48 ≤ s[k].toNat ∧ s[k].toNat ≤ 57
      · have HV := Lib.hid (show Lib.digitVal s[k] = some (s[k].toNat - 48) by unfold Lib.digitVal; rw [if_pos hdig])
        obtain ⟨g0, g1⟩ := hdig
        have d1 : ¬ (s[k].toNat : Int) < 48 := by omega
        have d2 : ¬ (57 : Int) < (s[k].toNat : Int) := by omega
        have HD := Lib.hid (Lib.decFrom_take _ k 0 acc _ _ hd.out (bt_some hlt) HV.out)
        have HP := Lib.hid (show acc * 10 + (s[k].toNat - 48) < 10 ^ (k + 1) by have := hp.out; rw [Nat.pow_succ]; omega)
        have HA := Lib.hid (show acc * 10 + (s[k].toNat - 48) ≤ 9999999999 by
          have h1 := HP.out
          have h2 : 10 ^ (k + 1) ≤ 10 ^ 10 := Nat.pow_le_pow_right (by decide) (by omega)
          omega)
        go_wp2
        go_roundw
        case rel => exact ⟨k + 1, acc * 10 + (s[k].toNat - 48), by omega, HA.out, by go_num, by rw [show ((acc * 10 + (s[k].toNat - 48) : Nat) : Int) = 10 * (acc : Int) + (s[k].toNat : Int) - 48 by omega], HD.out, HP.out, hb.out⟩
        case measure => simp [intOf]; omega
      · have HN := Lib.hid (pu_f (s := s) (fun m hm => by
          have h1 := pOk_dec hm
          rw [decFrom_bad (bt_some hlt) (by unfold Lib.digitVal; rw [if_neg hdig])] at h1
          cases h1))
        by_cases hl : s[k].toNat < 48
        · have d1 : (s[k].toNat : Int) < 48 := by omega
          clear hdig
          go_wp2
          go_ret2
          exact ⟨by rw [HN.out]; rfl, hb.out⟩
        · have d1 : ¬ (s[k].toNat : Int) < 48 := by omega
          have d2 : (57 : Int) < (s[k].toNat : Int) := by omega
          clear hdig
          go_wp2
          go_ret2
          exact ⟨by rw [HN.out]; rfl, hb.out⟩
    · obtain rfl : k = s.size := by omega
      have HD := Lib.hid (show Lib.decFrom 0 s.data.toList = some acc by have h := hd.out; rwa [List.take_of_length_le (by simp)] at h)
      by_cases hbig : 1000000000 < acc
      · have HN := Lib.hid (pu_f (s := s) (fun m hm => by
          have h1 := pOk_dec hm
          rw [HD.out] at h1
          have := hm.1
          have := Option.some.inj h1
          omega))
        have d1 : (1000000000 : Int) < (acc : Int) := by omega
        go_wp2
        go_ret2
        exact ⟨by rw [HN.out]; rfl, hb.out⟩
      · have d1 : ¬ (1000000000 : Int) < (acc : Int) := by omega
        have HI := Lib.hid (show I64r (acc : Int) from ⟨by omega, by omega⟩)
        obtain ⟨t, ht⟩ : ∃ t, t = itoaS (acc : Int) := ⟨_, rfl⟩
        go_wp2_with fail
        refine (spec_FormatInt _ _ HI).mono ?_
        rintro e w2 ⟨rfl, hb2⟩
        rw [← ht]
        have HB2 := Lib.hid (hb.out.trans (hb2.mono hb.out.size))
        clear hb2
        by_cases he : t = s
        · have HN := Lib.hid (pu_t (s := s) (m := acc) ⟨by omega, by rw [← ht, he]⟩)
          clear ht
          subst he
          go_wp2
          go_ret2
          exact ⟨by rw [HN.out]; rfl, HB2.out⟩
        · have HN := Lib.hid (pu_f (s := s) (fun m hm => by
            have h1 := pOk_dec hm
            rw [HD.out] at h1
            have h2 := Option.some.inj h1
            subst h2
            exact he (ht.trans hm.2)))
          clear ht
          have q := str_ne he
          go_wp2
          go_ret2
          exact ⟨by rw [HN.out]; rfl, HB2.out⟩
theorem spec_ParseUint (s : ByteArray) (w : World) (hs : s.size ≤ maxLen) :
    Calls Tryd.prog 11 #[.string s] w fun e w' => e = .returned (.tuple #[.int .i64 (puV s), .bool (puB s)]) ∧ Below w.heap.size w w' := by
  by_cases h : 10 < s.size
  · exact spec_ParseUint_no s w h hs
  · exact spec_ParseUint_yes s w (by omega)

/-- the library's two errors hold an error each -/
def Errs (w : World) : Prop := ∃ (a b : TypeId) (p q : Value), w.var? Tryd.prog "strconv.ErrSyntax" = some #[.iface a p] ∧ w.var? Tryd.prog "strconv.ErrRange" = some #[.iface b q]
theorem errs_global : (∃ g, Tryd.prog.globalNamed "strconv.ErrSyntax" = some g) ∧ ∃ g, Tryd.prog.globalNamed "strconv.ErrRange" = some g := ⟨Option.isSome_iff_exists.1 (by kernel_rfl), Option.isSome_iff_exists.1 (by kernel_rfl)⟩
theorem Errs.below {w w' : World} {B : Nat} (h : Errs w) (hb : Below B w w') (hB : w.heap.size ≤ B) : Errs w' := by
  obtain ⟨⟨g, hg⟩, ⟨k, hk⟩⟩ := errs_global
  obtain ⟨a, b, p, q, h1, h2⟩ := h
  exact ⟨a, b, p, q, Joins.var_stays hg h1 hb hB, Joins.var_stays hk h2 hb hB⟩
/-- what the library's Atoi hands back, in short -/
theorem atoi_short (s : ByteArray) (w : World) (hs : s.size ≤ 10) (h : Errs w) :
    Calls Tryd.prog 38 #[.string s] w fun e w' => ((∃ v : Int, Lib.atoiAll s.data.toList = .ok v ∧ e = .returned (.tuple #[.int .i64 v, .nilIface])) ∨ ((∀ v, Lib.atoiAll s.data.toList ≠ .ok v) ∧ ∃ (v : Int) (t : TypeId) (p : Value), e = .returned (.tuple #[.int .i64 v, .iface t p]))) ∧ Below w.heap.size w w' := by
  obtain ⟨a, b, p, q, h1, h2⟩ := h
  have hlim : s.size ≤ 281474976710656 := by omega
  rcases ha : Lib.atoiAll s.data.toList with v | _ | _
  · refine (Tryd.strconv_Atoi_ok s (by omega) v ha w).mono ?_
    rintro e w' ⟨he, hw⟩
    refine ⟨.inl ⟨v, rfl, he⟩, ?_⟩
    rcases hw with rfl | ⟨t, rfl⟩
    · exact Below.refl _ _
    · exact Joins.below_bytesWorld _ _ _ _ (Nat.le_refl _)
  · refine (Any.strconv_Atoi_syntax_var Tryd.laysC172 s hlim ha a p w h1).mono ?_
    rintro e w' ⟨N, he, _, _, hb⟩
    exact ⟨.inr ⟨(fun v hv => by cases hv), _, _, _, he⟩, hb⟩
  · refine (Any.strconv_Atoi_range_var Tryd.laysC172 s hlim ha b q w h2).mono ?_
    rintro e w' ⟨N, he, _, _, hb⟩
    exact ⟨.inr ⟨(fun v hv => by cases hv), _, _, _, he⟩, hb⟩
set_option maxHeartbeats 400000 in
theorem impl_ParseUint_no (s : ByteArray) (w : World) (h : 10 < s.size) (hs : s.size ≤ maxLen) :
    Calls Tryd.prog 12 #[.string s] w fun e w' => e = .returned (.tuple #[.int .i64 (puV s), .bool (puB s)]) ∧ Below w.heap.size w w' := by
  unfold maxLen at hs
  rw [pu_f (fun m hm => by have := pOk_size hm; omega)]
  have h1 : (10 : Int) < (s.size : Int) := by omega
  go_enter Tryd.func12, Tryd.ntmps12
  go_wp2
  go_ret2
  exact ⟨rfl, Below.refl _ _⟩
set_option maxHeartbeats 1000000 in
theorem impl_ParseUint_yes (s : ByteArray) (w : World) (hs : s.size ≤ 10) (ht : Hid (Pow w)) (he : Hid (Errs w)) :
    Calls Tryd.prog 12 #[.string s] w fun e w' => e = .returned (.tuple #[.int .i64 (puV s), .bool (puB s)]) ∧ Below w.heap.size w w' := by
  go_enter Tryd.func12, Tryd.ntmps12
  go_wp2_with fail
  refine (atoi_short _ _ hs he.out).mono ?_
  rintro e w1 ⟨(⟨v, hv, rfl⟩ | ⟨hv, v, t, p, rfl⟩), hb1⟩
  · have HB1 := Lib.hid hb1
    have HV := Lib.hid hv
    clear hb1 hv
    by_cases hin : 0 ≤ v ∧ v ≤ 1000000000
    · obtain ⟨v0, v1⟩ := hin
      have q1 : inB v 0 1000000000 = true := inB_t v0 v1
      obtain ⟨m, rfl⟩ := Int.eq_ofNat_of_zero_le v0
      have HI := Lib.hid (show I64r (m : Int) from ⟨by omega, by omega⟩)
      obtain ⟨u, hu⟩ : ∃ u, u = itoaS (m : Int) := ⟨_, rfl⟩
      go_wp2_with fail
      refine (impl_within _ _ _ _).mono ?_
      rintro e w2 ⟨rfl, rfl⟩
      go_wp2_with fail
      refine (impl_FormatInt _ _ HI (Lib.hid (ht.out.next HB1.out))).mono ?_
      rintro e w2 ⟨rfl, hb2⟩
      rw [← hu]
      have HB2 := Lib.hid (HB1.out.trans (hb2.mono HB1.out.size))
      clear hb2
      by_cases hes : u = s
      · have HN := Lib.hid (pu_t (s := s) (m := m) ⟨by omega, by rw [← hu, hes]⟩)
        clear hu
        subst hes
        go_wp2
        go_ret2
        exact ⟨by rw [HN.out]; rfl, HB2.out⟩
      · have HN := Lib.hid (pu_f (s := s) (fun k hk => by
          have h1 := pOk_atoi hk
          rw [HV.out] at h1
          injection h1 with h2
          rw [h2] at hu
          exact hes (hu.trans hk.2)))
        clear hu
        have q := str_ne hes
        go_wp2
        go_ret2
        exact ⟨by rw [HN.out]; rfl, HB2.out⟩
    · have q1 : inB v 0 1000000000 = false := by
        simp only [inB, decide_eq_false_iff_not]; exact hin
      have HN := Lib.hid (pu_f (s := s) (fun k hk => by
        have h1 := pOk_atoi hk
        rw [HV.out] at h1
        injection h1 with h2
        have := hk.1
        exact hin ⟨by omega, by omega⟩))
      clear hin
      go_wp2_with fail
      refine (impl_within _ _ _ _).mono ?_
      rintro e w2 ⟨rfl, rfl⟩
      go_wp2
      go_ret2
      exact ⟨by rw [HN.out]; rfl, HB1.out⟩
  · have HB1 := Lib.hid hb1
    have HN := Lib.hid (pu_f (s := s) (fun k hk => hv _ (pOk_atoi hk)))
    clear hb1 hv
    go_wp2
    go_ret2
    exact ⟨by rw [HN.out]; rfl, HB1.out⟩
theorem impl_ParseUint (s : ByteArray) (w : World) (hs : s.size ≤ maxLen) (ht : Hid (Pow w)) (he : Hid (Errs w)) :
    Calls Tryd.prog 12 #[.string s] w fun e w' => e = .returned (.tuple #[.int .i64 (puV s), .bool (puB s)]) ∧ Below w.heap.size w w' := by
  by_cases h : 10 < s.size
  · exact impl_ParseUint_no s w h hs
  · exact impl_ParseUint_yes s w (by omega) ht he

set_option maxHeartbeats 1000000 in
theorem walk_FnExactParseUint (s : ByteArray) (w : World) (hs : s.size ≤ maxLen) (ht : Pow w) (he : Errs w) :
    Calls Tryd.prog 3 #[.string s] w fun e w' => e = .returned (.bool true) ∧ Below w.heap.size w w' := by
  have HM := Lib.hid hs
  have HT := Lib.hid ht
  have HE := Lib.hid he
  clear ht he
  unfold maxLen at hs
  by_cases hbig : 1048576 < s.size
  · have h1 : (1048576 : Int) < (s.size : Int) := by omega
    go_enter Tryd.func3, Tryd.ntmps3
    go_wp2
    go_ret
    exact ⟨rfl, Below.refl _ _⟩
  · have h1 : ¬ (1048576 : Int) < (s.size : Int) := by omega
    obtain ⟨t, ht⟩ : ∃ t, t = puV s := ⟨_, rfl⟩
    have HV := Lib.hid ht
    clear ht
    obtain ⟨b, hb⟩ : ∃ b, b = puB s := ⟨_, rfl⟩
    have HB := Lib.hid hb
    clear hb
    go_enter Tryd.func3, Tryd.ntmps3
    go_wp2_with fail
    refine (spec_ParseUint _ _ HM.out).mono ?_
    rintro e w1 ⟨rfl, hb1⟩
    rw [← HV.out, ← HB.out]
    have HB1 := Lib.hid hb1
    clear hb1
    go_wp2_with fail
    refine (impl_ParseUint _ _ HM.out (Lib.hid (HT.out.next HB1.out)) (Lib.hid (HE.out.below HB1.out (Nat.le_refl _)))).mono ?_
    rintro e w2 ⟨rfl, hb2⟩
    rw [← HV.out, ← HB.out]
    have HB2 := Lib.hid (HB1.out.trans (hb2.mono HB1.out.size))
    clear hb2
    have q : (b != b) = false := by simp
    have q2 : (t != t) = false := by simp
    go_wp2
    go_ret
    exact ⟨rfl, HB2.out⟩
end Go.Proofs.YteoddpdjhkbaiaaDoor
