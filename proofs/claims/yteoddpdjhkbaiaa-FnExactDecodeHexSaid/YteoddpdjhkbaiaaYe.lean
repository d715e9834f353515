/- EncodeHex, both sides. No condition. -/
import Derived.Test.YteoddpdjhkbaiaaY
import Derived.StillTailTactics
set_option linter.unusedSimpArgs false
set_option linter.unusedVariables false
set_option maxRecDepth 100000
namespace Go.Proofs.Yteoddpdjhkbaiaa
open Go.RowKit

/-- the sign of a figure -/
def fig (x : Nat) : UInt8 := UInt8.ofNat (if x < 10 then 48 + x else 87 + x)
theorem fig_nat {x : Nat} (h : x < 16) : ((fig x).toNat : Int) = if x < 10 then 48 + (x : Int) else 87 + x := by
  unfold fig
  rw [UInt8.toNat_ofNat_of_lt' (by show _ < 256; split <;> omega)]
  split <;> omega
def hex2 (b : UInt8) : List UInt8 := [fig (b.toNat / 16), fig (b.toNat % 16)]
def hexL (l : List UInt8) : List UInt8 := l.flatMap hex2
theorem hexL_len (l : List UInt8) : (hexL l).length = 2 * l.length := by
  induction l with
  | nil => rfl
  | cons b l ih => simp only [hexL, List.flatMap_cons, List.length_append, List.length_cons] at *; rw [ih]; simp [hex2]; omega
theorem take_snoc (s : ByteArray) (k : Nat) (h : k < s.size) : s.data.toList.take (k + 1) = s.data.toList.take k ++ [s[k]] := by
  rw [List.take_succ_eq_append_getElem (by simpa using h)]; rfl
theorem hexL_snoc (l : List UInt8) (b : UInt8) : hexL (l ++ [b]) = hexL l ++ hex2 b := by simp [hexL]

def hexDigits : ByteArray := ⟨#[48, 49, 50, 51, 52, 53, 54, 55, 56, 57, 97, 98, 99, 100, 101, 102]⟩
theorem hexDigits_at (x : Nat) (h : x < hexDigits.size) : hexDigits[x] = fig x := by
  have key : ∀ x : Fin 16, hexDigits[x.1]'(x.2) = fig x.1 := by decide
  exact key ⟨x, h⟩
theorem hex_cells (b : UInt8) (h1 : ((b.toNat : Int) / 16).toNat < hexDigits.size) (h2 : ((b.toNat : Int) % 16).toNat < hexDigits.size) : [Value.int .u8 ((hexDigits[((b.toNat : Int) / 16).toNat]'h1).toNat : Int), Value.int .u8 ((hexDigits[((b.toNat : Int) % 16).toNat]'h2).toNat : Int)] = (hex2 b).flatMap bval := by
  rw [hexDigits_at, hexDigits_at]; rfl
theorem and15 {b : Nat} (h : b < 256) : bits .and .u8 (b : Int) 15 = (b : Int) % 16 := by
  have key : ∀ b : Fin 256, bits .and .u8 (b.1 : Int) 15 = (b.1 : Int) % 16 := by decide
  exact key ⟨b, h⟩
set_option maxHeartbeats 400000 in
theorem spec_l01Figure (y : Int) (w : World) (h0 : 0 ≤ y) (h1 : y < 16) :
    Calls Try.prog 15 #[.int .i64 y] w fun e w' => e = .returned (.int .u8 ((fig y.toNat).toNat : Int)) ∧ w' = w := by
  obtain ⟨x, rfl⟩ := Int.eq_ofNat_of_zero_le h0
  have h : x < 16 := by omega
  rw [Int.toNat_natCast]
  have HF := Lib.hid (show ((fig x).toNat : Int) = if x < 10 then 48 + (x : Int) else 87 + x from fig_nat h)
  by_cases h10 : x < 10
  · have h2 : (x : Int) < 10 := by omega
    go_enter Try.func15, Try.ntmps15
    go_wp2
    go_ret
    have hf := HF.out
    rw [if_pos h10] at hf
    exact ⟨ret_int hf.symm, rfl⟩
  · have h2 : ¬ (x : Int) < 10 := by omega
    go_enter Try.func15, Try.ntmps15
    go_wp2
    go_ret
    have hf := HF.out
    rw [if_neg h10] at hf
    exact ⟨ret_int (by rw [hf]; omega), rfl⟩

set_option maxRecDepth 100000 in
set_option maxHeartbeats 1000000 in
theorem spec_EncodeHex_yes (s : ByteArray) (w : World) (hs : s.size ≤ 20000) :
    Calls Try.prog 6 #[.string s] w fun e w' => e = .returned (.tuple #[.string (bstr (hexL s.data.toList)), .bool true]) ∧ Below w.heap.size w w' := by
  go_enter Try.func6, Try.ntmps6
  go_wp2
  go_loopw [4, 5] (fun v i wr => ∃ (k c : Nat) (A : Option Addr), k ≤ s.size ∧ i = .int .i64 k ∧ v = .slice A (2 * k) c ∧ Hid (OwnY wr w.heap.size A (2 * k) c (hexL (s.data.toList.take k))) ∧ Hid (Below w.heap.size w wr)) (fun _ i _ => s.size - (intOf i).toNat)
  case atStart => exact ⟨0, 0, some ⟨w.heap.size, 0, none⟩, by omega, rfl, rfl, OwnG.empty (Nat.le_refl _), (Below.refl _ _).alloc (Nat.le_refl _) _⟩
  case round =>
    obtain ⟨k, c, A, hk, rfl, rfl, ho, hb⟩ := hrel
    by_cases hlt : k < s.size
    · have HS := Lib.hid (show hexL (s.data.toList.take k) ++ hex2 s[k] = hexL (s.data.toList.take (k + 1)) by rw [take_snoc s k hlt, hexL_snoc])
      have hb0 : s[k].toNat < 256 := s[k].toNat_lt
      have i1 : IntKind.i64.wrap (s[k].toNat : Int) = (s[k].toNat : Int) := IntWalk.i64_in _ (by omega)
      have i2 : IntKind.i64.wrap ((s[k].toNat : Int) / 16) = (s[k].toNat : Int) / 16 := IntWalk.i64_in _ (by omega)
      have i3 : (s[k].toNat : Int).tmod 16 = (s[k].toNat : Int) % 16 := Int.tmod_eq_emod_of_nonneg (by omega)
      go_wp2
      go_region_law (first
        | (go_simp; go_at_call 15; (with_reducible refine (spec_l01Figure _ _ ?_ ?_).mono ?_); (clear i1 i2 i3; omega); (clear i1 i2 i3; omega); rintro e w2 ⟨rfl, rfl⟩)
        | (refine step_pushY _ 2 (hex2 s[k]) _ rfl _ _ rfl (by omega) rfl (by rfl) w.heap.size A (2 * k) c _ (by rfl) (ho.out.next (Below.refl _ _).drew) (by rfl) (by rfl) (by omega) (by have := hb.out.size; simpa using this) ?_; intro g4 c4 w4 ho4 hg4 _; have HO4 := Lib.hid ho4; have HG4 := Lib.hid hg4; clear ho4 hg4))
      all_goals
        clear i1 i2 i3
        go_wp2
        go_roundw
        case rel => exact ⟨k + 1, c4, _, by omega, by go_num, rfl, by rw [← HS.out]; exact HO4.out, hb.out.drew.trans ((ho.out.next (Below.refl _ _).drew).belowOwn HG4.out (by have := hb.out.size; simpa using this))⟩
        case measure => simp [intOf]; omega
    · have hconv := ho.out.run_string
      have HE := Lib.hid (show s.data.toList.take k = s.data.toList by rw [List.take_of_length_le (by simp; omega)])
      go_wp2
      go_ret2
      exact ⟨by rw [HE.out]; rfl, hb.out⟩

set_option maxHeartbeats 400000 in
theorem spec_EncodeHex_no (s : ByteArray) (w : World) (h : 20000 < s.size) (hs : s.size ≤ maxLen) :
    Calls Try.prog 6 #[.string s] w fun e w' => e = .returned (.tuple #[.string ByteArray.empty, .bool false]) ∧ Below w.heap.size w w' := by
  unfold maxLen at hs
  have h1 : (20000 : Int) < (s.size : Int) := by omega
  go_enter Try.func6, Try.ntmps6
  go_wp2
  go_ret2
  exact ⟨rfl, Below.refl _ _⟩

set_option maxHeartbeats 400000 in
theorem impl_EncodeHex_no (s : ByteArray) (w : World) (h : 20000 < s.size) (hs : s.size ≤ maxLen) :
    Calls Try.prog 7 #[.string s] w fun e w' => e = .returned (.tuple #[.string ByteArray.empty, .bool false]) ∧ Below w.heap.size w w' := by
  unfold maxLen at hs
  have h1 : (20000 : Int) < (s.size : Int) := by omega
  go_enter Try.func7, Try.ntmps7
  go_wp2
  go_ret2
  exact ⟨rfl, Below.refl _ _⟩

set_option maxRecDepth 100000 in
set_option maxHeartbeats 1000000 in
theorem impl_EncodeHex_yes (s : ByteArray) (w : World) (hs : s.size ≤ 20000) :
    Calls Try.prog 7 #[.string s] w fun e w' => e = .returned (.tuple #[.string (bstr (hexL s.data.toList)), .bool true]) ∧ Below w.heap.size w w' := by
  go_enter Try.func7, Try.ntmps7
  go_wp2
  go_loopw [4, 12] (fun v i wr => ∃ (k c : Nat) (A : Option Addr), k ≤ s.size ∧ i = .int .i64 k ∧ v = .slice A (2 * k) c ∧ Hid (OwnY wr w.heap.size A (2 * k) c (hexL (s.data.toList.take k))) ∧ Hid (Below w.heap.size w wr)) (fun _ i _ => s.size - (intOf i).toNat)
  case atStart => exact ⟨0, 0, some ⟨w.heap.size, 0, none⟩, by omega, rfl, rfl, OwnG.empty (Nat.le_refl _), (Below.refl _ _).alloc (Nat.le_refl _) _⟩
  case round =>
    obtain ⟨k, c, A, hk, rfl, rfl, ho, hb⟩ := hrel
    by_cases hlt : k < s.size
    · have HS := Lib.hid (show hexL (s.data.toList.take k) ++ hex2 s[k] = hexL (s.data.toList.take (k + 1)) by rw [take_snoc s k hlt, hexL_snoc])
      have hb0 : s[k].toNat < 256 := s[k].toNat_lt
      have p1 : (0 : Int) ≤ (s[k].toNat : Int) / 16 := by omega
      have p2 : (s[k].toNat : Int) / 16 < 16 := by omega
      have p3 := and15 hb0
      have p4 : (0 : Int) ≤ (s[k].toNat : Int) % 16 := by omega
      have p5 : (s[k].toNat : Int) % 16 < 16 := by omega
      go_wp2
      go_region_law (first
        | (refine step_pushY _ 2 (hex2 s[k]) _ rfl _ _ rfl (by omega) rfl (hex_cells _ _ _) w.heap.size A (2 * k) c _ (by rfl) (ho.out.next (Below.refl _ _).drew) (by rfl) (by rfl) (by omega) (by have := hb.out.size; simpa using this) ?_; intro g4 c4 w4 ho4 hg4 _; have HO4 := Lib.hid ho4; have HG4 := Lib.hid hg4; clear ho4 hg4))
      all_goals
        clear p3
        go_wp2
        go_roundw
        case rel => exact ⟨k + 1, c4, _, by omega, by go_num, rfl, by rw [← HS.out]; exact HO4.out, hb.out.drew.trans ((ho.out.next (Below.refl _ _).drew).belowOwn HG4.out (by have := hb.out.size; simpa using this))⟩
        case measure => simp [intOf]; omega
    · have hconv := ho.out.run_string
      have HE := Lib.hid (show s.data.toList.take k = s.data.toList by rw [List.take_of_length_le (by simp; omega)])
      go_wp2
      go_ret2
      exact ⟨by rw [HE.out]; rfl, hb.out⟩

set_option maxHeartbeats 1000000 in
theorem walk_FnExactEncodeHex (s : ByteArray) (w : World) (hs : s.size ≤ maxLen) :
    Calls Try.prog 3 #[.string s] w fun e w' => e = .returned (.bool true) ∧ Below w.heap.size w w' := by
  have HM := Lib.hid hs
  unfold maxLen at hs
  by_cases hbig : 1048576 < s.size
  · have h1 : (1048576 : Int) < (s.size : Int) := by omega
    go_enter Try.func3, Try.ntmps3
    go_wp2
    go_ret
    exact ⟨rfl, Below.refl _ _⟩
  · have h1 : ¬ (1048576 : Int) < (s.size : Int) := by omega
    by_cases h2 : 20000 < s.size
    · go_enter Try.func3, Try.ntmps3
      go_wp2_with fail
      refine (spec_EncodeHex_no _ _ h2 HM.out).mono ?_
      rintro e w1 ⟨rfl, hb1⟩
      have HB1 := Lib.hid hb1
      clear hb1
      go_wp2_with fail
      refine (impl_EncodeHex_no _ _ h2 HM.out).mono ?_
      rintro e w2 ⟨rfl, hb2⟩
      have HB2 := Lib.hid (HB1.out.trans (hb2.mono HB1.out.size))
      clear hb2
      go_wp2
      go_ret
      exact ⟨rfl, HB2.out⟩
    · have h2' : s.size ≤ 20000 := by omega
      obtain ⟨t, ht⟩ : ∃ t, t = bstr (hexL s.data.toList) := ⟨_, rfl⟩
      have HT := Lib.hid ht
      clear ht
      go_enter Try.func3, Try.ntmps3
      go_wp2_with fail
      refine (spec_EncodeHex_yes _ _ h2').mono ?_
      rintro e w1 ⟨rfl, hb1⟩
      rw [← HT.out]
      have HB1 := Lib.hid hb1
      clear hb1
      go_wp2_with fail
      refine (impl_EncodeHex_yes _ _ h2').mono ?_
      rintro e w2 ⟨rfl, hb2⟩
      rw [← HT.out]
      have HB2 := Lib.hid (HB1.out.trans (hb2.mono HB1.out.size))
      clear hb2
      go_wp2
      go_ret
      exact ⟨rfl, HB2.out⟩
end Go.Proofs.Yteoddpdjhkbaiaa
