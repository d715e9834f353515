/- DecodeHex, both sides; the law FnExactDecodeHex returns true. No condition. -/
import Derived.Test.YteoddpdjhkbaiaaDoorYe
import Derived.Test.YteoddpdjhkbaiaaDoorSh
import Derived.Deep.QuietTactic
import Derived.BigQuiet
set_option linter.unusedSimpArgs false
set_option linter.unusedVariables false
set_option maxRecDepth 100000
namespace Go.Proofs.YteoddpdjhkbaiaaDoor
open Go.RowKit

/-- what a sign stands for -/
def valU (b : Nat) : Int := if 48 ≤ b ∧ b ≤ 57 then (b : Int) - 48 else if 97 ≤ b ∧ b ≤ 102 then (b : Int) - 87 else -1
theorem valU_lo (b : Nat) : -1 ≤ valU b := by unfold valU; split <;> (try split) <;> omega
theorem valU_hi (b : Nat) : valU b ≤ 15 := by unfold valU; split <;> (try split) <;> omega
theorem index_val (b : UInt8) : Lib.indexByte hexDigits.data.toList b = valU b.toNat := by
  have key : ∀ x : Fin 256, Lib.indexByte hexDigits.data.toList (UInt8.ofNat x.1) = valU x.1 := by decide +kernel
  have h := key ⟨b.toNat, b.toNat_lt⟩
  simpa using h
/-- the sum of a pair of signs; below 0 where one of them is none -/
def pv (s : ByteArray) (j : Nat) : Int := if valU (bt s (2 * j)) < 0 ∨ valU (bt s (2 * j + 1)) < 0 then -1 else 16 * valU (bt s (2 * j)) + valU (bt s (2 * j + 1))
def decL (s : ByteArray) (k : Nat) : List UInt8 := (List.range k).map (fun j => UInt8.ofNat (pv s j).toNat)
theorem decL_len (s : ByteArray) (k : Nat) : (decL s k).length = k := by simp [decL]
theorem decL_succ (s : ByteArray) (k : Nat) : decL s (k + 1) = decL s k ++ [UInt8.ofNat (pv s k).toNat] := by simp [decL, List.range_succ]
def fitsD (s : ByteArray) : Prop := s.size ≤ 40000 ∧ s.size % 2 = 0 ∧ ∀ j, j < s.size / 2 → 0 ≤ pv s j
open Classical in
noncomputable def decB (s : ByteArray) : Bool := decide (fitsD s)
noncomputable def decS (s : ByteArray) : ByteArray := if decB s = true then bstr (decL s (s.size / 2)) else ByteArray.empty
theorem decB_t {s : ByteArray} (h : fitsD s) : decB s = true := by unfold decB; exact @decide_eq_true _ (_) h
theorem decB_f {s : ByteArray} (h : ¬ fitsD s) : decB s = false := by unfold decB; exact @decide_eq_false _ (_) h
theorem dec_t {s : ByteArray} (h : fitsD s) : Value.tuple #[.string (decS s), .bool (decB s)] = .tuple #[.string (bstr (decL s (s.size / 2))), .bool true] := by
  unfold decS; rw [decB_t h, if_pos rfl]
theorem dec_f {s : ByteArray} (h : ¬ fitsD s) : Value.tuple #[.string (decS s), .bool (decB s)] = .tuple #[.string ByteArray.empty, .bool false] := by
  unfold decS; rw [decB_f h, if_neg (by simp)]

theorem impl_index (y : Int) (w : World) (h0 : 0 ≤ y) (h1 : y < 256) :
    Calls Tryd.prog 48 #[.string ⟨#[48, 49, 50, 51, 52, 53, 54, 55, 56, 57, 97, 98, 99, 100, 101, 102]⟩, .int .u8 y] w fun e w' => e = .returned (.int .i64 (valU y.toNat)) ∧ w' = w := by
  refine (Tryd.strings_IndexByte hexDigits y w).mono ?_
  rintro e w' ⟨he, hw⟩
  refine ⟨?_, hw⟩
  rw [he, index_val]
  congr 3
  show (UInt8.ofNat y.toNat).toNat = y.toNat
  exact UInt8.toNat_ofNat_of_lt' (by show _ < 256; omega)
theorem pv_bad {s : ByteArray} {j : Nat} {x y : Int} (hx : x = valU (bt s (2 * j))) (hy : y = valU (bt s (2 * j + 1))) (h : x < 0 ∨ y < 0) : pv s j = -1 := by
  unfold pv; rw [← hx, ← hy, if_pos h]
theorem pv_good {s : ByteArray} {j : Nat} {x y : Int} (hx : x = valU (bt s (2 * j))) (hy : y = valU (bt s (2 * j + 1))) (h0 : 0 ≤ x) (h1 : 0 ≤ y) : pv s j = 16 * x + y := by
  unfold pv; rw [← hx, ← hy, if_neg (by omega)]
theorem byte_of {z : Int} (h0 : 0 ≤ z) (h1 : z < 256) : [Value.int .u8 z] = [UInt8.ofNat z.toNat].flatMap bval := by
  have e : ((UInt8.ofNat z.toNat).toNat : Int) = z := by
    rw [UInt8.toNat_ofNat_of_lt' (by show _ < 256; omega)]
    exact Int.toNat_of_nonneg h0
  simp only [List.flatMap_cons, List.flatMap_nil, List.append_nil, bval, e]


set_option maxHeartbeats 400000 in
theorem impl_DecodeHex_no1 (s : ByteArray) (w : World) (h : 40000 < s.size) (hs : s.size ≤ maxLen) :
    Calls Tryd.prog 19 #[.string s] w fun e w' => e = .returned (.tuple #[.string (decS s), .bool (decB s)]) ∧ Below w.heap.size w w' := by
  unfold maxLen at hs
  rw [dec_f (fun hf => by have := hf.1; omega)]
  have h1 : (40000 : Int) < (s.size : Int) := by omega
  go_enter Tryd.func19, Tryd.ntmps19
  go_wp2
  all_goals
    go_ret2
    exact ⟨rfl, Below.refl _ _⟩
set_option maxHeartbeats 400000 in
theorem impl_DecodeHex_no2 (s : ByteArray) (w : World) (hs : s.size ≤ 40000) (h : s.size % 2 = 1) :
    Calls Tryd.prog 19 #[.string s] w fun e w' => e = .returned (.tuple #[.string (decS s), .bool (decB s)]) ∧ Below w.heap.size w w' := by
  rw [dec_f (fun hf => by have := hf.2.1; omega)]
  have h1 : ¬ (40000 : Int) < (s.size : Int) := by omega
  have h2 : (s.size : Int) % 2 = 1 := by omega
  have h3 := Lib.hid h
  clear h
  go_enter Tryd.func19, Tryd.ntmps19
  go_wp2
  go_ret2
  exact ⟨rfl, Below.refl _ _⟩
set_option maxRecDepth 100000 in
set_option maxHeartbeats 2000000 in
theorem impl_DecodeHex_yes (s : ByteArray) (w : World) (hs : s.size ≤ 40000) (h : s.size % 2 = 0) :
    Calls Tryd.prog 19 #[.string s] w fun e w' => e = .returned (.tuple #[.string (decS s), .bool (decB s)]) ∧ Below w.heap.size w w' := by
  have h1 : ¬ (40000 : Int) < (s.size : Int) := by omega
  have h2 : (s.size : Int) % 2 = 0 := by omega
  have h3 := Lib.hid h
  clear h
  go_enter Tryd.func19, Tryd.ntmps19
  go_wp2
  clear h2
  go_loopw [4, 5] (fun v i wr => ∃ (j c : Nat) (A : Option Addr), 2 * j ≤ s.size ∧ i = .int .i64 (2 * (j : Int)) ∧ v = .slice A j c ∧ Hid (OwnY wr w.heap.size A j c (decL s j)) ∧ Hid (∀ q, q < j → 0 ≤ pv s q) ∧ Hid (Below w.heap.size w wr)) (fun _ i _ => s.size - (intOf i).toNat)
  case atStart => exact ⟨0, 0, some ⟨w.heap.size, 0, none⟩, by omega, rfl, rfl, OwnG.empty (Nat.le_refl _), fun q hq => absurd hq (by omega), (Below.refl _ _).alloc (Nat.le_refl _) _⟩
  case round =>
    obtain ⟨j, c, A, hj, rfl, rfl, ho, hp, hb⟩ := hrel
    by_cases hlt : 2 * j < s.size
    · have hlt1 : 2 * j + 1 < s.size := by have := h3.out; omega
      have H3 := Lib.hid (show j < s.size / 2 by omega)
      have b0 := s[2 * j].toNat_lt
      have b1 := s[2 * j + 1].toNat_lt
      have i0 : (0 : Int) ≤ 2 * (j : Int) := by omega
      have i1 : 2 * (j : Int) < (s.size : Int) := by omega
      have i2 : 2 * (j : Int) + 1 < (s.size : Int) := by omega
      have i4 : (0 : Int) ≤ 2 * (j : Int) + 1 := by omega
      have i3 : IntKind.i64.wrap (2 * (j : Int) + 1) = 2 * (j : Int) + 1 := IntWalk.i64_in _ (by omega)
      go_wp2
      go_quiet ((go_at_call 48; exact Calls.quiet_of_same (impl_index _ _ (Int.natCast_nonneg _) (Int.ofNat_lt.2 (UInt8.toNat_lt _)))))
      clear i3 b0 b1
      simp only [Int.toNat_natCast, bt_get hlt, bt_get hlt1]
      have x0 := valU_lo (bt s (2 * j))
      have x1 := valU_hi (bt s (2 * j))
      have y0 := valU_lo (bt s (2 * j + 1))
      have y1 := valU_hi (bt s (2 * j + 1))
      obtain ⟨x, hx⟩ : ∃ x, x = valU (bt s (2 * j)) := ⟨_, rfl⟩
      obtain ⟨y, hy⟩ : ∃ y, y = valU (bt s (2 * j + 1)) := ⟨_, rfl⟩
      rw [← hx] at x0 x1
      rw [← hy] at y0 y1
      simp only [← hx, ← hy]
      have HX := Lib.hid hx
      have HY := Lib.hid hy
      clear hx hy
      by_cases hbad : x < 0 ∨ y < 0
      · have HE := Lib.hid (dec_f (s := s) (fun hf => by have h := hf.2.2 j H3.out; rw [pv_bad HX.out HY.out hbad] at h; omega))
        rcases hbad with hbad | hbad
        · go_wp2
          go_ret2
          exact ⟨by rw [HE.out]; rfl, (hb.out.drewN _)⟩
        · by_cases hx0 : x < 0
          · go_wp2
            go_ret2
            exact ⟨by rw [HE.out]; rfl, (hb.out.drewN _)⟩
          · have hx0' : 0 ≤ x := by omega
            clear hx0
            go_wp2
            go_ret2
            exact ⟨by rw [HE.out]; rfl, (hb.out.drewN _)⟩
      · have g0 : 0 ≤ x := by omega
        have g1 : 0 ≤ y := by omega
        clear hbad
        have HP := Lib.hid (pv_good HX.out HY.out g0 g1)
        have HL := Lib.hid (show decL s (j + 1) = decL s j ++ [UInt8.ofNat (16 * x + y).toNat] by rw [decL_succ, HP.out])
        go_wp2_with (at_builtin; refine wpList_pushY _ 1 [UInt8.ofNat (16 * x + y).toNat] _ rfl _ _ rfl (by omega) rfl (byte_of (by omega) (by omega)) w.heap.size A j c _ (by rfl) (ho.out.next ((Below.refl _ _).drewN _)) (by rfl) (by rfl) (by omega) (by have := hb.out.size; simpa using this) ?_; intro g4 c4 w4 ho4 hg4 _; have HO4 := Lib.hid ho4; have HG4 := Lib.hid hg4; clear ho4 hg4)
        go_roundw
        case rel =>
          refine ⟨j + 1, c4, _, by omega, by (have e : (2 : Int) * ((j + 1 : Nat) : Int) = 2 * (j : Int) + 2 := by omega); rw [e], rfl, by rw [HL.out]; exact HO4.out, ?_, (hb.out.drewN _).trans ((ho.out.next ((Below.refl _ _).drewN _)).belowOwn HG4.out (by have := hb.out.size; simpa using this))⟩
          intro q hq
          by_cases hqj : q = j
          · rw [hqj, HP.out]; omega
          · exact hp.out q (by omega)
        case measure => simp [intOf]; omega
    · have hconv := ho.out.run_string
      have h4 := h3.out
      have HJ := Lib.hid (show j = s.size / 2 by omega)
      have HE := Lib.hid (dec_t (s := s) ⟨hs, h3.out, fun q hq => hp.out q (by rw [HJ.out]; exact hq)⟩)
      clear h4
      go_wp2
      go_ret2
      exact ⟨by rw [HE.out, ← HJ.out]; rfl, hb.out⟩
theorem impl_DecodeHex (s : ByteArray) (w : World) (hs : s.size ≤ maxLen) :
    Calls Tryd.prog 19 #[.string s] w fun e w' => e = .returned (.tuple #[.string (decS s), .bool (decB s)]) ∧ Below w.heap.size w w' := by
  by_cases h1 : 40000 < s.size
  · exact impl_DecodeHex_no1 s w h1 hs
  · by_cases h2 : s.size % 2 = 1
    · exact impl_DecodeHex_no2 s w (by omega) h2
    · exact impl_DecodeHex_yes s w (by omega) (by omega)

end Go.Proofs.YteoddpdjhkbaiaaDoor
