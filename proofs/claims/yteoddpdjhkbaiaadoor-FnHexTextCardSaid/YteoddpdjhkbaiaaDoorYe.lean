/- EncodeHex, both sides. No condition. -/
import Derived.Test.YteoddpdjhkbaiaaDoorYg
import Derived.StillTailTactics
set_option linter.unusedSimpArgs false
set_option linter.unusedVariables false
set_option maxRecDepth 100000
namespace Go.Proofs.YteoddpdjhkbaiaaDoor
open Go.RowKit

def hex2 (b : UInt8) : List UInt8 := [fig (b.toNat / 16), fig (b.toNat % 16)]
def hexL (l : List UInt8) : List UInt8 := l.flatMap hex2
theorem hexL_len (l : List UInt8) : (hexL l).length = 2 * l.length := by
  induction l with
  | nil => rfl
  | cons b l ih => simp only [hexL, List.flatMap_cons, List.length_append, List.length_cons] at *; rw [ih]; simp [hex2]; omega
theorem take_snoc (s : ByteArray) (k : Nat) (h : k < s.size) : s.data.toList.take (k + 1) = s.data.toList.take k ++ [s[k]] := by
  rw [List.take_succ_eq_append_getElem (by simpa using h)]; rfl
theorem hexL_snoc (l : List UInt8) (b : UInt8) : hexL (l ++ [b]) = hexL l ++ hex2 b := by simp [hexL]

def hexDigits : ByteArray := ⟨#[48, 49, 50, 51, 52, 53, 54, 55, 56, 57, 97, 98, 99, 100, 101, 102]⟩
theorem hexDigits_at (x : Nat) (h : x < hexDigits.size) : hexDigits[x] = fig x := by
  have key : ∀ x : Fin 16, hexDigits[x.1]'(x.2) = fig x.1 := by decide
  exact key ⟨x, h⟩
theorem hex_cells (b : UInt8) (h1 : ((b.toNat : Int) / 16).toNat < hexDigits.size) (h2 : ((b.toNat : Int) % 16).toNat < hexDigits.size) : [Value.int .u8 ((hexDigits[((b.toNat : Int) / 16).toNat]'h1).toNat : Int), Value.int .u8 ((hexDigits[((b.toNat : Int) % 16).toNat]'h2).toNat : Int)] = (hex2 b).flatMap bval := by
  rw [hexDigits_at, hexDigits_at]; rfl
theorem and15 {b : Nat} (h : b < 256) : bits .and .u8 (b : Int) 15 = (b : Int) % 16 := by
  have key : ∀ b : Fin 256, bits .and .u8 (b.1 : Int) 15 = (b.1 : Int) % 16 := by decide
  exact key ⟨b, h⟩

set_option maxHeartbeats 400000 in
theorem impl_EncodeHex_no (s : ByteArray) (w : World) (h : 20000 < s.size) (hs : s.size ≤ maxLen) :
    Calls Tryd.prog 18 #[.string s] w fun e w' => e = .returned (.tuple #[.string ByteArray.empty, .bool false]) ∧ Below w.heap.size w w' := by
  unfold maxLen at hs
  have h1 : (20000 : Int) < (s.size : Int) := by omega
  go_enter Tryd.func18, Tryd.ntmps18
  go_wp2
  go_ret2
  exact ⟨rfl, Below.refl _ _⟩

set_option maxRecDepth 100000 in
set_option maxHeartbeats 1000000 in
theorem impl_EncodeHex_yes (s : ByteArray) (w : World) (hs : s.size ≤ 20000) :
    Calls Tryd.prog 18 #[.string s] w fun e w' => e = .returned (.tuple #[.string (bstr (hexL s.data.toList)), .bool true]) ∧ Below w.heap.size w w' := by
  go_enter Tryd.func18, Tryd.ntmps18
  go_wp2
  go_loopw [4, 12] (fun v i wr => ∃ (k c : Nat) (A : Option Addr), k ≤ s.size ∧ i = .int .i64 k ∧ v = .slice A (2 * k) c ∧ Hid (OwnY wr w.heap.size A (2 * k) c (hexL (s.data.toList.take k))) ∧ Hid (Below w.heap.size w wr)) (fun _ i _ => s.size - (intOf i).toNat)
  case atStart => exact ⟨0, 0, some ⟨w.heap.size, 0, none⟩, by omega, rfl, rfl, OwnG.empty (Nat.le_refl _), (Below.refl _ _).alloc (Nat.le_refl _) _⟩
  case round =>
    obtain ⟨k, c, A, hk, rfl, rfl, ho, hb⟩ := hrel
    by_cases hlt : k < s.size
    · have HS := Lib.hid (show hexL (s.data.toList.take k) ++ hex2 s[k] = hexL (s.data.toList.take (k + 1)) by rw [take_snoc s k hlt, hexL_snoc])
      have hb0 : s[k].toNat < 256 := s[k].toNat_lt
      have p1 : (0 : Int) ≤ (s[k].toNat : Int) / 16 := by omega
      have p2 : (s[k].toNat : Int) / 16 < 16 := by omega
      have p3 := and15 hb0
      have p4 : (0 : Int) ≤ (s[k].toNat : Int) % 16 := by omega
      have p5 : (s[k].toNat : Int) % 16 < 16 := by omega
      go_wp2
      go_region_law (first
        | (refine step_pushY _ 2 (hex2 s[k]) _ rfl _ _ rfl (by omega) rfl (hex_cells _ _ _) w.heap.size A (2 * k) c _ (by rfl) (ho.out.next (Below.refl _ _).drew) (by rfl) (by rfl) (by omega) (by have := hb.out.size; simpa using this) ?_; intro g4 c4 w4 ho4 hg4 _; have HO4 := Lib.hid ho4; have HG4 := Lib.hid hg4; clear ho4 hg4))
      all_goals
        clear p3
        go_wp2
        go_roundw
        case rel => exact ⟨k + 1, c4, _, by omega, by go_num, rfl, by rw [← HS.out]; exact HO4.out, hb.out.drew.trans ((ho.out.next (Below.refl _ _).drew).belowOwn HG4.out (by have := hb.out.size; simpa using this))⟩
        case measure => simp [intOf]; omega
    · have hconv := ho.out.run_string
      have HE := Lib.hid (show s.data.toList.take k = s.data.toList by rw [List.take_of_length_le (by simp; omega)])
      go_wp2
      go_ret2
      exact ⟨by rw [HE.out]; rfl, hb.out⟩

end Go.Proofs.YteoddpdjhkbaiaaDoor
