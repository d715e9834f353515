/- The sign of a figure; one byte as a string; digits. No condition. -/
import Derived.Test.YteoddpdjhkbaiaaDoorY
set_option linter.unusedSimpArgs false
set_option linter.unusedVariables false
set_option maxRecDepth 100000
namespace Go.Proofs.YteoddpdjhkbaiaaDoor
open Go.RowKit

/-- the sign of a figure -/
def fig (x : Nat) : UInt8 := UInt8.ofNat (if x < 10 then 48 + x else 87 + x)
theorem fig_nat {x : Nat} (h : x < 16) : ((fig x).toNat : Int) = if x < 10 then 48 + (x : Int) else 87 + x := by
  unfold fig
  rw [UInt8.toNat_ofNat_of_lt' (by show _ < 256; split <;> omega)]
  split <;> omega
set_option maxHeartbeats 400000 in
theorem spec_l01Figure (y : Int) (w : World) (h0 : 0 ≤ y) (h1 : y < 16) :
    Calls Tryd.prog 40 #[.int .i64 y] w fun e w' => e = .returned (.int .u8 ((fig y.toNat).toNat : Int)) ∧ w' = w := by
  obtain ⟨x, rfl⟩ := Int.eq_ofNat_of_zero_le h0
  have h : x < 16 := by omega
  rw [Int.toNat_natCast]
  have HF := Lib.hid (show ((fig x).toNat : Int) = if x < 10 then 48 + (x : Int) else 87 + x from fig_nat h)
  by_cases h10 : x < 10
  · have h2 : (x : Int) < 10 := by omega
    go_enter Tryd.func40, Tryd.ntmps40
    go_wp2
    go_ret
    have hf := HF.out
    rw [if_pos h10] at hf
    exact ⟨ret_int hf.symm, rfl⟩
  · have h2 : ¬ (x : Int) < 10 := by omega
    go_enter Tryd.func40, Tryd.ntmps40
    go_wp2
    go_ret
    have hf := HF.out
    rw [if_neg h10] at hf
    exact ⟨ret_int (by rw [hf]; omega), rfl⟩
theorem one_byteS (w : World) (b : UInt8) : (convert 27 9 (.slice (some ⟨w.heap.size, 0, none⟩) 1 1)).run Tryd.prog (w.alloc (.cells #[.int .u8 (b.toNat : Int)] 5)) = .ok (.string (bstr [b])) (w.alloc (.cells #[.int .u8 (b.toNat : Int)] 5)) := by
  have h := OwnG.lit (vals := bval) (m := 1) (T := 5) (w := w) (B := w.heap.size) (xs := [b]) (n := 1) blen (Nat.le_refl _) (cs := #[.int .u8 (b.toNat : Int)]) rfl rfl (by omega)
  exact OwnY.run_string h
/-- the last figure of a number -/
def digS (n : Nat) : ByteArray := bstr [UInt8.ofNat (48 + n % 10)]
theorem digS_size (n : Nat) : (digS n).size = 1 := rfl
theorem app_size (a b : ByteArray) : (a ++ b).size = a.size + b.size := by simp
theorem fig_dig (n : Nat) : bstr [fig (n % 10)] = digS n := by
  unfold digS fig; rw [if_pos (by omega)]
def mdig (n : Nat) (out : ByteArray) : ByteArray := if h : n = 0 then out else mdig (n / 10) (digS n ++ out)
termination_by n
decreasing_by omega
theorem mdig_zero (out : ByteArray) : mdig 0 out = out := by rw [mdig]; simp
theorem mdig_pos {n : Nat} (h : 0 < n) (out : ByteArray) : mdig n out = mdig (n / 10) (digS n ++ out) := by rw [mdig, dif_neg (by omega)]
end Go.Proofs.YteoddpdjhkbaiaaDoor
