/- Texts that the reference's draws make. No condition. -/
import Derived.Test.YteoddpdjhkbaiaaDoorYg
import Derived.Test.YteoddpdjhkbaiaaDoorKn
set_option linter.unusedSimpArgs false
set_option linter.unusedVariables false
set_option maxRecDepth 100000
namespace Go.Proofs.YteoddpdjhkbaiaaDoor
open Go.RowKit

/-- a drawn text: of it the length alone is told; only the cursor has been written -/
def DrawnS (w : World) (B g : Nat) (A : Option Addr) (n c : Nat) (P : ByteArray → Prop) (e : Ending) (w' : World) : Prop := ∃ s : ByteArray, P s ∧ e = .returned (.string s) ∧ Cur w' B g A n c ∧ w.grownBy w' (some g)
theorem gG_own {a w w' : World} {g : Nat} {row : Option Nat} (h : a.grownBy w (some g)) (k : w.grownBy w' row) (hr : ∀ q, row = some q → a.heap.size ≤ q) : a.grownBy w' (some g) :=
  ⟨k.os.trans h.os, k.tape.trans h.tape, k.output.trans h.output, Nat.le_trans h.size k.size, fun i hi hne => (k.block i (Nat.lt_of_lt_of_le hi h.size) (fun e => by have := hr _ e.symm; omega)).trans (h.block i hi hne)⟩
theorem byte_ofI {z : Int} (h0 : 0 ≤ z) (h1 : z ≤ 255) : [Value.int .u8 z] = [UInt8.ofNat z.toNat].flatMap bval := by
  have e : ((UInt8.ofNat z.toNat).toNat : Int) = z := by
    rw [UInt8.toNat_ofNat_of_lt' (by show _ < 256; omega)]
    exact Int.toNat_of_nonneg h0
  simp only [List.flatMap_cons, List.flatMap_nil, List.append_nil, bval, e]
set_option maxRecDepth 100000 in
set_option maxHeartbeats 1000000 in
theorem spec_l01Text (B g : Nat) (A : Option Addr) (n c m : Nat) (w : World) (h : Cur w B g A n c) (hm : m ≤ 5000) :
    Calls Tryd.prog 47 #[.pointer (some ⟨g, 0, none⟩), .int .i64 m] w (DrawnS w B g A n c (fun s => s.size = m)) := by
  have HC := Lib.hid h
  have hgw := h.2.1
  have hBg := h.1
  clear h
  go_enter Tryd.func47, Tryd.ntmps47
  go_wp2
  go_loopw [5, 6] (fun v i wr => ∃ (k c' : Nat) (A' : Option Addr) (l : List UInt8), k ≤ m ∧ i = .int .i64 k ∧ v = .slice A' k c' ∧ Hid (OwnY wr w.heap.size A' k c' l) ∧ Hid (Cur wr B g A n c) ∧ Hid (w.grownBy wr (some g))) (fun _ i _ => m - (intOf i).toNat)
  case atStart => exact ⟨0, 0, some ⟨w.heap.size, 0, none⟩, [], by omega, rfl, rfl, OwnG.empty (Nat.le_refl _), HC.out.next ((Below.refl _ _).alloc (Nat.le_refl _) _), gG_alloc (gG_refl _ _) _⟩
  case round =>
    obtain ⟨k, c', A', l, hk, rfl, rfl, ho, hc, hg⟩ := hrel
    have hws := hg.out.size
    by_cases hlt : k < m
    · go_wp2_with fail
      refine (spec_l01Byte _ _ _ _ _ _ hc.out).mono ?_
      rintro e w2 ⟨x, ⟨x0, x1⟩, rfl, hc2, hg2⟩
      have HO2 := Lib.hid (ho.out.keep hg2 (fun q hq e => by have := (ho.out.lt _ hq).1; cases e; omega))
      have HC2 := Lib.hid hc2
      have HG2 := Lib.hid (grown_tr hg.out hg2)
      have hs2 := hg2.size
      clear hc2 hg2
      go_wp2_with (at_builtin; refine wpList_pushY _ 1 [UInt8.ofNat x.toNat] _ rfl _ _ rfl (by omega) rfl (byte_ofI x0 x1) w.heap.size A' k c' _ (by rfl) HO2.out (by rfl) (by rfl) (by omega) (by omega) ?_; intro g4 c4 w4 ho4 hg4 _; have HO4 := Lib.hid ho4; have HG4 := Lib.hid hg4; clear ho4 hg4)
      have HC4 := Lib.hid (HC2.out.keep HG4.out (fun e => by have := (HO2.out.lt _ e).1; omega) (fun q e => by have := (HO2.out.lt _ e).1; omega))
      have HG5 := Lib.hid (gG_own HG2.out HG4.out (fun q e => (HO2.out.lt _ e).1))
      go_roundw
      case rel => exact ⟨k + 1, c4, _, _, by omega, by go_num, rfl, HO4.out, HC4.out, HG5.out⟩
      case measure => simp [intOf]; omega
    · obtain rfl : k = m := by omega
      have hconv := ho.out.run_string
      have hl := ho.out.len
      go_wp2
      go_ret
      exact ⟨_, (bstr_size l).trans hl, rfl, hc.out, hg.out⟩

theorem byte_nat {z : Int} (h0 : 0 ≤ z) (h1 : z ≤ 255) : ((UInt8.ofNat z.toNat).toNat : Int) = z := by
  rw [UInt8.toNat_ofNat_of_lt' (by show _ < 256; omega)]
  exact Int.toNat_of_nonneg h0
theorem OwnY.st0 {w : World} {B n c g : Nat} {l : List UInt8} (ho : OwnY w B (some ⟨g, 0, none⟩) n c l) {k : Nat} (hk : k < n) (v : UInt8) :
    OwnY (w.setCell ⟨g, k, none⟩ (.int .u8 (v.toNat : Int))) B (some ⟨g, 0, none⟩) n c (l.set k v) ∧ w.grownBy (w.setCell ⟨g, k, none⟩ (.int .u8 (v.toNat : Int))) (some g) := by
  have hl := ho.len
  have h := ho.store blen (k := k) (x := l[k]'(by omega)) (List.getElem?_eq_getElem (by omega)) (j := 0) (x' := v) (v := .int .u8 (v.toNat : Int)) (by omega) rfl
  rwa [Nat.mul_one, Nat.add_zero] at h
theorem OwnY.at1 {w : World} {B n c g : Nat} {l : List UInt8} (ho : OwnY w B (some ⟨g, 0, none⟩) n c l) {k : Nat} (hk : k < n) : ∃ v, w.cell? ⟨g, k, none⟩ = some (.int .u8 v) := by
  have hl := ho.len
  have h := ho.cellAt blen (k := k) (x := l[k]'(by omega)) (List.getElem?_eq_getElem (by omega)) (j := 0) rfl
  rw [Nat.mul_one, Nat.add_zero] at h
  exact ⟨_, h⟩
set_option maxRecDepth 100000 in
set_option maxHeartbeats 1000000 in
theorem spec_l01Long (m : Nat) (x : Int) (w : World) (hm : m ≤ 100000) (hx0 : 0 ≤ x) (hx1 : x ≤ 255) :
    Calls Tryd.prog 46 #[.int .i64 m, .int .u8 x] w fun e w' => ∃ s : ByteArray, s.data.toList = List.replicate m (UInt8.ofNat x.toNat) ∧ e = .returned (.string s) ∧ Below w.heap.size w w' := by
  obtain ⟨i0, hi, hz0, hz1, hz2⟩ := info_parts byte_info
  have HI := Lib.hid hi; have HZ0 := Lib.hid hz0; have HZ1 := Lib.hid hz1; have HZ2 := Lib.hid hz2
  clear hi hz0 hz1 hz2
  have hle : m ≤ 2097152 := by omega
  go_enter Tryd.func46, Tryd.ntmps46
  go_wp2_with (at_make; refine wpList_make_full _ rfl _ _ _ rfl w.heap.size 5 i0 (.int .u8 0) 1 Tryd.underlying27 HI.out HZ0.out HZ1.out .i64 .i64 m m m rfl rfl rfl rfl (by rw [HZ2.out]; omega) (by unfold maxLen; omega) (Nat.le_refl _) ?_; intro w1 hown1 hg1; have HO := Lib.hid (OwnG.made (vals := bval) blen (0 : UInt8) rfl (by omega) hle hown1); have HB := Lib.hid ((Below.refl w.heap.size w).grown hg1 (Nat.le_refl _) (by intro k hk; cases hk)); clear hown1 hg1)
  go_loopw [6] (fun i wr => ∃ (k : Nat) (ys : List UInt8), k ≤ m ∧ i = .int .i64 k ∧ Hid (OwnY wr w.heap.size (some ⟨w.heap.size, 0, none⟩) m m ys) ∧ Hid (∀ j, j < k → ys[j]? = some (UInt8.ofNat x.toNat)) ∧ Hid (Below w.heap.size w wr)) (fun i _ => m - (intOf i).toNat)
  case atStart => exact ⟨0, _, Nat.zero_le _, rfl, HO, fun j hj => absurd hj (by omega), HB⟩
  case round =>
    obtain ⟨k, ys, hk, rfl, ho, hp, hb⟩ := hrel
    by_cases hlt : k < m
    · have s1 := OwnY.st0 ho.out hlt (UInt8.ofNat x.toNat)
      rw [byte_nat hx0 hx1] at s1
      obtain ⟨dv, d0⟩ := OwnY.at1 ho.out hlt
      have f0 := ho.out.frozenAt (by omega) k
      have S1 := Lib.hid s1.1
      have B1 := Lib.hid (hb.out.grown s1.2 hb.out.size (fun q e => by cases e; exact Nat.le_refl _))
      clear s1
      go_wp2
      go_roundw
      case rel =>
        refine ⟨k + 1, _, by omega, by go_num, S1.out, ?_, B1.out⟩
        have hl := ho.out.len
        intro j hj
        by_cases hjk : j = k
        · subst hjk
          rw [List.getElem?_set_self (by omega)]
        · rw [List.getElem?_set_ne (by omega)]; exact hp.out j (by omega)
      case measure => simp [intOf]; omega
    · obtain rfl : k = m := by omega
      have hconv := ho.out.run_string
      have hl := ho.out.len
      have HE := Lib.hid (show ys = List.replicate k (UInt8.ofNat x.toNat) by
        apply List.ext_getElem?
        intro j
        by_cases hj : j < k
        · rw [hp.out j hj, List.getElem?_replicate, if_pos hj]
        · rw [List.getElem?_eq_none (by omega), List.getElem?_eq_none (by simp; omega)])
      go_wp2
      go_ret
      exact ⟨_, HE.out, rfl, hb.out⟩
theorem spec_l01TextI (B g : Nat) (A : Option Addr) (n c : Nat) (z : Int) (w : World) (h : Cur w B g A n c) (h0 : 0 ≤ z) (h1 : z ≤ 5000) :
    Calls Tryd.prog 47 #[.pointer (some ⟨g, 0, none⟩), .int .i64 z] w (DrawnS w B g A n c (fun s => s.size = z.toNat)) := by
  obtain ⟨m, rfl⟩ := Int.eq_ofNat_of_zero_le h0
  exact spec_l01Text B g A n c m w h (by omega)
theorem spec_l01LongI (z : Int) (x : Int) (w : World) (h0 : 0 ≤ z) (h1 : z ≤ 100000) (hx0 : 0 ≤ x) (hx1 : x ≤ 255) :
    Calls Tryd.prog 46 #[.int .i64 z, .int .u8 x] w fun e w' => ∃ s : ByteArray, s.data.toList = List.replicate z.toNat (UInt8.ofNat x.toNat) ∧ e = .returned (.string s) ∧ Below w.heap.size w w' := by
  obtain ⟨m, rfl⟩ := Int.eq_ofNat_of_zero_le h0
  exact spec_l01Long m x w (by omega) hx0 hx1
end Go.Proofs.YteoddpdjhkbaiaaDoor
