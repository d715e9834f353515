/- Rows of strings; the laws' helpers on them. No condition. -/
import Derived.Test.YteoddpdjhkbaiaaY
import Derived.Deep.QuietTactic
import Derived.BigQuiet
import Derived.Deep.RegionHeld3
import Derived.Lib.Hide
set_option linter.unusedSimpArgs false
set_option linter.unusedVariables false
set_option maxRecDepth 100000
namespace Go.Proofs.Yteoddpdjhkbaiaa
open Go.RowKit

def zval (b : ByteArray) : List Value := [.string b]
theorem zlen (b : ByteArray) : (zval b).length = 1 := rfl
abbrev RdZ (w : World) (B : Nat) (A : Option Addr) (n : Nat) (l : List ByteArray) : Prop := RdG zval 1 w B A n l
abbrev OwnZ (w : World) (B : Nat) (A : Option Addr) (n c : Nat) (l : List ByteArray) : Prop := OwnG zval 1 9 w B A n c l
def zith (l : List ByteArray) (k : Nat) : ByteArray := l.getD k ByteArray.empty
theorem zith_get {l : List ByteArray} {k : Nat} (h : k < l.length) : zith l k = l[k] := by simp [zith, List.getD, List.getElem?_eq_getElem h]
theorem zith_some {l : List ByteArray} {k : Nat} (h : k < l.length) : l[k]? = some (zith l k) := by rw [zith_get h, List.getElem?_eq_getElem h]
theorem zith_set_self {l : List ByteArray} {k : Nat} {x : ByteArray} (h : k < l.length) : zith (l.set k x) k = x := by simp [zith, List.getD, h]
theorem zith_set_other {l : List ByteArray} {k j : Nat} {x : ByteArray} (h : j ≠ k) : zith (l.set k x) j = zith l j := by simp [zith, List.getD, List.getElem?_set_ne (Ne.symm h)]
theorem zext {xs ys : List ByteArray} (hl : xs.length = ys.length) (h : ∀ j, j < xs.length → zith xs j = zith ys j) : xs = ys := by
  apply List.ext_getElem hl
  intro j h1 h2
  have := h j h1
  rwa [zith_get h1, zith_get h2] at this
theorem RdZ.at1 {w : World} {B n : Nat} {A : Option Addr} {l : List ByteArray} (hr : RdZ w B A n l) {k : Nat} (hk : k < n) : ∃ g off, A = some ⟨g, off, none⟩ ∧ w.cell? ⟨g, off + k, none⟩ = some (.string (zith l k)) := by
  obtain ⟨g, off, x, e, hx, hc⟩ := hr.at_ hk
  have hl := hr.1
  rw [zith_some (by omega)] at hx
  cases hx
  have h := hc 0 _ rfl
  rw [Nat.mul_one, Nat.add_zero] at h
  exact ⟨g, off, e, h⟩
theorem OwnZ.at1 {w : World} {B n c g : Nat} {l : List ByteArray} (ho : OwnZ w B (some ⟨g, 0, none⟩) n c l) {k : Nat} (hk : k < n) : w.cell? ⟨g, k, none⟩ = some (.string (zith l k)) := by
  have hl := ho.len
  have h := ho.cellAt zlen (zith_some (l := l) (k := k) (by omega)) (j := 0) rfl
  rwa [Nat.mul_one, Nat.add_zero] at h
theorem OwnZ.st0 {w : World} {B n c g : Nat} {l : List ByteArray} (ho : OwnZ w B (some ⟨g, 0, none⟩) n c l) {k : Nat} (hk : k < n) (v : ByteArray) :
    OwnZ (w.setCell ⟨g, k, none⟩ (.string v)) B (some ⟨g, 0, none⟩) n c (l.set k v) ∧ w.grownBy (w.setCell ⟨g, k, none⟩ (.string v)) (some g) := by
  have h := ho.store zlen (zith_some (l := l) (k := k) (by have hl := ho.len; omega)) (j := 0) (x' := v) (v := .string v) (by omega) rfl
  rwa [Nat.mul_one, Nat.add_zero] at h
theorem str_info : (Try.prog.info? 9).map (fun i => (i.zero, i.size, i.bytes)) = some (some (.string ByteArray.empty), 1, 16) := by kernel_rfl
/-- one string is appended -/
theorem wpList_pushZ (w0 : World) (y : ByteArray) {ops : Array Oper} {rest : List Oper} {o : Oper} {a : Act} {Q : Exit → Act → World → Prop} (hgd : o.guard = none) (s x : Operand)
    (ho : o.op = .call { callee := .builtin .append, args := #[s, x], argTypes := #[25, 25] })
    (B : Nat) (A : Option Addr) (n c : Nat) (xs : List ByteArray) (hs : a.eval s = .slice A n c) (hown : OwnZ w0 B A n c xs)
    {N : Nat} (hx : a.eval x = .slice (some ⟨N, 0, none⟩) 1 1) (hN : w0.heap.size = N) (hn : n + 1 ≤ 2097152) (hbase : B ≤ w0.heap.size)
    (hK : ∀ g' c' w', OwnZ w' B (some ⟨g', 0, none⟩) (n + 1) c' (xs ++ [y]) → w0.grownBy w' (Value.slice A n c).ownBlock → ((Value.slice A n c).ownBlock = some g' ∨ w0.heap.size ≤ g') →
      wpList Try.prog ops Q rest (a.put o.dst (.slice (some ⟨g', 0, none⟩) (n + 1) c')) w') : wpList Try.prog ops Q (o :: rest) a (w0.alloc (.cells #[.string y] 9)) := by
  subst hN
  obtain ⟨i0, hi, hz0, hz1, hz2⟩ := info_parts str_info
  refine wpList_pushG zlen w0 y #[.string y] hgd s x _ ho B 9 i0 (.string ByteArray.empty) 16 Try.underlying25 hi hz0 hz1 hz2 (by omega) rfl (by omega) rfl ?_ A n c xs hs hown hx hn hbase hK
  intro u hu
  simp [zval] at hu
  subst hu; rfl

set_option maxRecDepth 100000 in
set_option maxHeartbeats 1000000 in
theorem laws_eqStringS (A A' : Option Addr) (n c n' c' : Nat) (xs : List ByteArray) (w : World) (h : RdZ w w.heap.size A n xs) (h' : RdZ w w.heap.size A' n' xs) :
    Calls Try.prog 12 #[.slice A n c, .slice A' n' c'] w fun e w' => e = .returned (.bool true) ∧ Below w.heap.size w w' := by
  have hle := h.le
  have hle' := h'.le
  obtain rfl : n = n' := by rw [← h.1, ← h'.1]
  have H := Lib.hid h
  have H' := Lib.hid h'
  clear h h'
  have hq : ((n : Int) != (n : Int)) = false := by simp
  go_enter Try.func12, Try.ntmps12
  go_wp2
  clear hq
  go_loopw [5] (fun i wr => ∃ (k : Nat), k ≤ n ∧ i = .int .i64 k ∧ Hid (Below w.heap.size w wr)) (fun i _ => n - (intOf i).toNat)
  case atStart => exact ⟨0, Nat.zero_le _, rfl, Below.refl _ _⟩
  case round =>
    obtain ⟨k, hk, rfl, hb⟩ := hrel
    by_cases hlt : k < n
    · obtain ⟨g, off, rfl, hc0⟩ := RdZ.at1 (H.out.below hb.out) hlt
      obtain ⟨g', off', rfl, hc0'⟩ := RdZ.at1 (H'.out.below hb.out) hlt
      have h0 : (0 : Int) ≤ (k : Int) := by omega
      have h1 : (k : Int) < (n : Int) := by omega
      go_wp2
      go_quiet (fail)
      go_wp2
      go_roundw
      case rel => exact ⟨k + 1, by omega, by go_num, hb.out.drewN _⟩
      case measure => simp [intOf]; omega
    · go_wp2
      go_ret
      exact ⟨rfl, hb.out⟩

/-- the last figure of a number -/
def digS (n : Nat) : ByteArray := bstr [UInt8.ofNat (48 + n % 10)]
theorem digS_size (n : Nat) : (digS n).size = 1 := rfl
theorem app_size (a b : ByteArray) : (a ++ b).size = a.size + b.size := by simp
def mdig (n : Nat) (out : ByteArray) : ByteArray := if h : n = 0 then out else mdig (n / 10) (digS n ++ out)
termination_by n
decreasing_by omega
theorem mdig_zero (out : ByteArray) : mdig 0 out = out := by rw [mdig]; simp
theorem mdig_pos {n : Nat} (h : 0 < n) (out : ByteArray) : mdig n out = mdig (n / 10) (digS n ++ out) := by rw [mdig, dif_neg (by omega)]
/-- the text of a mark -/
def mtx (k : Nat) : ByteArray := ⟨#[109]⟩ ++ mdig k ByteArray.empty
theorem one_string (w : World) (k : Nat) : (convert 30 9 (.slice (some ⟨w.heap.size, 0, none⟩) 1 1)).run Try.prog (w.alloc (.cells #[.int .u8 (48 + (k : Int) % 10)] 5)) = .ok (.string (digS k)) (w.alloc (.cells #[.int .u8 (48 + (k : Int) % 10)] 5)) := by
  have e : ((UInt8.ofNat (48 + k % 10)).toNat : Int) = 48 + (k : Int) % 10 := by
    rw [UInt8.toNat_ofNat_of_lt' (by show _ < 256; omega)]
    omega
  have h := OwnG.lit (vals := bval) (m := 1) (T := 5) (w := w) (B := w.heap.size) (xs := [UInt8.ofNat (48 + k % 10)]) (n := 1) blen (Nat.le_refl _) (cs := #[.int .u8 (48 + (k : Int) % 10)]) (by rw [← e]; rfl) rfl (by omega)
  exact OwnY.run_string h
set_option maxRecDepth 100000 in
set_option maxHeartbeats 1000000 in
theorem laws_markText (k0 : Nat) (w : World) (h0 : 0 < k0) (h1 : k0 ≤ 1000000000000) :
    Calls Try.prog 18 #[.int .i64 k0] w fun e w' => e = .returned (.string (mtx k0)) ∧ Below w.heap.size w w' := by
  have p0 : (0 : Int) < (k0 : Int) := by omega
  go_enter Try.func18, Try.ntmps18
  go_wp2
  go_loopw [0, 3] (fun v o wr => ∃ (k : Nat) (out : ByteArray), k ≤ k0 ∧ v = .int .i64 k ∧ o = .string out ∧ Hid (mdig k out = mdig k0 ByteArray.empty) ∧ out.size ≤ 13 ∧ Hid (k * 10 ^ out.size ≤ k0) ∧ Hid (Below w.heap.size w wr)) (fun v _ _ => (intOf v).toNat)
  case atStart => exact ⟨k0, ByteArray.empty, Nat.le_refl _, rfl, rfl, rfl, by decide, (by show k0 * 10 ^ 0 ≤ k0; omega), Below.refl _ _⟩
  case round =>
    obtain ⟨k, out, hk, rfl, rfl, hm, hsz, hpw, hb⟩ := hrel
    by_cases hlt : 0 < k
    · have q0 : (0 : Int) < (k : Int) := by omega
      have hconv := one_string wr k
      have hd := digS_size k
      have hs12 : out.size ≤ 12 := by
        have h1' := hpw.out
        have h2 : 10 ^ out.size ≤ k * 10 ^ out.size := Nat.le_mul_of_pos_left _ hlt
        have h3 : 10 ^ out.size ≤ 10 ^ 12 := by omega
        exact (Nat.pow_le_pow_iff_right (by decide)).1 h3
      have HM := Lib.hid (show mdig (k / 10) (digS k ++ out) = mdig k0 ByteArray.empty by rw [← hm.out, mdig_pos hlt])
      have HPW := Lib.hid (show k / 10 * 10 ^ (digS k ++ out).size ≤ k0 by
        rw [app_size, hd, Nat.pow_add, ← Nat.mul_assoc]
        exact Nat.le_trans (Nat.mul_le_mul_right _ (by omega)) hpw.out)
      have HS := Lib.hid (show (digS k ++ out).size ≤ 13 by rw [app_size, hd]; omega)
      have hlen : ¬ 9223372036854775807 < (digS k).size + out.size := by omega
      go_wp2
      go_roundw
      case rel => exact ⟨k / 10, _, by omega, by go_num, rfl, HM.out, HS.out, HPW.out, hb.out.alloc hb.out.size _⟩
      case measure => simp [intOf]; omega
    · obtain rfl : k = 0 := by omega
      have HM := Lib.hid (show (⟨#[109]⟩ ++ out : ByteArray) = mtx k0 by rw [mtx, ← hm.out, mdig_zero])
      have hlen : ¬ 9223372036854775807 < (⟨#[109]⟩ : ByteArray).size + out.size := by show ¬ _ < 1 + _; omega
      go_wp2
      go_ret
      exact ⟨by rw [← HM.out]; rfl, hb.out⟩

def marksZ (k0 n : Nat) : List ByteArray := (List.range n).map (fun i => mtx (k0 + i))
theorem marksZ_len (k0 n : Nat) : (marksZ k0 n).length = n := by simp [marksZ]
theorem zith_marks {k0 n j : Nat} (h : j < n) : zith (marksZ k0 n) j = mtx (k0 + j) := by
  rw [zith_get (by rw [marksZ_len]; exact h)]; simp [marksZ]
set_option maxRecDepth 100000 in
set_option maxHeartbeats 1000000 in
theorem laws_markStringS (A : Option Addr) (n c B : Nat) (xs : List ByteArray) (k0 : Nat) (w : World) (h : OwnZ w B A n c xs) (hk0 : 0 < k0) (hk1 : k0 ≤ 1000000000) :
    Calls Try.prog 13 #[.slice A n c, .int .i64 k0] w fun e w' => e = .returned (.int .i64 ((k0 + n : Nat) : Int)) ∧ OwnZ w' B A n c (marksZ k0 n) ∧ w.grownBy w' (Value.slice A n c).ownBlock := by
  have hle := h.1
  have H := Lib.hid h
  clear h
  go_enter Try.func13, Try.ntmps13
  go_wp2
  go_loopw [1, 5] (fun q i wr => ∃ (k p : Nat) (ys : List ByteArray), k ≤ n ∧ p ≤ 1000000000 + k ∧ 0 < p ∧ i = .int .i64 k ∧ q = .int .i64 p ∧ Hid (p = k0 + k) ∧ Hid (OwnZ wr B A n c ys) ∧ Hid (∀ j, j < k → zith ys j = mtx (k0 + j)) ∧ Hid (w.grownBy wr (Value.slice A n c).ownBlock)) (fun _ i _ => n - (intOf i).toNat)
  case atStart => exact ⟨0, k0, xs, Nat.zero_le _, by omega, hk0, rfl, rfl, rfl, H, fun j hj => absurd hj (by omega), World.grownBy.refl _ _⟩
  case round =>
    obtain ⟨k, p, ys, hk, hp1, hp0, rfl, rfl, hp2, ho, hp, hb⟩ := hrel
    by_cases hlt : k < n
    · obtain ⟨g, rfl, _, _⟩ := ho.out.form (by omega)
      go_wp2_with fail
      refine (laws_markText _ _ hp0 (by omega)).mono ?_
      rintro e w2 ⟨rfl, hb2⟩
      have HB2 := Lib.hid hb2
      clear hb2
      have HO2 := Lib.hid (ho.out.next HB2.out)
      have s1 := OwnZ.st0 HO2.out hlt (mtx p)
      have d0 := OwnZ.at1 HO2.out hlt
      have f0 := HO2.out.frozenAt (by omega) k
      have S2 := Lib.hid s1.1
      have G2 := Lib.hid (grown_tr (grown_tr hb.out (grown_of_below HB2.out _)) s1.2)
      clear s1
      go_wp2
      go_roundw
      case rel =>
        refine ⟨k + 1, p + 1, _, by omega, by omega, by omega, by go_num, by go_num, (show p + 1 = k0 + (k + 1) by have := hp2.out; omega), S2.out, ?_, G2.out⟩
        have hl := ho.out.len
        intro j hj
        by_cases hjk : j = k
        · subst hjk
          rw [zith_set_self (by omega), hp2.out]
        · rw [zith_set_other hjk]; exact hp.out j (by omega)
      case measure => simp [intOf]; omega
    · go_wp2
      go_ret
      have hl := ho.out.len
      have ek : k = n := by omega
      have e : ys = marksZ k0 n := zext (by rw [marksZ_len]; exact hl) (fun j hj => by rw [zith_marks (by omega)]; exact hp.out j (by omega))
      exact ⟨by rw [← ek, ← hp2.out]; rfl, e ▸ ho.out, hb.out⟩

set_option maxRecDepth 100000 in
set_option maxHeartbeats 1000000 in
theorem laws_heldStringS (A : Option Addr) (n c k0 : Nat) (w : World) (h : RdZ w w.heap.size A n (marksZ k0 n)) (hk0 : 0 < k0) (hk1 : k0 ≤ 1000000000) :
    Calls Try.prog 14 #[.slice A n c, .int .i64 k0] w fun e w' => e = .returned (.int .i64 ((k0 + n : Nat) : Int)) ∧ Below w.heap.size w w' := by
  have hle := h.le
  have H := Lib.hid h
  clear h
  go_enter Try.func14, Try.ntmps14
  go_wp2
  go_loopw [1, 5] (fun q i wr => ∃ (k p : Nat), k ≤ n ∧ p ≤ 1000000000 + k ∧ 0 < p ∧ i = .int .i64 k ∧ q = .int .i64 p ∧ Hid (p = k0 + k) ∧ Hid (Below w.heap.size w wr)) (fun _ i _ => n - (intOf i).toNat)
  case atStart => exact ⟨0, k0, Nat.zero_le _, by omega, hk0, rfl, rfl, rfl, Below.refl _ _⟩
  case round =>
    obtain ⟨k, p, hk, hp1, hp0, rfl, rfl, hp2, hb⟩ := hrel
    by_cases hlt : k < n
    · obtain ⟨g, off, hA, hc0⟩ := RdZ.at1 (H.out.below hb.out) hlt
      obtain ⟨g', off', hA', hg', _⟩ := H.out.2.2 (by omega)
      rw [hA] at hA'
      cases hA'
      subst hA
      have hgs : g < wr.heap.size := by have := hb.out.size; omega
      rw [zith_marks hlt, ← hp2.out] at hc0
      have h0 : (0 : Int) ≤ (k : Int) := by omega
      have h1 : (k : Int) < (n : Int) := by omega
      go_wp2_with fail
      go_region_held3 (fun w' => w'.cell? ⟨g, off + k, none⟩ = some (.string (mtx p))) (go_keep) (first
        | (go_at_call 18; (with_reducible refine (laws_markText _ _ ?_ ?_).mono ?_); exact hp0; omega; rintro e w2 ⟨rfl, hb2⟩; have HB2 := Lib.hid (show Below wr.heap.size wr w2 from (Below.refl _ _).drew.trans hb2); have c2 := (HB2.out.cell (p := ⟨g, off + k, none⟩) hgs).trans hc0; clear hb2)
        | fail)
      all_goals
        go_wp2
        go_roundw
        case rel => exact ⟨k + 1, p + 1, by omega, by omega, by omega, by go_num, by go_num, (show p + 1 = k0 + (k + 1) by have := hp2.out; omega), hb.out.trans (HB2.out.mono hb.out.size)⟩
        case measure => simp [intOf]; omega
    · go_wp2
      go_ret
      have ek : k = n := by omega
      exact ⟨by rw [← ek, ← hp2.out]; rfl, hb.out⟩
end Go.Proofs.Yteoddpdjhkbaiaa
