/- Rows of strings; the laws' helpers on them. No condition. -/
import Derived.Test.YteoddpdjhkbaiaaDoorYg
import Derived.Deep.QuietTactic
import Derived.BigQuiet
import Derived.Deep.RegionHeld3
import Derived.Lib.Hide
set_option linter.unusedSimpArgs false
set_option linter.unusedVariables false
set_option maxRecDepth 100000
namespace Go.Proofs.YteoddpdjhkbaiaaDoor
open Go.RowKit

def zval (b : ByteArray) : List Value := [.string b]
theorem zlen (b : ByteArray) : (zval b).length = 1 := rfl
abbrev RdZ (w : World) (B : Nat) (A : Option Addr) (n : Nat) (l : List ByteArray) : Prop := RdG zval 1 w B A n l
abbrev OwnZ (w : World) (B : Nat) (A : Option Addr) (n c : Nat) (l : List ByteArray) : Prop := OwnG zval 1 9 w B A n c l
def zith (l : List ByteArray) (k : Nat) : ByteArray := l.getD k ByteArray.empty
theorem zith_get {l : List ByteArray} {k : Nat} (h : k < l.length) : zith l k = l[k] := by simp [zith, List.getD, List.getElem?_eq_getElem h]
theorem zith_some {l : List ByteArray} {k : Nat} (h : k < l.length) : l[k]? = some (zith l k) := by rw [zith_get h, List.getElem?_eq_getElem h]
theorem zith_set_self {l : List ByteArray} {k : Nat} {x : ByteArray} (h : k < l.length) : zith (l.set k x) k = x := by simp [zith, List.getD, h]
theorem zith_set_other {l : List ByteArray} {k j : Nat} {x : ByteArray} (h : j ≠ k) : zith (l.set k x) j = zith l j := by simp [zith, List.getD, List.getElem?_set_ne (Ne.symm h)]
theorem zext {xs ys : List ByteArray} (hl : xs.length = ys.length) (h : ∀ j, j < xs.length → zith xs j = zith ys j) : xs = ys := by
  apply List.ext_getElem hl
  intro j h1 h2
  have := h j h1
  rwa [zith_get h1, zith_get h2] at this
theorem RdZ.at1 {w : World} {B n : Nat} {A : Option Addr} {l : List ByteArray} (hr : RdZ w B A n l) {k : Nat} (hk : k < n) : ∃ g off, A = some ⟨g, off, none⟩ ∧ w.cell? ⟨g, off + k, none⟩ = some (.string (zith l k)) := by
  obtain ⟨g, off, x, e, hx, hc⟩ := hr.at_ hk
  have hl := hr.1
  rw [zith_some (by omega)] at hx
  cases hx
  have h := hc 0 _ rfl
  rw [Nat.mul_one, Nat.add_zero] at h
  exact ⟨g, off, e, h⟩
theorem OwnZ.at1 {w : World} {B n c g : Nat} {l : List ByteArray} (ho : OwnZ w B (some ⟨g, 0, none⟩) n c l) {k : Nat} (hk : k < n) : w.cell? ⟨g, k, none⟩ = some (.string (zith l k)) := by
  have hl := ho.len
  have h := ho.cellAt zlen (zith_some (l := l) (k := k) (by omega)) (j := 0) rfl
  rwa [Nat.mul_one, Nat.add_zero] at h
theorem OwnZ.st0 {w : World} {B n c g : Nat} {l : List ByteArray} (ho : OwnZ w B (some ⟨g, 0, none⟩) n c l) {k : Nat} (hk : k < n) (v : ByteArray) :
    OwnZ (w.setCell ⟨g, k, none⟩ (.string v)) B (some ⟨g, 0, none⟩) n c (l.set k v) ∧ w.grownBy (w.setCell ⟨g, k, none⟩ (.string v)) (some g) := by
  have h := ho.store zlen (zith_some (l := l) (k := k) (by have hl := ho.len; omega)) (j := 0) (x' := v) (v := .string v) (by omega) rfl
  rwa [Nat.mul_one, Nat.add_zero] at h
theorem str_info : (Tryd.prog.info? 9).map (fun i => (i.zero, i.size, i.bytes)) = some (some (.string ByteArray.empty), 1, 16) := by kernel_rfl
/-- one string is appended -/
theorem wpList_pushZ (w0 : World) (y : ByteArray) {ops : Array Oper} {rest : List Oper} {o : Oper} {a : Act} {Q : Exit → Act → World → Prop} (hgd : o.guard = none) (s x : Operand)
    (ho : o.op = .call { callee := .builtin .append, args := #[s, x], argTypes := #[33, 33] })
    (B : Nat) (A : Option Addr) (n c : Nat) (xs : List ByteArray) (hs : a.eval s = .slice A n c) (hown : OwnZ w0 B A n c xs)
    {N : Nat} (hx : a.eval x = .slice (some ⟨N, 0, none⟩) 1 1) (hN : w0.heap.size = N) (hn : n + 1 ≤ 2097152) (hbase : B ≤ w0.heap.size)
    (hK : ∀ g' c' w', OwnZ w' B (some ⟨g', 0, none⟩) (n + 1) c' (xs ++ [y]) → w0.grownBy w' (Value.slice A n c).ownBlock → ((Value.slice A n c).ownBlock = some g' ∨ w0.heap.size ≤ g') →
      wpList Tryd.prog ops Q rest (a.put o.dst (.slice (some ⟨g', 0, none⟩) (n + 1) c')) w') : wpList Tryd.prog ops Q (o :: rest) a (w0.alloc (.cells #[.string y] 9)) := by
  subst hN
  obtain ⟨i0, hi, hz0, hz1, hz2⟩ := info_parts str_info
  refine wpList_pushG zlen w0 y #[.string y] hgd s x _ ho B 9 i0 (.string ByteArray.empty) 16 Tryd.underlying33 hi hz0 hz1 hz2 (by omega) rfl (by omega) rfl ?_ A n c xs hs hown hx hn hbase hK
  intro u hu
  simp [zval] at hu
  subst hu; rfl


/-- the text of a mark -/
def mtx (k : Nat) : ByteArray := ⟨#[109]⟩ ++ mdig k ByteArray.empty

def marksZ (k0 n : Nat) : List ByteArray := (List.range n).map (fun i => mtx (k0 + i))
theorem marksZ_len (k0 n : Nat) : (marksZ k0 n).length = n := by simp [marksZ]
theorem zith_marks {k0 n j : Nat} (h : j < n) : zith (marksZ k0 n) j = mtx (k0 + j) := by
  rw [zith_get (by rw [marksZ_len]; exact h)]; simp [marksZ]

end Go.Proofs.YteoddpdjhkbaiaaDoor
