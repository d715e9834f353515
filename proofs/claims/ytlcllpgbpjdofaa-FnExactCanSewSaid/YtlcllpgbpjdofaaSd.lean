/- Walks of divide and SplitLayout, both sides. No condition. -/
import Derived.Test.YtlcllpgbpjdofaaCu
import Derived.Test.YtlcllpgbpjdofaaSp
set_option linter.unusedSimpArgs false
set_option linter.unusedVariables false
set_option maxRecDepth 100000
namespace Go.Proofs.Ytlcllpgbpjdofaa
open Go.RowKit

theorem gcell {W w1 : World} {row : Option Nat} (hg : W.grownBy w1 row) {b : Nat} (h : b < W.heap.size) (hne : row = some b → False) : (∀ o, w1.cell? ⟨b, o, none⟩ = W.cell? ⟨b, o, none⟩) ∧ (∀ o, w1.frozen? ⟨b, o, none⟩ = W.frozen? ⟨b, o, none⟩) ∧ b < w1.heap.size :=
  ⟨fun o => World.cell?_of_block (a := ⟨b, o, none⟩) (hg.block b h (fun e => hne e.symm)), fun o => World.frozen?_of_block (a := ⟨b, o, none⟩) (hg.block b h (fun e => hne e.symm)), Nat.lt_of_lt_of_le h hg.size⟩
/-- one patch is appended, in a region that draws its order -/
theorem step_pushP (w0 : World) (q : Pt) {cs : Array Value} {ops : Array Oper} {o : Oper} {a : Act} {K : Act → World → Prop} {Q : Exit → Act → World → Prop} {E : Prop} (hgd : o.guard = none) (s x : Operand)
    (ho : o.op = .call { callee := .builtin .append, args := #[s, x], argTypes := #[27, 27] }) (hcs : cs.toList = q.vals)
    (B : Nat) (A : Option Addr) (n c : Nat) (xs : List Pt) (hs : a.eval s = .slice A n c) (hown : OwnP w0 B A n c xs)
    {N : Nat} (hx : a.eval x = .slice (some ⟨N, 0, none⟩) 1 1) (hN : w0.heap.size = N) (hn : n + 1 ≤ 2097152) (hbase : B ≤ w0.heap.size)
    (hK : ∀ g' c' w', OwnP w' B (some ⟨g', 0, none⟩) (n + 1) c' (xs ++ [q]) → w0.grownBy w' (Value.slice A n c).ownBlock → ((Value.slice A n c).ownBlock = some g' ∨ w0.heap.size ≤ g') →
      K (a.put o.dst (.slice (some ⟨g', 0, none⟩) (n + 1) c')) w') : if Region.wanted o (yielded ops a.tmps) = true then Oper.wp Try.prog o a (w0.alloc (.cells cs 34)) K Q else E := by
  obtain ⟨i0, hi, hz0, hz1, hz2⟩ := info_parts patch_info
  refine step_push w0 cs hgd s x _ ho B 34 i0 (.agg #[.int .i64 0, .int .i64 0, .int .i64 0, .int .i64 0, .int .i64 0]) 5 40 Try.underlying27 hi hz0 hz1 hz2 rfl (by omega) A n c (xs.flatMap Pt.vals) hs hown.2.2 hx hN (by rw [← Array.length_toList, hcs]; rfl) ?_ (by unfold maxLen; omega) (by omega) hbase ?_
  · intro u hu
    rw [hcs] at hu
    simp [Pt.vals] at hu
    rcases hu with rfl | rfl | rfl | rfl | rfl <;> rfl
  · intro g' c' w' h2 h3 h4
    refine hK g' c' w' ⟨hn, by rw [List.length_append, hown.2.1]; rfl, ?_⟩ h3 h4
    rw [List.flatMap_append, List.flatMap_cons, List.flatMap_nil, List.append_nil, ← hcs]
    exact h2
/-- one patch is appended -/
theorem wpList_pushP' (w0 : World) (q : Pt) {cs : Array Value} {ops : Array Oper} {rest : List Oper} {o : Oper} {a : Act} {Q : Exit → Act → World → Prop} (hgd : o.guard = none) (s x : Operand)
    (ho : o.op = .call { callee := .builtin .append, args := #[s, x], argTypes := #[27, 27] }) (hcs : cs.toList = q.vals)
    (B : Nat) (A : Option Addr) (n c : Nat) (xs : List Pt) (hs : a.eval s = .slice A n c) (hown : OwnP w0 B A n c xs)
    {N : Nat} (hx : a.eval x = .slice (some ⟨N, 0, none⟩) 1 1) (hN : w0.heap.size = N) (hn : n + 1 ≤ 2097152) (hbase : B ≤ w0.heap.size)
    (hK : ∀ g' c' w', OwnP w' B (some ⟨g', 0, none⟩) (n + 1) c' (xs ++ [q]) → w0.grownBy w' (Value.slice A n c).ownBlock → ((Value.slice A n c).ownBlock = some g' ∨ w0.heap.size ≤ g') →
      wpList Try.prog ops Q rest (a.put o.dst (.slice (some ⟨g', 0, none⟩) (n + 1) c')) w') : wpList Try.prog ops Q (o :: rest) a (w0.alloc (.cells cs 34)) := by
  subst hN
  obtain ⟨i0, hi, hz0, hz1, hz2⟩ := info_parts patch_info
  refine wpList_pushG Pt.len w0 q cs hgd s x _ ho B 34 i0 (.agg #[.int .i64 0, .int .i64 0, .int .i64 0, .int .i64 0, .int .i64 0]) 40 Try.underlying27 hi hz0 hz1 hz2 (by omega) rfl (by omega) hcs ?_ A n c xs hs hown hx hn hbase hK
  intro u hu
  simp [Pt.vals] at hu
  rcases hu with rfl | rfl | rfl | rfl | rfl <;> rfl

theorem wpList_pushI' (w0 : World) (y : Int) {ops : Array Oper} {rest : List Oper} {o : Oper} {a : Act} {Q : Exit → Act → World → Prop} (hgd : o.guard = none) (s x : Operand)
    (ho : o.op = .call { callee := .builtin .append, args := #[s, x], argTypes := #[31, 31] })
    (B : Nat) (A : Option Addr) (n c : Nat) (xs : List Int) (hs : a.eval s = .slice A n c) (hown : OwnI w0 B A n c xs)
    {N : Nat} (hx : a.eval x = .slice (some ⟨N, 0, none⟩) 1 1) (hN : w0.heap.size = N) (hn : n + 1 ≤ 2097152) (hbase : B ≤ w0.heap.size)
    (hK : ∀ g' c' w', OwnI w' B (some ⟨g', 0, none⟩) (n + 1) c' (xs ++ [y]) → w0.grownBy w' (Value.slice A n c).ownBlock → ((Value.slice A n c).ownBlock = some g' ∨ w0.heap.size ≤ g') →
      wpList Try.prog ops Q rest (a.put o.dst (.slice (some ⟨g', 0, none⟩) (n + 1) c')) w') : wpList Try.prog ops Q (o :: rest) a (w0.alloc (.cells #[.int .i64 y] 3)) := by
  subst hN
  exact wpList_pushI w0 y hgd s x ho B A n c xs hs hown hx hn hbase hK

/-- a patch lies ahead of a line; the patch behind it, from the line on -/
def fstB (u : Bool) (a : Int) (p : Pt) : Bool := if u then decide (p.x < a) else decide (p.y < a)
def behP (u : Bool) (a : Int) (p : Pt) : Pt := if u then ⟨p.x - a, p.y, p.w, p.h, p.c⟩ else ⟨p.x, p.y - a, p.w, p.h, p.c⟩
def fstL (u : Bool) (a : Int) (ps : List Pt) : List Pt := ps.filter (fstB u a)
def sndL (u : Bool) (a : Int) (ps : List Pt) : List Pt := (ps.filter (fun p => !fstB u a p)).map (behP u a)
theorem fstL_t {u : Bool} {a : Int} {ps : List Pt} {k : Nat} (hk : k < ps.length) (h : fstB u a (pith ps k) = true) : fstL u a (ps.take (k + 1)) = fstL u a (ps.take k) ++ [pith ps k] := by
  rw [fstL, fstL, List.take_succ_eq_append_getElem hk, List.filter_append, ← pith_get hk]; simp [h]
theorem fstL_f {u : Bool} {a : Int} {ps : List Pt} {k : Nat} (hk : k < ps.length) (h : fstB u a (pith ps k) = false) : fstL u a (ps.take (k + 1)) = fstL u a (ps.take k) := by
  rw [fstL, fstL, List.take_succ_eq_append_getElem hk, List.filter_append, ← pith_get hk]; simp [h]
theorem sndL_t {u : Bool} {a : Int} {ps : List Pt} {k : Nat} (hk : k < ps.length) (h : fstB u a (pith ps k) = true) : sndL u a (ps.take (k + 1)) = sndL u a (ps.take k) := by
  rw [sndL, sndL, List.take_succ_eq_append_getElem hk, List.filter_append, ← pith_get hk]; simp [h]
theorem sndL_f {u : Bool} {a : Int} {ps : List Pt} {k : Nat} (hk : k < ps.length) (h : fstB u a (pith ps k) = false) : sndL u a (ps.take (k + 1)) = sndL u a (ps.take k) ++ [behP u a (pith ps k)] := by
  rw [sndL, sndL, List.take_succ_eq_append_getElem hk, List.filter_append, ← pith_get hk]; simp [h]
theorem fstL_len (u : Bool) (a : Int) (ps : List Pt) (k : Nat) : (fstL u a (ps.take k)).length ≤ k := Nat.le_trans (List.length_filter_le _ _) (List.length_take_le _ _)
theorem sndL_len (u : Bool) (a : Int) (ps : List Pt) (k : Nat) : (sndL u a (ps.take k)).length ≤ k := by
  rw [sndL, List.length_map]
  exact Nat.le_trans (List.length_filter_le _ _) (List.length_take_le _ _)

/-- two rows lie in different blocks -/
def Ap (u v : Value) : Prop := ∀ g, u.ownBlock = some g → v.ownBlock = some g → False
theorem Ap.symm {u v : Value} (h : Ap u v) : Ap v u := fun g a b => h g b a
theorem Ap.push {u v : Value} (h : Ap u v) {s g' n c : Nat} (hv : ∀ k, v.ownBlock = some k → k < s) (hg : u.ownBlock = some g' ∨ s ≤ g') : Ap (.slice (some ⟨g', 0, none⟩) n c) v := by
  intro g e1 e2
  simp only [Value.ownBlock, Option.some.injEq] at e1
  subst e1
  rcases hg with h4 | h4
  · exact h _ h4 e2
  · have := hv _ e2; omega
theorem Ap.nil_ (v : Value) : Ap (.slice none 0 0) v := by
  intro g e; simp [Value.ownBlock] at e
/-- two rows of patches and two of numbers, each in its own block -/
structure Rows4 (w : World) (B : Nat) (A1 : Option Addr) (n1 c1 : Nat) (A2 : Option Addr) (n2 c2 : Nat) (A3 : Option Addr) (n3 c3 : Nat) (A4 : Option Addr) (n4 c4 : Nat) (xs ys : List Pt) (is js : List Int) : Prop where
  r1 : OwnP w B A1 n1 c1 xs
  r2 : OwnP w B A2 n2 c2 ys
  r3 : OwnI w B A3 n3 c3 is
  r4 : OwnI w B A4 n4 c4 js
  a12 : Ap (.slice A1 n1 c1) (.slice A2 n2 c2)
  a13 : Ap (.slice A1 n1 c1) (.slice A3 n3 c3)
  a14 : Ap (.slice A1 n1 c1) (.slice A4 n4 c4)
  a23 : Ap (.slice A2 n2 c2) (.slice A3 n3 c3)
  a24 : Ap (.slice A2 n2 c2) (.slice A4 n4 c4)
  a34 : Ap (.slice A3 n3 c3) (.slice A4 n4 c4)
theorem OwnI.keep' {w w' : World} {B n c : Nat} {A : Option Addr} {xs : List Int} {row : Option Nat} (h : OwnI w B A n c xs) (hg : w.grownBy w' row) (hne : ∀ k, (Value.slice A n c).ownBlock = some k → row ≠ some k) : OwnI w' B A n c xs := by
  refine h.kept hg ?_
  rcases hq : (Value.slice A n c).ownBlock with _ | g
  · exact .inl rfl
  · exact .inr (fun e => hne g hq e.symm)
section
variable {w w' : World} {B n1 c1 n2 c2 n3 c3 n4 c4 : Nat} {A1 A2 A3 A4 : Option Addr} {xs ys : List Pt} {is js : List Int}
theorem Rows4.next (h : Rows4 w B A1 n1 c1 A2 n2 c2 A3 n3 c3 A4 n4 c4 xs ys is js) (hb : Below w.heap.size w w') : Rows4 w' B A1 n1 c1 A2 n2 c2 A3 n3 c3 A4 n4 c4 xs ys is js :=
  ⟨h.r1.next hb, h.r2.next hb, h.r3.next hb, h.r4.next hb, h.a12, h.a13, h.a14, h.a23, h.a24, h.a34⟩
theorem OwnI.setB {w : World} {B n c : Nat} {A : Option Addr} {xs : List Int} (h : OwnI w B A n c xs) {p : Addr} (hp : p.block < B) (u : Value) : OwnI (w.setCell p u) B A n c xs := ⟨h.1, ownsRow_setCell_below h.2 hp u⟩
theorem Rows4.set_ (h : Rows4 w B A1 n1 c1 A2 n2 c2 A3 n3 c3 A4 n4 c4 xs ys is js) {p : Addr} (hp : p.block < B) (u : Value) : Rows4 (w.setCell p u) B A1 n1 c1 A2 n2 c2 A3 n3 c3 A4 n4 c4 xs ys is js :=
  ⟨h.r1.set_ hp u, h.r2.set_ hp u, h.r3.setB hp u, h.r4.setB hp u, h.a12, h.a13, h.a14, h.a23, h.a24, h.a34⟩
theorem Rows4.base {B' : Nat} (h : Rows4 w B A1 n1 c1 A2 n2 c2 A3 n3 c3 A4 n4 c4 xs ys is js) (hB : B' ≤ B) : Rows4 w B' A1 n1 c1 A2 n2 c2 A3 n3 c3 A4 n4 c4 xs ys is js :=
  ⟨h.r1.base hB, h.r2.base hB, h.r3.base hB, h.r4.base hB, h.a12, h.a13, h.a14, h.a23, h.a24, h.a34⟩
theorem Rows4.drew_ (h : Rows4 w B A1 n1 c1 A2 n2 c2 A3 n3 c3 A4 n4 c4 xs ys is js) : Rows4 w.drew B A1 n1 c1 A2 n2 c2 A3 n3 c3 A4 n4 c4 xs ys is js := h.next (Below.drew (Below.refl _ _))
theorem Rows4.drewN_ (h : Rows4 w B A1 n1 c1 A2 n2 c2 A3 n3 c3 A4 n4 c4 xs ys is js) (m : Nat) : Rows4 (w.drewN m) B A1 n1 c1 A2 n2 c2 A3 n3 c3 A4 n4 c4 xs ys is js := h.next (Below.drewN (Below.refl _ _) m)
theorem OwnG.drew_ {α : Type} {vals : α → List Value} {m n c : Nat} {T : TypeId} {A : Option Addr} {zs : List α} (h : OwnG vals m T w B A n c zs) : OwnG vals m T w.drew B A n c zs := h.next (Below.drew (Below.refl _ _))
theorem OwnG.alloc_ {α : Type} {vals : α → List Value} {m n c : Nat} {T : TypeId} {A : Option Addr} {zs : List α} (h : OwnG vals m T w B A n c zs) (o : Obj) : OwnG vals m T (w.alloc o) B A n c zs := h.next ((Below.refl _ _).alloc (Nat.le_refl _) o)
theorem OwnG.drewN_ {α : Type} {vals : α → List Value} {m n c : Nat} {T : TypeId} {A : Option Addr} {zs : List α} (h : OwnG vals m T w B A n c zs) (k : Nat) : OwnG vals m T (w.drewN k) B A n c zs := h.next (Below.drewN (Below.refl _ _) k)
theorem Rows4.push1 (h : Rows4 w B A1 n1 c1 A2 n2 c2 A3 n3 c3 A4 n4 c4 xs ys is js) {g' m c' : Nat} {zs : List Pt} (ho : OwnP w' B (some ⟨g', 0, none⟩) m c' zs) (hg : w.grownBy w' (Value.slice A1 n1 c1).ownBlock) (hn : (Value.slice A1 n1 c1).ownBlock = some g' ∨ w.heap.size ≤ g') :
    Rows4 w' B (some ⟨g', 0, none⟩) m c' A2 n2 c2 A3 n3 c3 A4 n4 c4 zs ys is js :=
  ⟨ho, h.r2.keep hg (fun k e e2 => h.a12 k e2 e), h.r3.keep' hg (fun k e e2 => h.a13 k e2 e), h.r4.keep' hg (fun k e e2 => h.a14 k e2 e), h.a12.push (fun k e => (h.r2.lt k e).2) hn, h.a13.push (fun k e => (h.r3.lt k e).2) hn, h.a14.push (fun k e => (h.r4.lt k e).2) hn, h.a23, h.a24, h.a34⟩
theorem Rows4.push2 (h : Rows4 w B A1 n1 c1 A2 n2 c2 A3 n3 c3 A4 n4 c4 xs ys is js) {g' m c' : Nat} {zs : List Pt} (ho : OwnP w' B (some ⟨g', 0, none⟩) m c' zs) (hg : w.grownBy w' (Value.slice A2 n2 c2).ownBlock) (hn : (Value.slice A2 n2 c2).ownBlock = some g' ∨ w.heap.size ≤ g') :
    Rows4 w' B A1 n1 c1 (some ⟨g', 0, none⟩) m c' A3 n3 c3 A4 n4 c4 xs zs is js :=
  ⟨h.r1.keep hg (fun k e e2 => h.a12 k e e2), ho, h.r3.keep' hg (fun k e e2 => h.a23 k e2 e), h.r4.keep' hg (fun k e e2 => h.a24 k e2 e), (h.a12.symm.push (fun k e => (h.r1.lt k e).2) hn).symm, h.a13, h.a14, h.a23.push (fun k e => (h.r3.lt k e).2) hn, h.a24.push (fun k e => (h.r4.lt k e).2) hn, h.a34⟩
theorem Rows4.push3 (h : Rows4 w B A1 n1 c1 A2 n2 c2 A3 n3 c3 A4 n4 c4 xs ys is js) {g' m c' : Nat} {zs : List Int} (ho : OwnI w' B (some ⟨g', 0, none⟩) m c' zs) (hg : w.grownBy w' (Value.slice A3 n3 c3).ownBlock) (hn : (Value.slice A3 n3 c3).ownBlock = some g' ∨ w.heap.size ≤ g') :
    Rows4 w' B A1 n1 c1 A2 n2 c2 (some ⟨g', 0, none⟩) m c' A4 n4 c4 xs ys zs js :=
  ⟨h.r1.keep hg (fun k e e2 => h.a13 k e e2), h.r2.keep hg (fun k e e2 => h.a23 k e e2), ho, h.r4.keep' hg (fun k e e2 => h.a34 k e2 e), h.a12, (h.a13.symm.push (fun k e => (h.r1.lt k e).2) hn).symm, h.a14, (h.a23.symm.push (fun k e => (h.r2.lt k e).2) hn).symm, h.a24, h.a34.push (fun k e => (h.r4.lt k e).2) hn⟩
theorem Rows4.push4 (h : Rows4 w B A1 n1 c1 A2 n2 c2 A3 n3 c3 A4 n4 c4 xs ys is js) {g' m c' : Nat} {zs : List Int} (ho : OwnI w' B (some ⟨g', 0, none⟩) m c' zs) (hg : w.grownBy w' (Value.slice A4 n4 c4).ownBlock) (hn : (Value.slice A4 n4 c4).ownBlock = some g' ∨ w.heap.size ≤ g') :
    Rows4 w' B A1 n1 c1 A2 n2 c2 A3 n3 c3 (some ⟨g', 0, none⟩) m c' xs ys is zs :=
  ⟨h.r1.keep hg (fun k e e2 => h.a14 k e e2), h.r2.keep hg (fun k e e2 => h.a24 k e e2), h.r3.keep' hg (fun k e e2 => h.a34 k e e2), ho, h.a12, h.a13, (h.a14.symm.push (fun k e => (h.r1.lt k e).2) hn).symm, h.a23, (h.a24.symm.push (fun k e => (h.r2.lt k e).2) hn).symm, (h.a34.symm.push (fun k e => (h.r3.lt k e).2) hn).symm⟩
end
/-- the parts' cells (block P) and the numbers' cells (block K) -/
structure Pair4 (w : World) (P K : Nat) (z1 y1 : Int) (A1 : Option Addr) (n1 c1 : Nat) (z2 y2 : Int) (A2 : Option Addr) (n2 c2 : Nat) (A3 : Option Addr) (n3 c3 : Nat) (A4 : Option Addr) (n4 c4 : Nat) : Prop where
  x0 : w.cell? ⟨P, 0, none⟩ = some (.int .i64 z1)
  x1 : w.cell? ⟨P, 1, none⟩ = some (.int .i64 y1)
  x2 : w.cell? ⟨P, 2, none⟩ = some (.slice A1 n1 c1)
  x3 : w.cell? ⟨P, 3, none⟩ = some (.int .i64 z2)
  x4 : w.cell? ⟨P, 4, none⟩ = some (.int .i64 y2)
  x5 : w.cell? ⟨P, 5, none⟩ = some (.slice A2 n2 c2)
  k0 : w.cell? ⟨K, 0, none⟩ = some (.slice A3 n3 c3)
  k1 : w.cell? ⟨K, 1, none⟩ = some (.slice A4 n4 c4)
  fx : ∀ o, w.frozen? ⟨P, o, none⟩ = false
  fk : ∀ o, w.frozen? ⟨K, o, none⟩ = false
section
variable {w w' : World} {P K n1 c1 n2 c2 n3 c3 n4 c4 : Nat} {A1 A2 A3 A4 : Option Addr} {z1 y1 z2 y2 : Int}
theorem Pair4.move (h : Pair4 w P K z1 y1 A1 n1 c1 z2 y2 A2 n2 c2 A3 n3 c3 A4 n4 c4) (h1 : ∀ o, w'.cell? ⟨P, o, none⟩ = w.cell? ⟨P, o, none⟩) (h2 : ∀ o, w'.frozen? ⟨P, o, none⟩ = w.frozen? ⟨P, o, none⟩) (h3 : ∀ o, w'.cell? ⟨K, o, none⟩ = w.cell? ⟨K, o, none⟩) (h4 : ∀ o, w'.frozen? ⟨K, o, none⟩ = w.frozen? ⟨K, o, none⟩) :
    Pair4 w' P K z1 y1 A1 n1 c1 z2 y2 A2 n2 c2 A3 n3 c3 A4 n4 c4 :=
  ⟨(h1 _).trans h.x0, (h1 _).trans h.x1, (h1 _).trans h.x2, (h1 _).trans h.x3, (h1 _).trans h.x4, (h1 _).trans h.x5, (h3 _).trans h.k0, (h3 _).trans h.k1, fun o => (h2 o).trans (h.fx o), fun o => (h4 o).trans (h.fk o)⟩
theorem Pair4.below (h : Pair4 w P K z1 y1 A1 n1 c1 z2 y2 A2 n2 c2 A3 n3 c3 A4 n4 c4) {B : Nat} (hb : Below B w w') (hP : P < B) (hK : K < B) : Pair4 w' P K z1 y1 A1 n1 c1 z2 y2 A2 n2 c2 A3 n3 c3 A4 n4 c4 :=
  h.move (fun o => hb.cell (p := ⟨P, o, none⟩) (by dsimp only; omega)) (fun o => hb.frozen (p := ⟨P, o, none⟩) (by dsimp only; omega)) (fun o => hb.cell (p := ⟨K, o, none⟩) (by dsimp only; omega)) (fun o => hb.frozen (p := ⟨K, o, none⟩) (by dsimp only; omega))
theorem Pair4.grown (h : Pair4 w P K z1 y1 A1 n1 c1 z2 y2 A2 n2 c2 A3 n3 c3 A4 n4 c4) {row : Option Nat} (hg : w.grownBy w' row) (hP : P < w.heap.size) (hK : K < w.heap.size) (hr : ∀ g, row = some g → P < g ∧ K < g) : Pair4 w' P K z1 y1 A1 n1 c1 z2 y2 A2 n2 c2 A3 n3 c3 A4 n4 c4 := by
  obtain ⟨a, b, _⟩ := gcell hg (b := P) (by omega) (fun e => by have := hr _ e; omega)
  obtain ⟨c, d, _⟩ := gcell hg (b := K) (by omega) (fun e => by have := hr _ e; omega)
  exact h.move a b c d
theorem Pair4.st1 (h : Pair4 w P K z1 y1 A1 n1 c1 z2 y2 A2 n2 c2 A3 n3 c3 A4 n4 c4) (hPK : P < K) (A : Option Addr) (n c : Nat) : Pair4 (w.setCell ⟨P, 2, none⟩ (.slice A n c)) P K z1 y1 A n c z2 y2 A2 n2 c2 A3 n3 c3 A4 n4 c4 :=
  ⟨(World.cell?_setCell_other _ _ _ _ (by simp <;> omega)).trans h.x0, (World.cell?_setCell_other _ _ _ _ (by simp <;> omega)).trans h.x1, World.cell?_setCell_same _ _ _ h.x2, (World.cell?_setCell_other _ _ _ _ (by simp <;> omega)).trans h.x3, (World.cell?_setCell_other _ _ _ _ (by simp <;> omega)).trans h.x4, (World.cell?_setCell_other _ _ _ _ (by simp <;> omega)).trans h.x5, (World.cell?_setCell_other _ _ _ _ (by simp <;> omega)).trans h.k0, (World.cell?_setCell_other _ _ _ _ (by simp <;> omega)).trans h.k1, fun o => by rw [World.frozen?_setCell]; exact h.fx o, fun o => by rw [World.frozen?_setCell]; exact h.fk o⟩
theorem Pair4.st2 (h : Pair4 w P K z1 y1 A1 n1 c1 z2 y2 A2 n2 c2 A3 n3 c3 A4 n4 c4) (hPK : P < K) (A : Option Addr) (n c : Nat) : Pair4 (w.setCell ⟨P, 5, none⟩ (.slice A n c)) P K z1 y1 A1 n1 c1 z2 y2 A n c A3 n3 c3 A4 n4 c4 :=
  ⟨(World.cell?_setCell_other _ _ _ _ (by simp <;> omega)).trans h.x0, (World.cell?_setCell_other _ _ _ _ (by simp <;> omega)).trans h.x1, (World.cell?_setCell_other _ _ _ _ (by simp <;> omega)).trans h.x2, (World.cell?_setCell_other _ _ _ _ (by simp <;> omega)).trans h.x3, (World.cell?_setCell_other _ _ _ _ (by simp <;> omega)).trans h.x4, World.cell?_setCell_same _ _ _ h.x5, (World.cell?_setCell_other _ _ _ _ (by simp <;> omega)).trans h.k0, (World.cell?_setCell_other _ _ _ _ (by simp <;> omega)).trans h.k1, fun o => by rw [World.frozen?_setCell]; exact h.fx o, fun o => by rw [World.frozen?_setCell]; exact h.fk o⟩
theorem Pair4.st3 (h : Pair4 w P K z1 y1 A1 n1 c1 z2 y2 A2 n2 c2 A3 n3 c3 A4 n4 c4) (hPK : P < K) (A : Option Addr) (n c : Nat) : Pair4 (w.setCell ⟨K, 0, none⟩ (.slice A n c)) P K z1 y1 A1 n1 c1 z2 y2 A2 n2 c2 A n c A4 n4 c4 :=
  ⟨(World.cell?_setCell_other _ _ _ _ (by simp <;> omega)).trans h.x0, (World.cell?_setCell_other _ _ _ _ (by simp <;> omega)).trans h.x1, (World.cell?_setCell_other _ _ _ _ (by simp <;> omega)).trans h.x2, (World.cell?_setCell_other _ _ _ _ (by simp <;> omega)).trans h.x3, (World.cell?_setCell_other _ _ _ _ (by simp <;> omega)).trans h.x4, (World.cell?_setCell_other _ _ _ _ (by simp <;> omega)).trans h.x5, World.cell?_setCell_same _ _ _ h.k0, (World.cell?_setCell_other _ _ _ _ (by simp <;> omega)).trans h.k1, fun o => by rw [World.frozen?_setCell]; exact h.fx o, fun o => by rw [World.frozen?_setCell]; exact h.fk o⟩
theorem Pair4.st4 (h : Pair4 w P K z1 y1 A1 n1 c1 z2 y2 A2 n2 c2 A3 n3 c3 A4 n4 c4) (hPK : P < K) (A : Option Addr) (n c : Nat) : Pair4 (w.setCell ⟨K, 1, none⟩ (.slice A n c)) P K z1 y1 A1 n1 c1 z2 y2 A2 n2 c2 A3 n3 c3 A n c :=
  ⟨(World.cell?_setCell_other _ _ _ _ (by simp <;> omega)).trans h.x0, (World.cell?_setCell_other _ _ _ _ (by simp <;> omega)).trans h.x1, (World.cell?_setCell_other _ _ _ _ (by simp <;> omega)).trans h.x2, (World.cell?_setCell_other _ _ _ _ (by simp <;> omega)).trans h.x3, (World.cell?_setCell_other _ _ _ _ (by simp <;> omega)).trans h.x4, (World.cell?_setCell_other _ _ _ _ (by simp <;> omega)).trans h.x5, (World.cell?_setCell_other _ _ _ _ (by simp <;> omega)).trans h.k0, World.cell?_setCell_same _ _ _ h.k1, fun o => by rw [World.frozen?_setCell]; exact h.fx o, fun o => by rw [World.frozen?_setCell]; exact h.fk o⟩
end

set_option maxRecDepth 100000 in
set_option maxHeartbeats 2000000 in
theorem impl_divide_true (z y : Int) (A : Option Addr) (n c : Nat) (ps : List Pt) (a : Int) (w : World) (h : RdP w w.heap.size A n ps) (hbk : layB z y ps = true) (ha1 : 0 ≤ a) (ha2 : a ≤ 12) :
    Calls Try.prog 102 #[.agg #[.int .i64 z, .int .i64 y, .slice A n c], .agg #[.bool true, .int .i64 a]] w fun e w' => ∃ A1 n1 c1 A2 n2 c2 A3 n3 c3 A4 n4 c4 is js, e = .returned (.tuple #[.agg #[.int .i64 a, .int .i64 y, .slice A1 n1 c1, .int .i64 (z - a), .int .i64 y, .slice A2 n2 c2], .agg #[.slice A3 n3 c3, .slice A4 n4 c4]]) ∧ Rows4 w' w.heap.size A1 n1 c1 A2 n2 c2 A3 n3 c3 A4 n4 c4 (fstL true a ps) (sndL true a ps) is js ∧ Below w.heap.size w w' := by
  have hs := lt2
  obtain ⟨hz1', hz2', hq1', hq2', hn1', hn2'⟩ := dimOk_t (layB_p hbk).1
  have hle := h.le
  have HL := Lib.hid h.1
  have HA := Lib.hid (layB_p hbk).2.1
  have H := Lib.hid h
  rw [h.1] at hn1' hn2'
  clear h hbk
  go_enter Try.func102, Try.ntmps102
  go_wp2
  go_loopw [47] (fun i wr => ∃ (k n1 c1 n2 c2 n3 c3 n4 c4 : Nat) (A1 A2 A3 A4 : Option Addr) (is js : List Int), k ≤ n ∧ n1 ≤ k ∧ n2 ≤ k ∧ n3 ≤ k ∧ n4 ≤ k ∧ i = .int .i64 k ∧ w.heap.size + 5 < wr.heap.size ∧ Hid (wr.cell? ⟨w.heap.size, 0, none⟩ = some (.int .i64 z) ∧ wr.cell? ⟨w.heap.size, 1, none⟩ = some (.int .i64 y) ∧ wr.cell? ⟨w.heap.size, 2, none⟩ = some (.slice A n c) ∧ wr.cell? ⟨w.heap.size + 1, 0, none⟩ = some (.bool true) ∧ wr.cell? ⟨w.heap.size + 1, 1, none⟩ = some (.int .i64 a)) ∧ Hid (wr.cell? ⟨w.heap.size + 2, 0, none⟩ = some (.int .i64 0) ∧ wr.cell? ⟨w.heap.size + 2, 1, none⟩ = some (.int .i64 0) ∧ wr.cell? ⟨w.heap.size + 2, 2, none⟩ = some (.slice none 0 0) ∧ wr.cell? ⟨w.heap.size + 2, 3, none⟩ = some (.int .i64 0) ∧ wr.cell? ⟨w.heap.size + 2, 4, none⟩ = some (.int .i64 0) ∧ wr.cell? ⟨w.heap.size + 2, 5, none⟩ = some (.slice none 0 0) ∧ wr.cell? ⟨w.heap.size + 3, 0, none⟩ = some (.slice none 0 0) ∧ wr.cell? ⟨w.heap.size + 3, 1, none⟩ = some (.slice none 0 0) ∧ (∀ o, wr.frozen? ⟨w.heap.size + 2, o, none⟩ = false) ∧ (∀ o, wr.frozen? ⟨w.heap.size + 3, o, none⟩ = false)) ∧ Hid (Pair4 wr (w.heap.size + 4) (w.heap.size + 5) a y A1 n1 c1 (z - a) y A2 n2 c2 A3 n3 c3 A4 n4 c4) ∧ Hid (Rows4 wr (w.heap.size + 6) A1 n1 c1 A2 n2 c2 A3 n3 c3 A4 n4 c4 (fstL true a (ps.take k)) (sndL true a (ps.take k)) is js) ∧ Hid (Below w.heap.size w wr)) (fun i _ => n - (intOf i).toNat)
  case atStart =>
    refine ⟨0, 0, 0, 0, 0, 0, 0, 0, 0, none, none, none, none, [], [], by omega, by omega, by omega, by omega, by omega, rfl, by simp, ⟨by simp [go_sem], by simp [go_sem], by simp [go_sem], by simp [go_sem], by simp [go_sem]⟩, ⟨by simp [go_sem], by simp [go_sem], by simp [go_sem], by simp [go_sem], by simp [go_sem], by simp [go_sem], by simp [go_sem], by simp [go_sem], fun o => by simp [go_sem], fun o => by simp [go_sem]⟩, ⟨by simp [go_sem], by simp [go_sem], by simp [go_sem], by simp [go_sem], by simp [go_sem], by simp [go_sem], by simp [go_sem], by simp [go_sem], fun o => by simp [go_sem], fun o => by simp [go_sem]⟩, ?_, ?_⟩
    · exact ⟨OwnG.nil_, OwnG.nil_, ⟨by omega, World.ownsRow_nil _ _ _ 1⟩, ⟨by omega, World.ownsRow_nil _ _ _ 1⟩, Ap.nil_ _, Ap.nil_ _, Ap.nil_ _, Ap.nil_ _, Ap.nil_ _, Ap.nil_ _⟩
    · show Below _ _ _
      (repeat' (first | (with_reducible exact Below.refl _ _) | (with_reducible refine Below.setCell ?_ ?_ _) | (with_reducible refine Below.alloc ?_ ?_ _) | (with_reducible refine Below.drew ?_) | (with_reducible refine Below.drewN ?_ _) | (with_reducible refine Below.trans ?_ (Below.mono (by with_reducible assumption) ?_)) | go_size | (dsimp only; omega)))
  case round =>
    obtain ⟨k, n1, c1, n2, c2, n3, c3, n4, c4, A1, A2, A3, A4, is, js, hk, hm1, hm2, hm3, hm4, rfl, hwr, hbx, hrx, hpr, hro, hb⟩ := hrel
    have HRD := Lib.hid (H.out.below' hb.out (show w.heap.size ≤ wr.heap.size by omega))
    have hzr : w.heap.size < wr.heap.size := by omega
    have hzr1 : w.heap.size + 1 < wr.heap.size := by omega
    by_cases hlt : k < n
    · obtain ⟨p0, p1, p2, p3, p4⟩ := hbx.out
      obtain ⟨g, off, rfl, d0, d1, d2, d3, d4⟩ := RdP.at5 HRD.out hlt
      obtain ⟨a1, a2, a3, a4, a5, a6, _, _⟩ := okPt_t (HA.out k (by rw [HL.out]; exact hlt))
      have hkp : k < ps.length := by rw [HL.out]; exact hlt
      have HK := Lib.hid hkp
      clear hkp
      by_cases hq : (pith ps k).x < a
      · have HS1 := Lib.hid (fstL_t (u := true) (a := a) HK.out (show fstB true a (pith ps k) = true from decide_eq_true hq))
        have HS2 := Lib.hid (sndL_t (u := true) (a := a) HK.out (show fstB true a (pith ps k) = true from decide_eq_true hq))
        have hdq : decide ((pith ps k).x < a) = true := decide_eq_true hq
        have HDQ := Lib.hid hdq
        clear hdq
        go_wp2_with (go_at_call 117; (with_reducible refine (impl_sides_true _ (pith ps k) _ ?_ ?_ ?_ ?_).mono ?_); (iterate 4 omega); rintro e w4 ⟨rfl, hb4⟩; rw [HDQ.out]; have HB4 := Lib.hid (show Below wr.heap.size wr w4 from ((Below.refl wr.heap.size wr).alloc (Nat.le_refl _) _).trans (hb4.mono (by simp))); have hx4 := bsize hb4; (try simp at hx4); obtain ⟨qc, qf, qz⟩ := bcell hb4 (b := wr.heap.size) (by simp); have e0 : w4.cell? ⟨wr.heap.size, 0, none⟩ = some (.int .i64 (pith ps k).x) := (qc 0).trans (by rw [World.cell?_alloc_new]; rfl); have e1 : w4.cell? ⟨wr.heap.size, 1, none⟩ = some (.int .i64 (pith ps k).y) := (qc 1).trans (by rw [World.cell?_alloc_new]; rfl); have e2 : w4.cell? ⟨wr.heap.size, 2, none⟩ = some (.int .i64 (pith ps k).w) := (qc 2).trans (by rw [World.cell?_alloc_new]; rfl); have e3 : w4.cell? ⟨wr.heap.size, 3, none⟩ = some (.int .i64 (pith ps k).h) := (qc 3).trans (by rw [World.cell?_alloc_new]; rfl); have e4 : w4.cell? ⟨wr.heap.size, 4, none⟩ = some (.int .i64 (pith ps k).c) := (qc 4).trans (by rw [World.cell?_alloc_new]; rfl); have ef : ∀ o, w4.frozen? ⟨wr.heap.size, o, none⟩ = false := (fun o => (qf o).trans (by simp [go_sem])); have q3 : w4.cell? ⟨w.heap.size + 1, 0, none⟩ = some (.bool true) := (HB4.out.cell (p := ⟨w.heap.size + 1, 0, none⟩) (by dsimp only; omega)).trans p3; have q4 : w4.cell? ⟨w.heap.size + 1, 1, none⟩ = some (.int .i64 a) := (HB4.out.cell (p := ⟨w.heap.size + 1, 1, none⟩) (by dsimp only; omega)).trans p4; obtain ⟨x0, x1, x2, x3, x4, x5, k0, k1, fx, fk⟩ := hpr.out.below HB4.out (by omega) (by omega); have hz4 : w.heap.size + 4 < w4.heap.size := (by have := HB4.out.size; omega); have hz5 : w.heap.size + 5 < w4.heap.size := (by have := HB4.out.size; omega); clear hb4 qc qf)
        go_region_law (refine step_pushP _ (pith ps k) (by rfl) _ _ (by rfl) rfl (w.heap.size + 6) A1 n1 c1 _ (by rfl) ((hro.out.next (Below.drew HB4.out)).r1) (by rfl) (by first | rfl | simp) (by omega) (by have := HB4.out.size; simp; omega) ?_; intro g5 c5 w5 ho5 hg5 hn5; have HRq := (hro.out.next (Below.drew HB4.out)); have HR5 := Lib.hid (HRq.push1 ho5 hg5 hn5); have HP5 := Lib.hid ((hpr.out.below (Below.drew HB4.out) (by omega) (by omega)).grown hg5 (by simp; omega) (by simp; omega) (fun g e => by have := (HRq.r1.lt g e).1; omega)); obtain ⟨y0, yy1, y2, y3, y4, y5, v0, v1, gx, gk⟩ := HP5.out; have hx5 := hg5.size; (try simp at hx5); have HB5 := Lib.hid (show Below (w.heap.size + 4) wr w5 from ((Below.drew HB4.out).mono (show w.heap.size + 4 ≤ wr.heap.size by omega)).trans ((HRq.r1.belowOwn hg5 (by simp; omega)).mono (by omega))); clear ho5 hg5 hn5 HRq)
        all_goals
          go_wp2_with (at_builtin; refine wpList_pushI' _ (k : Int) rfl _ _ rfl (w.heap.size + 6) _ _ _ _ rfl ((HR5.out.set_ (p := ⟨w.heap.size + 4, 2, none⟩) (by dsimp only; omega) _).r3) rfl (by simp) (by omega) (by simp; omega) ?_; intro g6 c6 w6 ho6 hg6 hn6; have HRq := (HR5.out.set_ (p := ⟨w.heap.size + 4, 2, none⟩) (by dsimp only; omega) (.slice (some ⟨g5, 0, none⟩) (n1 + 1) c5)); have HR6 := Lib.hid (HRq.push3 ho6 hg6 hn6); have HP6 := Lib.hid ((HP5.out.st1 (by omega) (some ⟨g5, 0, none⟩) (n1 + 1) c5).grown hg6 (by simp; omega) (by simp; omega) (fun g e => by have := (HRq.r3.lt g e).1; omega)); obtain ⟨_, _, _, _, _, _, s0, s1, jx, jk⟩ := HP6.out; have hx6 := hg6.size; (try simp at hx6); have HB6 := Lib.hid (show Below (w.heap.size + 4) wr w6 from (HB5.out.setCell (Nat.le_refl _) _).trans ((HRq.r3.belowOwn hg6 (by simp; omega)).mono (by omega))); clear ho6 hg6 hn6 HRq)
          go_roundw
          case rel =>
            have HB7 := HB6.out.setCell (p := ⟨w.heap.size + 5, 0, none⟩) (by dsimp only; omega) (.slice (some ⟨g6, 0, none⟩) (n3 + 1) c6)
            refine ⟨k + 1, n1 + 1, c5, n2, c2, n3 + 1, c6, n4, c4, some ⟨g5, 0, none⟩, A2, some ⟨g6, 0, none⟩, A4, is ++ [(k : Int)], js, by omega, by omega, by omega, by omega, by omega, by go_num, by simp; omega, ?_, ?_, HP6.out.st3 (by omega) _ _ _, ?_, ?_⟩
            · exact ⟨(HB7.cell (p := ⟨w.heap.size, 0, none⟩) (by dsimp only; omega)).trans p0, (HB7.cell (p := ⟨w.heap.size, 1, none⟩) (by dsimp only; omega)).trans p1, (HB7.cell (p := ⟨w.heap.size, 2, none⟩) (by dsimp only; omega)).trans p2, (HB7.cell (p := ⟨w.heap.size + 1, 0, none⟩) (by dsimp only; omega)).trans p3, (HB7.cell (p := ⟨w.heap.size + 1, 1, none⟩) (by dsimp only; omega)).trans p4⟩
            · obtain ⟨r0, r1, r2, r3, r4, r5, r6, r7, rf, rg⟩ := hrx.out
              exact ⟨(HB7.cell (p := ⟨w.heap.size + 2, 0, none⟩) (by dsimp only; omega)).trans r0, (HB7.cell (p := ⟨w.heap.size + 2, 1, none⟩) (by dsimp only; omega)).trans r1, (HB7.cell (p := ⟨w.heap.size + 2, 2, none⟩) (by dsimp only; omega)).trans r2, (HB7.cell (p := ⟨w.heap.size + 2, 3, none⟩) (by dsimp only; omega)).trans r3, (HB7.cell (p := ⟨w.heap.size + 2, 4, none⟩) (by dsimp only; omega)).trans r4, (HB7.cell (p := ⟨w.heap.size + 2, 5, none⟩) (by dsimp only; omega)).trans r5, (HB7.cell (p := ⟨w.heap.size + 3, 0, none⟩) (by dsimp only; omega)).trans r6, (HB7.cell (p := ⟨w.heap.size + 3, 1, none⟩) (by dsimp only; omega)).trans r7, fun o => (HB7.frozen (p := ⟨w.heap.size + 2, o, none⟩) (by dsimp only; omega)).trans (rf o), fun o => (HB7.frozen (p := ⟨w.heap.size + 3, o, none⟩) (by dsimp only; omega)).trans (rg o)⟩
            · rw [HS1.out, HS2.out]
              exact HR6.out.set_ (by dsimp only; omega) _
            · exact hb.out.trans (HB7.mono (by omega))
          case measure => simp [intOf]; omega
      · have HS1 := Lib.hid (fstL_f (u := true) (a := a) HK.out (show fstB true a (pith ps k) = false from decide_eq_false hq))
        have HS2 := Lib.hid (sndL_f (u := true) (a := a) HK.out (show fstB true a (pith ps k) = false from decide_eq_false hq))
        have hdq : decide ((pith ps k).x < a) = false := decide_eq_false hq
        have HDQ := Lib.hid hdq
        clear hdq
        go_wp2_with (go_at_call 117; (with_reducible refine (impl_sides_true _ (pith ps k) _ ?_ ?_ ?_ ?_).mono ?_); (iterate 4 omega); rintro e w4 ⟨rfl, hb4⟩; rw [HDQ.out]; have HB4 := Lib.hid (show Below wr.heap.size wr w4 from ((Below.refl wr.heap.size wr).alloc (Nat.le_refl _) _).trans (hb4.mono (by simp))); have hx4 := bsize hb4; (try simp at hx4); obtain ⟨qc, qf, qz⟩ := bcell hb4 (b := wr.heap.size) (by simp); have e0 : w4.cell? ⟨wr.heap.size, 0, none⟩ = some (.int .i64 (pith ps k).x) := (qc 0).trans (by rw [World.cell?_alloc_new]; rfl); have e1 : w4.cell? ⟨wr.heap.size, 1, none⟩ = some (.int .i64 (pith ps k).y) := (qc 1).trans (by rw [World.cell?_alloc_new]; rfl); have e2 : w4.cell? ⟨wr.heap.size, 2, none⟩ = some (.int .i64 (pith ps k).w) := (qc 2).trans (by rw [World.cell?_alloc_new]; rfl); have e3 : w4.cell? ⟨wr.heap.size, 3, none⟩ = some (.int .i64 (pith ps k).h) := (qc 3).trans (by rw [World.cell?_alloc_new]; rfl); have e4 : w4.cell? ⟨wr.heap.size, 4, none⟩ = some (.int .i64 (pith ps k).c) := (qc 4).trans (by rw [World.cell?_alloc_new]; rfl); have ef : ∀ o, w4.frozen? ⟨wr.heap.size, o, none⟩ = false := (fun o => (qf o).trans (by simp [go_sem])); have q3 : w4.cell? ⟨w.heap.size + 1, 0, none⟩ = some (.bool true) := (HB4.out.cell (p := ⟨w.heap.size + 1, 0, none⟩) (by dsimp only; omega)).trans p3; have q4 : w4.cell? ⟨w.heap.size + 1, 1, none⟩ = some (.int .i64 a) := (HB4.out.cell (p := ⟨w.heap.size + 1, 1, none⟩) (by dsimp only; omega)).trans p4; obtain ⟨x0, x1, x2, x3, x4, x5, k0, k1, fx, fk⟩ := hpr.out.below HB4.out (by omega) (by omega); have hz4 : w.heap.size + 4 < w4.heap.size := (by have := HB4.out.size; omega); have hz5 : w.heap.size + 5 < w4.heap.size := (by have := HB4.out.size; omega); clear hb4 qc qf)
        go_region_law (refine step_pushP _ (behP true a (pith ps k)) (by rfl) _ _ (by rfl) rfl (w.heap.size + 6) A2 n2 c2 _ (by rfl) ((hro.out.next (Below.drew (HB4.out.setCell (p := ⟨wr.heap.size, 0, none⟩) (Nat.le_refl _) (.int .i64 ((pith ps k).x - a))))).r2) (by rfl) (by first | rfl | simp) (by omega) (by have := HB4.out.size; simp; omega) ?_; intro g5 c5 w5 ho5 hg5 hn5; have HRq := (hro.out.next (Below.drew (HB4.out.setCell (p := ⟨wr.heap.size, 0, none⟩) (Nat.le_refl _) (.int .i64 ((pith ps k).x - a))))); have HR5 := Lib.hid (HRq.push2 ho5 hg5 hn5); have HP5 := Lib.hid ((hpr.out.below (Below.drew (HB4.out.setCell (p := ⟨wr.heap.size, 0, none⟩) (Nat.le_refl _) (.int .i64 ((pith ps k).x - a)))) (by omega) (by omega)).grown hg5 (by simp; omega) (by simp; omega) (fun g e => by have := (HRq.r2.lt g e).1; omega)); obtain ⟨y0, yy1, y2, y3, y4, y5, v0, v1, gx, gk⟩ := HP5.out; have hx5 := hg5.size; (try simp at hx5); have HB5 := Lib.hid (show Below (w.heap.size + 4) wr w5 from ((Below.drew (HB4.out.setCell (p := ⟨wr.heap.size, 0, none⟩) (Nat.le_refl _) (.int .i64 ((pith ps k).x - a)))).mono (show w.heap.size + 4 ≤ wr.heap.size by omega)).trans ((HRq.r2.belowOwn hg5 (by simp; omega)).mono (by omega))); clear ho5 hg5 hn5 HRq)
        all_goals
          go_wp2_with (at_builtin; refine wpList_pushI' _ (k : Int) rfl _ _ rfl (w.heap.size + 6) _ _ _ _ rfl ((HR5.out.set_ (p := ⟨w.heap.size + 4, 5, none⟩) (by dsimp only; omega) _).r4) rfl (by simp) (by omega) (by simp; omega) ?_; intro g6 c6 w6 ho6 hg6 hn6; have HRq := (HR5.out.set_ (p := ⟨w.heap.size + 4, 5, none⟩) (by dsimp only; omega) (.slice (some ⟨g5, 0, none⟩) (n2 + 1) c5)); have HR6 := Lib.hid (HRq.push4 ho6 hg6 hn6); have HP6 := Lib.hid ((HP5.out.st2 (by omega) (some ⟨g5, 0, none⟩) (n2 + 1) c5).grown hg6 (by simp; omega) (by simp; omega) (fun g e => by have := (HRq.r4.lt g e).1; omega)); obtain ⟨_, _, _, _, _, _, s0, s1, jx, jk⟩ := HP6.out; have hx6 := hg6.size; (try simp at hx6); have HB6 := Lib.hid (show Below (w.heap.size + 4) wr w6 from (HB5.out.setCell (Nat.le_refl _) _).trans ((HRq.r4.belowOwn hg6 (by simp; omega)).mono (by omega))); clear ho6 hg6 hn6 HRq)
          go_roundw
          case rel =>
            have HB7 := HB6.out.setCell (p := ⟨w.heap.size + 5, 1, none⟩) (by dsimp only; omega) (.slice (some ⟨g6, 0, none⟩) (n4 + 1) c6)
            refine ⟨k + 1, n1, c1, n2 + 1, c5, n3, c3, n4 + 1, c6, A1, some ⟨g5, 0, none⟩, A3, some ⟨g6, 0, none⟩, is, js ++ [(k : Int)], by omega, by omega, by omega, by omega, by omega, by go_num, by simp; omega, ?_, ?_, HP6.out.st4 (by omega) _ _ _, ?_, ?_⟩
            · exact ⟨(HB7.cell (p := ⟨w.heap.size, 0, none⟩) (by dsimp only; omega)).trans p0, (HB7.cell (p := ⟨w.heap.size, 1, none⟩) (by dsimp only; omega)).trans p1, (HB7.cell (p := ⟨w.heap.size, 2, none⟩) (by dsimp only; omega)).trans p2, (HB7.cell (p := ⟨w.heap.size + 1, 0, none⟩) (by dsimp only; omega)).trans p3, (HB7.cell (p := ⟨w.heap.size + 1, 1, none⟩) (by dsimp only; omega)).trans p4⟩
            · obtain ⟨r0, r1, r2, r3, r4, r5, r6, r7, rf, rg⟩ := hrx.out
              exact ⟨(HB7.cell (p := ⟨w.heap.size + 2, 0, none⟩) (by dsimp only; omega)).trans r0, (HB7.cell (p := ⟨w.heap.size + 2, 1, none⟩) (by dsimp only; omega)).trans r1, (HB7.cell (p := ⟨w.heap.size + 2, 2, none⟩) (by dsimp only; omega)).trans r2, (HB7.cell (p := ⟨w.heap.size + 2, 3, none⟩) (by dsimp only; omega)).trans r3, (HB7.cell (p := ⟨w.heap.size + 2, 4, none⟩) (by dsimp only; omega)).trans r4, (HB7.cell (p := ⟨w.heap.size + 2, 5, none⟩) (by dsimp only; omega)).trans r5, (HB7.cell (p := ⟨w.heap.size + 3, 0, none⟩) (by dsimp only; omega)).trans r6, (HB7.cell (p := ⟨w.heap.size + 3, 1, none⟩) (by dsimp only; omega)).trans r7, fun o => (HB7.frozen (p := ⟨w.heap.size + 2, o, none⟩) (by dsimp only; omega)).trans (rf o), fun o => (HB7.frozen (p := ⟨w.heap.size + 3, o, none⟩) (by dsimp only; omega)).trans (rg o)⟩
            · rw [HS1.out, HS2.out]
              exact HR6.out.set_ (by dsimp only; omega) _
            · exact hb.out.trans (HB7.mono (by omega))
          case measure => simp [intOf]; omega
    · obtain rfl : k = n := by omega
      obtain ⟨r0, r1, r2, r3, r4, r5, r6, r7, rf, rg⟩ := hrx.out
      obtain ⟨x0, x1, x2, x3, x4, x5, k0, k1, fx, fk⟩ := hpr.out
      go_wp2
      go_region
      go_wp2
      refine bodyPost_ret (by simp [results, Try.results102, go_sem, *]; try rfl) rfl ?_
      refine ⟨A1, n1, c1, A2, n2, c2, A3, n3, c3, A4, n4, c4, is, js, rfl, ?_, ?_⟩
      · have hr := hro.out
        rw [show ps.take k = ps from by rw [← HL.out]; exact List.take_length] at hr
        refine Rows4.base (B := w.heap.size + 6) ?_ (by omega)
        repeat' (first | (with_reducible exact hr) | (with_reducible refine Rows4.set_ ?_ ?_ _) | (with_reducible refine Rows4.drew_ ?_) | (with_reducible refine Rows4.drewN_ ?_ _) | go_size | (dsimp only; omega))
      · have hbo := hb.out
        (repeat' (first | (with_reducible exact Below.refl _ _) | (with_reducible refine Below.setCell ?_ ?_ _) | (with_reducible refine Below.alloc ?_ ?_ _) | (with_reducible refine Below.drew ?_) | (with_reducible refine Below.drewN ?_ _) | (with_reducible refine Below.trans ?_ (Below.mono (by with_reducible assumption) ?_)) | go_size | (dsimp only; omega)))
set_option maxRecDepth 100000 in
set_option maxHeartbeats 2000000 in
theorem impl_divide_false (z y : Int) (A : Option Addr) (n c : Nat) (ps : List Pt) (a : Int) (w : World) (h : RdP w w.heap.size A n ps) (hbk : layB z y ps = true) (ha1 : 0 ≤ a) (ha2 : a ≤ 12) :
    Calls Try.prog 102 #[.agg #[.int .i64 z, .int .i64 y, .slice A n c], .agg #[.bool false, .int .i64 a]] w fun e w' => ∃ A1 n1 c1 A2 n2 c2 A3 n3 c3 A4 n4 c4 is js, e = .returned (.tuple #[.agg #[.int .i64 z, .int .i64 a, .slice A1 n1 c1, .int .i64 z, .int .i64 (y - a), .slice A2 n2 c2], .agg #[.slice A3 n3 c3, .slice A4 n4 c4]]) ∧ Rows4 w' w.heap.size A1 n1 c1 A2 n2 c2 A3 n3 c3 A4 n4 c4 (fstL false a ps) (sndL false a ps) is js ∧ Below w.heap.size w w' := by
  have hs := lt2
  obtain ⟨hz1', hz2', hq1', hq2', hn1', hn2'⟩ := dimOk_t (layB_p hbk).1
  have hle := h.le
  have HL := Lib.hid h.1
  have HA := Lib.hid (layB_p hbk).2.1
  have H := Lib.hid h
  rw [h.1] at hn1' hn2'
  clear h hbk
  go_enter Try.func102, Try.ntmps102
  go_wp2
  go_loopw [47] (fun i wr => ∃ (k n1 c1 n2 c2 n3 c3 n4 c4 : Nat) (A1 A2 A3 A4 : Option Addr) (is js : List Int), k ≤ n ∧ n1 ≤ k ∧ n2 ≤ k ∧ n3 ≤ k ∧ n4 ≤ k ∧ i = .int .i64 k ∧ w.heap.size + 5 < wr.heap.size ∧ Hid (wr.cell? ⟨w.heap.size, 0, none⟩ = some (.int .i64 z) ∧ wr.cell? ⟨w.heap.size, 1, none⟩ = some (.int .i64 y) ∧ wr.cell? ⟨w.heap.size, 2, none⟩ = some (.slice A n c) ∧ wr.cell? ⟨w.heap.size + 1, 0, none⟩ = some (.bool false) ∧ wr.cell? ⟨w.heap.size + 1, 1, none⟩ = some (.int .i64 a)) ∧ Hid (wr.cell? ⟨w.heap.size + 2, 0, none⟩ = some (.int .i64 0) ∧ wr.cell? ⟨w.heap.size + 2, 1, none⟩ = some (.int .i64 0) ∧ wr.cell? ⟨w.heap.size + 2, 2, none⟩ = some (.slice none 0 0) ∧ wr.cell? ⟨w.heap.size + 2, 3, none⟩ = some (.int .i64 0) ∧ wr.cell? ⟨w.heap.size + 2, 4, none⟩ = some (.int .i64 0) ∧ wr.cell? ⟨w.heap.size + 2, 5, none⟩ = some (.slice none 0 0) ∧ wr.cell? ⟨w.heap.size + 3, 0, none⟩ = some (.slice none 0 0) ∧ wr.cell? ⟨w.heap.size + 3, 1, none⟩ = some (.slice none 0 0) ∧ (∀ o, wr.frozen? ⟨w.heap.size + 2, o, none⟩ = false) ∧ (∀ o, wr.frozen? ⟨w.heap.size + 3, o, none⟩ = false)) ∧ Hid (Pair4 wr (w.heap.size + 4) (w.heap.size + 5) z a A1 n1 c1 z (y - a) A2 n2 c2 A3 n3 c3 A4 n4 c4) ∧ Hid (Rows4 wr (w.heap.size + 6) A1 n1 c1 A2 n2 c2 A3 n3 c3 A4 n4 c4 (fstL false a (ps.take k)) (sndL false a (ps.take k)) is js) ∧ Hid (Below w.heap.size w wr)) (fun i _ => n - (intOf i).toNat)
  case atStart =>
    refine ⟨0, 0, 0, 0, 0, 0, 0, 0, 0, none, none, none, none, [], [], by omega, by omega, by omega, by omega, by omega, rfl, by simp, ⟨by simp [go_sem], by simp [go_sem], by simp [go_sem], by simp [go_sem], by simp [go_sem]⟩, ⟨by simp [go_sem], by simp [go_sem], by simp [go_sem], by simp [go_sem], by simp [go_sem], by simp [go_sem], by simp [go_sem], by simp [go_sem], fun o => by simp [go_sem], fun o => by simp [go_sem]⟩, ⟨by simp [go_sem], by simp [go_sem], by simp [go_sem], by simp [go_sem], by simp [go_sem], by simp [go_sem], by simp [go_sem], by simp [go_sem], fun o => by simp [go_sem], fun o => by simp [go_sem]⟩, ?_, ?_⟩
    · exact ⟨OwnG.nil_, OwnG.nil_, ⟨by omega, World.ownsRow_nil _ _ _ 1⟩, ⟨by omega, World.ownsRow_nil _ _ _ 1⟩, Ap.nil_ _, Ap.nil_ _, Ap.nil_ _, Ap.nil_ _, Ap.nil_ _, Ap.nil_ _⟩
    · show Below _ _ _
      (repeat' (first | (with_reducible exact Below.refl _ _) | (with_reducible refine Below.setCell ?_ ?_ _) | (with_reducible refine Below.alloc ?_ ?_ _) | (with_reducible refine Below.drew ?_) | (with_reducible refine Below.drewN ?_ _) | (with_reducible refine Below.trans ?_ (Below.mono (by with_reducible assumption) ?_)) | go_size | (dsimp only; omega)))
  case round =>
    obtain ⟨k, n1, c1, n2, c2, n3, c3, n4, c4, A1, A2, A3, A4, is, js, hk, hm1, hm2, hm3, hm4, rfl, hwr, hbx, hrx, hpr, hro, hb⟩ := hrel
    have HRD := Lib.hid (H.out.below' hb.out (show w.heap.size ≤ wr.heap.size by omega))
    have hzr : w.heap.size < wr.heap.size := by omega
    have hzr1 : w.heap.size + 1 < wr.heap.size := by omega
    by_cases hlt : k < n
    · obtain ⟨p0, p1, p2, p3, p4⟩ := hbx.out
      obtain ⟨g, off, rfl, d0, d1, d2, d3, d4⟩ := RdP.at5 HRD.out hlt
      obtain ⟨a1, a2, a3, a4, a5, a6, _, _⟩ := okPt_t (HA.out k (by rw [HL.out]; exact hlt))
      have hkp : k < ps.length := by rw [HL.out]; exact hlt
      have HK := Lib.hid hkp
      clear hkp
      by_cases hq : (pith ps k).y < a
      · have HS1 := Lib.hid (fstL_t (u := false) (a := a) HK.out (show fstB false a (pith ps k) = true from decide_eq_true hq))
        have HS2 := Lib.hid (sndL_t (u := false) (a := a) HK.out (show fstB false a (pith ps k) = true from decide_eq_true hq))
        have hdq : decide ((pith ps k).y < a) = true := decide_eq_true hq
        have HDQ := Lib.hid hdq
        clear hdq
        go_wp2_with (go_at_call 117; (with_reducible refine (impl_sides_false _ (pith ps k) _ ?_ ?_ ?_ ?_).mono ?_); (iterate 4 omega); rintro e w4 ⟨rfl, hb4⟩; rw [HDQ.out]; have HB4 := Lib.hid (show Below wr.heap.size wr w4 from ((Below.refl wr.heap.size wr).alloc (Nat.le_refl _) _).trans (hb4.mono (by simp))); have hx4 := bsize hb4; (try simp at hx4); obtain ⟨qc, qf, qz⟩ := bcell hb4 (b := wr.heap.size) (by simp); have e0 : w4.cell? ⟨wr.heap.size, 0, none⟩ = some (.int .i64 (pith ps k).x) := (qc 0).trans (by rw [World.cell?_alloc_new]; rfl); have e1 : w4.cell? ⟨wr.heap.size, 1, none⟩ = some (.int .i64 (pith ps k).y) := (qc 1).trans (by rw [World.cell?_alloc_new]; rfl); have e2 : w4.cell? ⟨wr.heap.size, 2, none⟩ = some (.int .i64 (pith ps k).w) := (qc 2).trans (by rw [World.cell?_alloc_new]; rfl); have e3 : w4.cell? ⟨wr.heap.size, 3, none⟩ = some (.int .i64 (pith ps k).h) := (qc 3).trans (by rw [World.cell?_alloc_new]; rfl); have e4 : w4.cell? ⟨wr.heap.size, 4, none⟩ = some (.int .i64 (pith ps k).c) := (qc 4).trans (by rw [World.cell?_alloc_new]; rfl); have ef : ∀ o, w4.frozen? ⟨wr.heap.size, o, none⟩ = false := (fun o => (qf o).trans (by simp [go_sem])); have q3 : w4.cell? ⟨w.heap.size + 1, 0, none⟩ = some (.bool false) := (HB4.out.cell (p := ⟨w.heap.size + 1, 0, none⟩) (by dsimp only; omega)).trans p3; have q4 : w4.cell? ⟨w.heap.size + 1, 1, none⟩ = some (.int .i64 a) := (HB4.out.cell (p := ⟨w.heap.size + 1, 1, none⟩) (by dsimp only; omega)).trans p4; obtain ⟨x0, x1, x2, x3, x4, x5, k0, k1, fx, fk⟩ := hpr.out.below HB4.out (by omega) (by omega); have hz4 : w.heap.size + 4 < w4.heap.size := (by have := HB4.out.size; omega); have hz5 : w.heap.size + 5 < w4.heap.size := (by have := HB4.out.size; omega); clear hb4 qc qf)
        go_region_law (refine step_pushP _ (pith ps k) (by rfl) _ _ (by rfl) rfl (w.heap.size + 6) A1 n1 c1 _ (by rfl) ((hro.out.next (Below.drew HB4.out)).r1) (by rfl) (by first | rfl | simp) (by omega) (by have := HB4.out.size; simp; omega) ?_; intro g5 c5 w5 ho5 hg5 hn5; have HRq := (hro.out.next (Below.drew HB4.out)); have HR5 := Lib.hid (HRq.push1 ho5 hg5 hn5); have HP5 := Lib.hid ((hpr.out.below (Below.drew HB4.out) (by omega) (by omega)).grown hg5 (by simp; omega) (by simp; omega) (fun g e => by have := (HRq.r1.lt g e).1; omega)); obtain ⟨y0, yy1, y2, y3, y4, y5, v0, v1, gx, gk⟩ := HP5.out; have hx5 := hg5.size; (try simp at hx5); have HB5 := Lib.hid (show Below (w.heap.size + 4) wr w5 from ((Below.drew HB4.out).mono (show w.heap.size + 4 ≤ wr.heap.size by omega)).trans ((HRq.r1.belowOwn hg5 (by simp; omega)).mono (by omega))); clear ho5 hg5 hn5 HRq)
        all_goals
          go_wp2_with (at_builtin; refine wpList_pushI' _ (k : Int) rfl _ _ rfl (w.heap.size + 6) _ _ _ _ rfl ((HR5.out.set_ (p := ⟨w.heap.size + 4, 2, none⟩) (by dsimp only; omega) _).r3) rfl (by simp) (by omega) (by simp; omega) ?_; intro g6 c6 w6 ho6 hg6 hn6; have HRq := (HR5.out.set_ (p := ⟨w.heap.size + 4, 2, none⟩) (by dsimp only; omega) (.slice (some ⟨g5, 0, none⟩) (n1 + 1) c5)); have HR6 := Lib.hid (HRq.push3 ho6 hg6 hn6); have HP6 := Lib.hid ((HP5.out.st1 (by omega) (some ⟨g5, 0, none⟩) (n1 + 1) c5).grown hg6 (by simp; omega) (by simp; omega) (fun g e => by have := (HRq.r3.lt g e).1; omega)); obtain ⟨_, _, _, _, _, _, s0, s1, jx, jk⟩ := HP6.out; have hx6 := hg6.size; (try simp at hx6); have HB6 := Lib.hid (show Below (w.heap.size + 4) wr w6 from (HB5.out.setCell (Nat.le_refl _) _).trans ((HRq.r3.belowOwn hg6 (by simp; omega)).mono (by omega))); clear ho6 hg6 hn6 HRq)
          go_roundw
          case rel =>
            have HB7 := HB6.out.setCell (p := ⟨w.heap.size + 5, 0, none⟩) (by dsimp only; omega) (.slice (some ⟨g6, 0, none⟩) (n3 + 1) c6)
            refine ⟨k + 1, n1 + 1, c5, n2, c2, n3 + 1, c6, n4, c4, some ⟨g5, 0, none⟩, A2, some ⟨g6, 0, none⟩, A4, is ++ [(k : Int)], js, by omega, by omega, by omega, by omega, by omega, by go_num, by simp; omega, ?_, ?_, HP6.out.st3 (by omega) _ _ _, ?_, ?_⟩
            · exact ⟨(HB7.cell (p := ⟨w.heap.size, 0, none⟩) (by dsimp only; omega)).trans p0, (HB7.cell (p := ⟨w.heap.size, 1, none⟩) (by dsimp only; omega)).trans p1, (HB7.cell (p := ⟨w.heap.size, 2, none⟩) (by dsimp only; omega)).trans p2, (HB7.cell (p := ⟨w.heap.size + 1, 0, none⟩) (by dsimp only; omega)).trans p3, (HB7.cell (p := ⟨w.heap.size + 1, 1, none⟩) (by dsimp only; omega)).trans p4⟩
            · obtain ⟨r0, r1, r2, r3, r4, r5, r6, r7, rf, rg⟩ := hrx.out
              exact ⟨(HB7.cell (p := ⟨w.heap.size + 2, 0, none⟩) (by dsimp only; omega)).trans r0, (HB7.cell (p := ⟨w.heap.size + 2, 1, none⟩) (by dsimp only; omega)).trans r1, (HB7.cell (p := ⟨w.heap.size + 2, 2, none⟩) (by dsimp only; omega)).trans r2, (HB7.cell (p := ⟨w.heap.size + 2, 3, none⟩) (by dsimp only; omega)).trans r3, (HB7.cell (p := ⟨w.heap.size + 2, 4, none⟩) (by dsimp only; omega)).trans r4, (HB7.cell (p := ⟨w.heap.size + 2, 5, none⟩) (by dsimp only; omega)).trans r5, (HB7.cell (p := ⟨w.heap.size + 3, 0, none⟩) (by dsimp only; omega)).trans r6, (HB7.cell (p := ⟨w.heap.size + 3, 1, none⟩) (by dsimp only; omega)).trans r7, fun o => (HB7.frozen (p := ⟨w.heap.size + 2, o, none⟩) (by dsimp only; omega)).trans (rf o), fun o => (HB7.frozen (p := ⟨w.heap.size + 3, o, none⟩) (by dsimp only; omega)).trans (rg o)⟩
            · rw [HS1.out, HS2.out]
              exact HR6.out.set_ (by dsimp only; omega) _
            · exact hb.out.trans (HB7.mono (by omega))
          case measure => simp [intOf]; omega
      · have HS1 := Lib.hid (fstL_f (u := false) (a := a) HK.out (show fstB false a (pith ps k) = false from decide_eq_false hq))
        have HS2 := Lib.hid (sndL_f (u := false) (a := a) HK.out (show fstB false a (pith ps k) = false from decide_eq_false hq))
        have hdq : decide ((pith ps k).y < a) = false := decide_eq_false hq
        have HDQ := Lib.hid hdq
        clear hdq
        go_wp2_with (go_at_call 117; (with_reducible refine (impl_sides_false _ (pith ps k) _ ?_ ?_ ?_ ?_).mono ?_); (iterate 4 omega); rintro e w4 ⟨rfl, hb4⟩; rw [HDQ.out]; have HB4 := Lib.hid (show Below wr.heap.size wr w4 from ((Below.refl wr.heap.size wr).alloc (Nat.le_refl _) _).trans (hb4.mono (by simp))); have hx4 := bsize hb4; (try simp at hx4); obtain ⟨qc, qf, qz⟩ := bcell hb4 (b := wr.heap.size) (by simp); have e0 : w4.cell? ⟨wr.heap.size, 0, none⟩ = some (.int .i64 (pith ps k).x) := (qc 0).trans (by rw [World.cell?_alloc_new]; rfl); have e1 : w4.cell? ⟨wr.heap.size, 1, none⟩ = some (.int .i64 (pith ps k).y) := (qc 1).trans (by rw [World.cell?_alloc_new]; rfl); have e2 : w4.cell? ⟨wr.heap.size, 2, none⟩ = some (.int .i64 (pith ps k).w) := (qc 2).trans (by rw [World.cell?_alloc_new]; rfl); have e3 : w4.cell? ⟨wr.heap.size, 3, none⟩ = some (.int .i64 (pith ps k).h) := (qc 3).trans (by rw [World.cell?_alloc_new]; rfl); have e4 : w4.cell? ⟨wr.heap.size, 4, none⟩ = some (.int .i64 (pith ps k).c) := (qc 4).trans (by rw [World.cell?_alloc_new]; rfl); have ef : ∀ o, w4.frozen? ⟨wr.heap.size, o, none⟩ = false := (fun o => (qf o).trans (by simp [go_sem])); have q3 : w4.cell? ⟨w.heap.size + 1, 0, none⟩ = some (.bool false) := (HB4.out.cell (p := ⟨w.heap.size + 1, 0, none⟩) (by dsimp only; omega)).trans p3; have q4 : w4.cell? ⟨w.heap.size + 1, 1, none⟩ = some (.int .i64 a) := (HB4.out.cell (p := ⟨w.heap.size + 1, 1, none⟩) (by dsimp only; omega)).trans p4; obtain ⟨x0, x1, x2, x3, x4, x5, k0, k1, fx, fk⟩ := hpr.out.below HB4.out (by omega) (by omega); have hz4 : w.heap.size + 4 < w4.heap.size := (by have := HB4.out.size; omega); have hz5 : w.heap.size + 5 < w4.heap.size := (by have := HB4.out.size; omega); clear hb4 qc qf)
        go_region_law (refine step_pushP _ (behP false a (pith ps k)) (by rfl) _ _ (by rfl) rfl (w.heap.size + 6) A2 n2 c2 _ (by rfl) ((hro.out.next (Below.drew (HB4.out.setCell (p := ⟨wr.heap.size, 1, none⟩) (Nat.le_refl _) (.int .i64 ((pith ps k).y - a))))).r2) (by rfl) (by first | rfl | simp) (by omega) (by have := HB4.out.size; simp; omega) ?_; intro g5 c5 w5 ho5 hg5 hn5; have HRq := (hro.out.next (Below.drew (HB4.out.setCell (p := ⟨wr.heap.size, 1, none⟩) (Nat.le_refl _) (.int .i64 ((pith ps k).y - a))))); have HR5 := Lib.hid (HRq.push2 ho5 hg5 hn5); have HP5 := Lib.hid ((hpr.out.below (Below.drew (HB4.out.setCell (p := ⟨wr.heap.size, 1, none⟩) (Nat.le_refl _) (.int .i64 ((pith ps k).y - a)))) (by omega) (by omega)).grown hg5 (by simp; omega) (by simp; omega) (fun g e => by have := (HRq.r2.lt g e).1; omega)); obtain ⟨y0, yy1, y2, y3, y4, y5, v0, v1, gx, gk⟩ := HP5.out; have hx5 := hg5.size; (try simp at hx5); have HB5 := Lib.hid (show Below (w.heap.size + 4) wr w5 from ((Below.drew (HB4.out.setCell (p := ⟨wr.heap.size, 1, none⟩) (Nat.le_refl _) (.int .i64 ((pith ps k).y - a)))).mono (show w.heap.size + 4 ≤ wr.heap.size by omega)).trans ((HRq.r2.belowOwn hg5 (by simp; omega)).mono (by omega))); clear ho5 hg5 hn5 HRq)
        all_goals
          go_wp2_with (at_builtin; refine wpList_pushI' _ (k : Int) rfl _ _ rfl (w.heap.size + 6) _ _ _ _ rfl ((HR5.out.set_ (p := ⟨w.heap.size + 4, 5, none⟩) (by dsimp only; omega) _).r4) rfl (by simp) (by omega) (by simp; omega) ?_; intro g6 c6 w6 ho6 hg6 hn6; have HRq := (HR5.out.set_ (p := ⟨w.heap.size + 4, 5, none⟩) (by dsimp only; omega) (.slice (some ⟨g5, 0, none⟩) (n2 + 1) c5)); have HR6 := Lib.hid (HRq.push4 ho6 hg6 hn6); have HP6 := Lib.hid ((HP5.out.st2 (by omega) (some ⟨g5, 0, none⟩) (n2 + 1) c5).grown hg6 (by simp; omega) (by simp; omega) (fun g e => by have := (HRq.r4.lt g e).1; omega)); obtain ⟨_, _, _, _, _, _, s0, s1, jx, jk⟩ := HP6.out; have hx6 := hg6.size; (try simp at hx6); have HB6 := Lib.hid (show Below (w.heap.size + 4) wr w6 from (HB5.out.setCell (Nat.le_refl _) _).trans ((HRq.r4.belowOwn hg6 (by simp; omega)).mono (by omega))); clear ho6 hg6 hn6 HRq)
          go_roundw
          case rel =>
            have HB7 := HB6.out.setCell (p := ⟨w.heap.size + 5, 1, none⟩) (by dsimp only; omega) (.slice (some ⟨g6, 0, none⟩) (n4 + 1) c6)
            refine ⟨k + 1, n1, c1, n2 + 1, c5, n3, c3, n4 + 1, c6, A1, some ⟨g5, 0, none⟩, A3, some ⟨g6, 0, none⟩, is, js ++ [(k : Int)], by omega, by omega, by omega, by omega, by omega, by go_num, by simp; omega, ?_, ?_, HP6.out.st4 (by omega) _ _ _, ?_, ?_⟩
            · exact ⟨(HB7.cell (p := ⟨w.heap.size, 0, none⟩) (by dsimp only; omega)).trans p0, (HB7.cell (p := ⟨w.heap.size, 1, none⟩) (by dsimp only; omega)).trans p1, (HB7.cell (p := ⟨w.heap.size, 2, none⟩) (by dsimp only; omega)).trans p2, (HB7.cell (p := ⟨w.heap.size + 1, 0, none⟩) (by dsimp only; omega)).trans p3, (HB7.cell (p := ⟨w.heap.size + 1, 1, none⟩) (by dsimp only; omega)).trans p4⟩
            · obtain ⟨r0, r1, r2, r3, r4, r5, r6, r7, rf, rg⟩ := hrx.out
              exact ⟨(HB7.cell (p := ⟨w.heap.size + 2, 0, none⟩) (by dsimp only; omega)).trans r0, (HB7.cell (p := ⟨w.heap.size + 2, 1, none⟩) (by dsimp only; omega)).trans r1, (HB7.cell (p := ⟨w.heap.size + 2, 2, none⟩) (by dsimp only; omega)).trans r2, (HB7.cell (p := ⟨w.heap.size + 2, 3, none⟩) (by dsimp only; omega)).trans r3, (HB7.cell (p := ⟨w.heap.size + 2, 4, none⟩) (by dsimp only; omega)).trans r4, (HB7.cell (p := ⟨w.heap.size + 2, 5, none⟩) (by dsimp only; omega)).trans r5, (HB7.cell (p := ⟨w.heap.size + 3, 0, none⟩) (by dsimp only; omega)).trans r6, (HB7.cell (p := ⟨w.heap.size + 3, 1, none⟩) (by dsimp only; omega)).trans r7, fun o => (HB7.frozen (p := ⟨w.heap.size + 2, o, none⟩) (by dsimp only; omega)).trans (rf o), fun o => (HB7.frozen (p := ⟨w.heap.size + 3, o, none⟩) (by dsimp only; omega)).trans (rg o)⟩
            · rw [HS1.out, HS2.out]
              exact HR6.out.set_ (by dsimp only; omega) _
            · exact hb.out.trans (HB7.mono (by omega))
          case measure => simp [intOf]; omega
    · obtain rfl : k = n := by omega
      obtain ⟨r0, r1, r2, r3, r4, r5, r6, r7, rf, rg⟩ := hrx.out
      obtain ⟨x0, x1, x2, x3, x4, x5, k0, k1, fx, fk⟩ := hpr.out
      go_wp2
      go_region
      go_wp2
      refine bodyPost_ret (by simp [results, Try.results102, go_sem, *]; try rfl) rfl ?_
      refine ⟨A1, n1, c1, A2, n2, c2, A3, n3, c3, A4, n4, c4, is, js, rfl, ?_, ?_⟩
      · have hr := hro.out
        rw [show ps.take k = ps from by rw [← HL.out]; exact List.take_length] at hr
        refine Rows4.base (B := w.heap.size + 6) ?_ (by omega)
        repeat' (first | (with_reducible exact hr) | (with_reducible refine Rows4.set_ ?_ ?_ _) | (with_reducible refine Rows4.drew_ ?_) | (with_reducible refine Rows4.drewN_ ?_ _) | go_size | (dsimp only; omega))
      · have hbo := hb.out
        (repeat' (first | (with_reducible exact Below.refl _ _) | (with_reducible refine Below.setCell ?_ ?_ _) | (with_reducible refine Below.alloc ?_ ?_ _) | (with_reducible refine Below.drew ?_) | (with_reducible refine Below.drewN ?_ _) | (with_reducible refine Below.trans ?_ (Below.mono (by with_reducible assumption) ?_)) | go_size | (dsimp only; omega)))
/-- both parts of a cut, zero where the line is none -/
noncomputable def spZ1 (z y : Int) (ps : List Pt) (u : Bool) (a : Int) : Int := if cutB z y ps u a = true then (if u then a else z) else 0
noncomputable def spY1 (z y : Int) (ps : List Pt) (u : Bool) (a : Int) : Int := if cutB z y ps u a = true then (if u then y else a) else 0
noncomputable def spZ2 (z y : Int) (ps : List Pt) (u : Bool) (a : Int) : Int := if cutB z y ps u a = true then (if u then z - a else z) else 0
noncomputable def spY2 (z y : Int) (ps : List Pt) (u : Bool) (a : Int) : Int := if cutB z y ps u a = true then (if u then y else y - a) else 0
noncomputable def spL1 (z y : Int) (ps : List Pt) (u : Bool) (a : Int) : List Pt := if cutB z y ps u a = true then fstL u a ps else []
noncomputable def spL2 (z y : Int) (ps : List Pt) (u : Bool) (a : Int) : List Pt := if cutB z y ps u a = true then sndL u a ps else []
theorem cutB_p {z y a : Int} {ps : List Pt} {u : Bool} (h : cutB z y ps u a = true) : layB z y ps = true ∧ 1 ≤ a ∧ a ≤ 11 := by
  unfold cutB at h
  simp only [Bool.and_eq_true] at h
  obtain ⟨h1, h2, _⟩ := h
  obtain ⟨b1, b2, b3, b4, _, _⟩ := dimOk_t (layB_p h1).1
  have h3 := inB_r h2
  refine ⟨h1, h3.1, ?_⟩
  have h4 := h3.2
  unfold sideOf at h4
  cases u <;> simp at h4 <;> omega

end Go.Proofs.Ytlcllpgbpjdofaa
