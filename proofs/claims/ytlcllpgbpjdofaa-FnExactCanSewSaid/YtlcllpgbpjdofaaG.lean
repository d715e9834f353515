/- Slices of structs over any kind of element: what it means that one reads as a list, that one is a row of the call's own. -/
import Derived.Test.YtlcllpgbpjdofaaP
set_option linter.unusedSimpArgs false
set_option linter.unusedVariables false
namespace Go.Proofs.Ytlcllpgbpjdofaa
open Go.RowKit

section
variable {α : Type} (vals : α → List Value) (m : Nat)

/-- the slice value '.slice A n c' reads as the list xs (m cells an element), in blocks below B -/
def RdG (w : World) (B : Nat) (A : Option Addr) (n : Nat) (xs : List α) : Prop :=
  xs.length = n ∧ n ≤ 2097152 ∧ (0 < n → ∃ g off, A = some ⟨g, off, none⟩ ∧ g < B ∧ ∀ k x, xs[k]? = some x → ∀ j v, (vals x)[j]? = some v → w.cell? ⟨g, off + (k * m + j), none⟩ = some v)

/-- the slice value '.slice A n c' is a row of the call's own, made at block B or later, and holds xs -/
def OwnG (T : TypeId) (w : World) (B : Nat) (A : Option Addr) (n c : Nat) (xs : List α) : Prop :=
  n ≤ 2097152 ∧ xs.length = n ∧ w.ownsRow B T m (.slice A n c) n (xs.flatMap vals)
end

section
variable {α : Type} {vals : α → List Value} {m : Nat} {w w' : World} {B B' n : Nat} {A : Option Addr} {xs : List α}
theorem RdG.le (h : RdG vals m w B A n xs) : n ≤ 2097152 := h.2.1
theorem RdG.at_ (h : RdG vals m w B A n xs) {k : Nat} (hk : k < n) : ∃ g off x, A = some ⟨g, off, none⟩ ∧ xs[k]? = some x ∧ ∀ j v, (vals x)[j]? = some v → w.cell? ⟨g, off + (k * m + j), none⟩ = some v := by
  obtain ⟨g, off, e, _, hc⟩ := h.2.2 (by omega)
  have hl := h.1
  exact ⟨g, off, _, e, List.getElem?_eq_getElem (by omega), hc k _ (List.getElem?_eq_getElem (by omega))⟩
theorem RdG.move (h : RdG vals m w B A n xs) (hb : ∀ g o, g < B → w'.cell? ⟨g, o, none⟩ = w.cell? ⟨g, o, none⟩) : RdG vals m w' B A n xs :=
  ⟨h.1, h.2.1, fun hn => by
    obtain ⟨g, off, e, hg, hc⟩ := h.2.2 hn
    exact ⟨g, off, e, hg, fun k x hx j v hv => (hb _ _ hg).trans (hc k x hx j v hv)⟩⟩
theorem RdG.below (h : RdG vals m w B A n xs) (hb : Below B w w') : RdG vals m w' B A n xs := h.move fun g o hg => hb.cell (p := ⟨g, o, none⟩) hg
theorem RdG.more (h : RdG vals m w B A n xs) (hB : B ≤ B') : RdG vals m w B' A n xs :=
  ⟨h.1, h.2.1, fun hn => by
    obtain ⟨g, off, e, hg, hc⟩ := h.2.2 hn
    exact ⟨g, off, e, by omega, hc⟩⟩
theorem RdG.below' (h : RdG vals m w B A n xs) (hb : Below B w w') (hB : B ≤ B') : RdG vals m w' B' A n xs := (h.below hb).more hB
theorem RdG.next (h : RdG vals m w w.heap.size A n xs) (hb : Below w.heap.size w w') : RdG vals m w' w'.heap.size A n xs := (h.below hb).more hb.size
theorem RdG.grown (h : RdG vals m w B A n xs) {row : Option Nat} (hg : w.grownBy w' row) (hB : B ≤ w.heap.size) (hr : ∀ g, row = some g → B ≤ g) : RdG vals m w' B A n xs :=
  h.move fun g o hlt => World.cell?_of_block (a := ⟨g, o, none⟩) (hg.block g (by omega) (fun e' => by have := hr _ e'.symm; omega))
end

section
variable {α : Type} {vals : α → List Value} {m : Nat}
theorem flatG_len (hv : ∀ x, (vals x).length = m) (xs : List α) : (xs.flatMap vals).length = xs.length * m := by
  induction xs with
  | nil => simp
  | cons c cs ih => rw [List.flatMap_cons, List.length_append, ih, List.length_cons, hv, Nat.succ_mul]; omega
theorem flatG_get (hv : ∀ x, (vals x).length = m) (xs : List α) : ∀ k x, xs[k]? = some x → ∀ j, j < m → (xs.flatMap vals)[k * m + j]? = (vals x)[j]? := by
  induction xs with
  | nil => intro k x h; simp at h
  | cons c cs ih =>
    intro k x hx j hj
    cases k with
    | zero =>
      simp at hx
      subst hx
      rw [List.flatMap_cons, Nat.zero_mul, Nat.zero_add, List.getElem?_append_left (by rw [hv]; exact hj)]
    | succ k =>
      rw [List.flatMap_cons, List.getElem?_append_right (by rw [hv, Nat.succ_mul]; omega), hv, ← ih k x (by simpa using hx) j hj]
      congr 1
      rw [Nat.succ_mul]; omega
theorem flatG_set (hv : ∀ x, (vals x).length = m) (xs : List α) : ∀ k x x' j v, xs[k]? = some x → j < m → vals x' = (vals x).set j v → (xs.flatMap vals).set (k * m + j) v = (xs.set k x').flatMap vals := by
  induction xs with
  | nil => intro k x x' j v h; simp at h
  | cons c cs ih =>
    intro k x x' j v hx hj he
    cases k with
    | zero =>
      simp at hx
      subst hx
      rw [List.flatMap_cons, Nat.zero_mul, Nat.zero_add, List.set_append_left _ _ (by rw [hv]; exact hj), ← he]
      simp
    | succ k =>
      have h2 := ih k x x' j v (by simpa using hx) hj he
      rw [List.flatMap_cons, List.set_append_right _ _ (by rw [hv, Nat.succ_mul]; omega), hv, List.set_cons_succ, List.flatMap_cons, ← h2]
      congr 2
      rw [Nat.succ_mul]; omega
end

section
variable {α : Type} {vals : α → List Value} {m : Nat} {T : TypeId} {w w' : World} {B B' n c g : Nat} {A : Option Addr} {xs : List α}
theorem OwnG.len (h : OwnG vals m T w B A n c xs) : xs.length = n := h.2.1
theorem OwnG.form (h : OwnG vals m T w B A n c xs) (hn : 0 < n) : ∃ g, A = some ⟨g, 0, none⟩ ∧ B ≤ g ∧ g < w.heap.size := by
  rcases h.2.2.2 with ⟨hv, h0⟩ | ⟨g, cap, cur, hv, hg, hh, _⟩
  · omega
  · injection hv with h1
    refine ⟨g, h1, hg, ?_⟩
    rcases Nat.lt_or_ge g w.heap.size with hlt | hge
    · exact hlt
    · rw [Array.getElem?_eq_none hge] at hh; cases hh
theorem OwnG.cellAt (hv : ∀ x, (vals x).length = m) (h : OwnG vals m T w B (some ⟨g, 0, none⟩) n c xs) {k : Nat} {x : α} (hx : xs[k]? = some x) {j : Nat} {v : Value} (hj : (vals x)[j]? = some v) : w.cell? ⟨g, k * m + j, none⟩ = some v := by
  have hk : k < n := by
    rw [← h.2.1]
    exact (List.getElem?_eq_some_iff.1 hx).1
  have hjm : j < m := by
    rw [← hv x]
    exact (List.getElem?_eq_some_iff.1 hj).1
  have h2 := h.2.2
  have hlt : k * m + j < n * m := by
    have : (k + 1) * m ≤ n * m := Nat.mul_le_mul_right _ hk
    rw [Nat.succ_mul] at this; omega
  exact ((World.ownsRow.cellAt h2 _ hlt).trans (flatG_get hv xs k x hx j hjm)).trans hj
theorem OwnG.frozenAt (h : OwnG vals m T w B (some ⟨g, 0, none⟩) n c xs) (hn : 0 < n) (k : Nat) : w.frozen? ⟨g, k, none⟩ = false := World.ownsRow.frozenAt h.2.2 k
theorem OwnG.rd (hv : ∀ x, (vals x).length = m) (h : OwnG vals m T w B A n c xs) : RdG vals m w w.heap.size A n xs := by
  refine ⟨h.len, h.1, fun hn => ?_⟩
  obtain ⟨g, rfl, hg, hlt⟩ := h.form hn
  refine ⟨g, 0, rfl, hlt, fun k x hx j v hj => ?_⟩
  rw [Nat.zero_add]
  exact h.cellAt hv hx hj
theorem OwnG.store (hv : ∀ x, (vals x).length = m) (h : OwnG vals m T w B (some ⟨g, 0, none⟩) n c xs) {k : Nat} {x x' : α} (hx : xs[k]? = some x) {j : Nat} {v : Value} (hj : j < m) (he : vals x' = (vals x).set j v) :
    OwnG vals m T (w.setCell ⟨g, k * m + j, none⟩ v) B (some ⟨g, 0, none⟩) n c (xs.set k x') ∧ w.grownBy (w.setCell ⟨g, k * m + j, none⟩ v) (some g) := by
  have h0 := World.ownsRow.stored h.2.2 (k * m + j) v
  rw [flatG_set hv xs k x x' j v hx hj he] at h0
  exact ⟨⟨h.1, by rw [List.length_set]; exact h.2.1, h0.1⟩, h0.2⟩
theorem OwnG.kept {row : Option Nat} (h : OwnG vals m T w B A n c xs) (hg : w.grownBy w' row) (hne : (Value.slice A n c).ownBlock = none ∨ (Value.slice A n c).ownBlock ≠ row) : OwnG vals m T w' B A n c xs := ⟨h.1, h.2.1, h.2.2.kept hg hne⟩
theorem OwnG.keep {row : Option Nat} (h : OwnG vals m T w B A n c xs) (hg : w.grownBy w' row) (hne : ∀ k, (Value.slice A n c).ownBlock = some k → row ≠ some k) : OwnG vals m T w' B A n c xs := by
  refine h.kept hg ?_
  rcases hq : (Value.slice A n c).ownBlock with _ | g
  · exact .inl rfl
  · exact .inr (fun e => hne g hq e.symm)
theorem OwnG.set_ (h : OwnG vals m T w B A n c xs) {p : Addr} (hp : p.block < B) (u : Value) : OwnG vals m T (w.setCell p u) B A n c xs := ⟨h.1, h.2.1, ownsRow_setCell_below h.2.2 hp u⟩
theorem OwnG.next (h : OwnG vals m T w B A n c xs) (hb : Below w.heap.size w w') : OwnG vals m T w' B A n c xs := h.keep (grown_of_below hb none) (fun _ _ => by simp)
theorem OwnG.base (h : OwnG vals m T w B A n c xs) (hB : B' ≤ B) : OwnG vals m T w B' A n c xs := by
  refine ⟨h.1, h.2.1, h.2.2.1, ?_⟩
  rcases h.2.2.2 with h2 | ⟨g, cap, cur, hv, hg, r⟩
  · exact .inl h2
  · exact .inr ⟨g, cap, cur, hv, by omega, r⟩
theorem OwnG.lt (h : OwnG vals m T w B A n c xs) : ∀ k, (Value.slice A n c).ownBlock = some k → B ≤ k ∧ k < w.heap.size := h.2.2.lt
theorem OwnG.belowOwn (h : OwnG vals m T w B A n c xs) (hg : w.grownBy w' (Value.slice A n c).ownBlock) (hB : B ≤ w.heap.size) : Below B w w' :=
  (Below.refl B w).grown hg hB (fun k hk => (h.lt k hk).1)
theorem OwnG.empty (hB : B ≤ w.heap.size) : OwnG vals m T (w.alloc (.cells #[] T)) B (some ⟨w.heap.size, 0, none⟩) 0 0 [] :=
  ⟨by omega, rfl, World.ownsRow_lit w #[] 0 hB (by unfold maxLen; omega) (by simp)⟩
theorem OwnG.nil_ : OwnG vals m T w B none 0 0 [] := ⟨by omega, rfl, World.ownsRow_nil w B _ m⟩
/-- a literal of n elements, laid in one block -/
theorem OwnG.lit (hv : ∀ x, (vals x).length = m) (hB : B ≤ w.heap.size) {cs : Array Value} (hcs : cs.toList = xs.flatMap vals) (hn : xs.length = n) (hle : n ≤ 2097152) : OwnG vals m T (w.alloc (.cells cs T)) B (some ⟨w.heap.size, 0, none⟩) n n xs := by
  refine ⟨hle, hn, ?_⟩
  rw [← hcs]
  exact World.ownsRow_lit w cs n hB (by unfold maxLen; omega) (by rw [← Array.length_toList, hcs, flatG_len hv, hn])
theorem flatG_replicate (hv : ∀ x, (vals x).length = m) (x0 : α) {z : Array Value} (hz : z.toList = vals x0) (hm : 0 < m) (n : Nat) : (madeCells z (n * m)).toList = (List.replicate n x0).flatMap vals := by
  have hzs : z.size = m := by rw [← Array.length_toList, hz, hv]
  apply List.ext_getElem?
  intro j
  by_cases hj : j < n * m
  · have hr : j % m < m := Nat.mod_lt _ hm
    have hq : j / m < n := (Nat.div_lt_iff_lt_mul hm).2 hj
    have hd : j / m * m + j % m = j := by rw [Nat.mul_comm]; exact Nat.div_add_mod j m
    have h1 := flatG_get hv (List.replicate n x0) (j / m) x0 (by rw [List.getElem?_replicate, if_pos hq]) (j % m) hr
    rw [hd] at h1
    rw [h1]
    simp only [madeCells, Array.getElem?_toList, Array.getElem?_map, Array.getElem?_range, hj, if_true, Option.map_some]
    rw [hzs, ← hz, Array.getElem?_toList, getElem!_pos z _ (by rw [hzs]; exact hr), Array.getElem?_eq_getElem (by rw [hzs]; exact hr)]
  · rw [List.getElem?_eq_none (by simp [madeCells]; omega), List.getElem?_eq_none (by rw [flatG_len hv, List.length_replicate]; omega)]
theorem OwnG.made (hv : ∀ x, (vals x).length = m) {w1 : World} {n : Nat} (x0 : α) {z : Array Value} (hz : z.toList = vals x0) (hm : 0 < m) (hn : n ≤ 2097152) (h : w1.ownsRow w.heap.size T m (.slice (some ⟨w.heap.size, 0, none⟩) n n) n (madeCells z (n * m)).toList) :
    OwnG vals m T w1 w.heap.size (some ⟨w.heap.size, 0, none⟩) n n (List.replicate n x0) := by
  rw [flatG_replicate hv x0 hz hm] at h
  exact ⟨hn, by simp, h⟩
end

section
variable {α : Type} {vals : α → List Value} {m : Nat}
/-- one element is appended -/
theorem wpList_pushG {P : Program} (hv : ∀ x, (vals x).length = m) (w0 : World) (y : α) (cs : Array Value) {ops : Array Oper} {rest : List Oper} {o : Oper} {a : Act} {Q : Exit → Act → World → Prop} (hgd : o.guard = none) (s x : Operand) (t : TypeId)
    (ho : o.op = .call { callee := .builtin .append, args := #[s, x], argTypes := #[t, t] })
    (B : Nat) (T : TypeId) (i : TypeInfo) (z : Value) (bytes : Nat) (ht : P.underlying t = some (.slice T)) (hi : P.info? T = some i) (hz : i.zero = some z)
    (hsize : i.size = m) (hby : i.bytes = bytes) (hb1 : bytes ≤ 1000) (hzs : z.cells.size = m) (hsz : 0 < m) (hcs : cs.toList = vals y) (h1 : ∀ u ∈ vals y, u.oneCell' = true)
    (A : Option Addr) (n c : Nat) (xs : List α) (hs : a.eval s = .slice A n c) (hown : OwnG vals m T w0 B A n c xs)
    (hx : a.eval x = .slice (some ⟨w0.heap.size, 0, none⟩) 1 1) (hn : n + 1 ≤ 2097152) (hbase : B ≤ w0.heap.size)
    (hK : ∀ g' c' w', OwnG vals m T w' B (some ⟨g', 0, none⟩) (n + 1) c' (xs ++ [y]) → w0.grownBy w' (Value.slice A n c).ownBlock → ((Value.slice A n c).ownBlock = some g' ∨ w0.heap.size ≤ g') →
      wpList P ops Q rest (a.put o.dst (.slice (some ⟨g', 0, none⟩) (n + 1) c')) w') : wpList P ops Q (o :: rest) a (w0.alloc (.cells cs T)) := by
  refine wpList_push w0 cs hgd s x _ ho B T i z m bytes ht hi hz hsize hby hzs hsz A n c (xs.flatMap vals) hs hown.2.2 hx (by rw [← Array.length_toList, hcs, hv]) (by rw [hcs]; exact h1) (by unfold maxLen; omega) ?_ hbase ?_
  · have : (n + 1) * bytes ≤ 2097152 * 1000 := Nat.mul_le_mul hn hb1
    omega
  · intro g' c' w' h2 h3 h4
    refine hK g' c' w' ⟨hn, by rw [List.length_append, hown.2.1]; rfl, ?_⟩ h3 h4
    rw [List.flatMap_append, List.flatMap_cons, List.flatMap_nil, List.append_nil, ← hcs]
    exact h2
end
end Go.Proofs.Ytlcllpgbpjdofaa
