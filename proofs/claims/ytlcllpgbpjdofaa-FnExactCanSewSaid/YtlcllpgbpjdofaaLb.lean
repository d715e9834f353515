/- The reference's drawn layouts are layouts. No condition. -/
import Derived.Test.YtlcllpgbpjdofaaLp
import Derived.Test.YtlcllpgbpjdofaaD
set_option linter.unusedSimpArgs false
set_option linter.unusedVariables false
set_option maxRecDepth 100000
namespace Go.Proofs.Ytlcllpgbpjdofaa
open Go.RowKit

theorem cnt_split {ps : List Pt} {i : Nat} (hi : i < ps.length) {p' q' : Pt} {u v : Int} (hs : (if hasP (pith ps i) u v = true then 1 else 0) = (if hasP p' u v = true then 1 else 0) + (if hasP q' u v = true then 1 else 0)) : cntP (ps.set i p' ++ [q']) u v = cntP ps u v := by
  have e1 : ps.set i p' = ps.take i ++ p' :: ps.drop (i + 1) := by rw [List.set_eq_take_append_cons_drop, if_pos hi]
  have e2 : ps = ps.take i ++ pith ps i :: ps.drop (i + 1) := by
    conv => lhs; rw [← List.set_getElem_self hi]
    rw [List.set_eq_take_append_cons_drop, if_pos hi, pith_get hi]
  have h1 : cntP ps u v = cntP (ps.take i ++ pith ps i :: ps.drop (i + 1)) u v := by rw [← e2]
  rw [h1, e1]
  simp only [cntP, List.countP_append, List.countP_cons, List.countP_nil]
  omega
theorem split_lay {z y : Int} {ps : List Pt} {i : Nat} (hl : layB z y ps = true) (hi : i < ps.length) (h12 : ps.length < 12) {p' q' : Pt} (hp : okPt z y p' = true) (hq : okPt z y q' = true)
    (hs : ∀ u v, hasP (pith ps i) u v = true ↔ hasP p' u v = true ∨ hasP q' u v = true) (hx : ∀ u v, ¬ (hasP p' u v = true ∧ hasP q' u v = true)) : layB z y (ps.set i p' ++ [q']) = true := by
  obtain ⟨hd, hok, _, _⟩ := layB_p hl
  obtain ⟨b1, b2, b3, b4, b5, b6⟩ := dimOk_t hd
  have hm := allOk_mem.1 hok
  have hd1 : dimOk z y (ps.set i p' ++ [q']).length = true := dimOk_mk b1 b2 b3 b4 (by simp) (by simp; omega)
  have hk1 : allOk z y (ps.set i p' ++ [q']) := by
    refine allOk_mem.2 (fun p h => ?_)
    rcases List.mem_append.1 h with h | h
    · rcases List.mem_or_eq_of_mem_set h with h | h
      · exact hm p h
      · rw [h]; exact hp
    · simp at h
      rw [h]; exact hq
  refine layB_t ((LayP_once hd1 hk1).2 ?_)
  intro v hv u hu
  rw [cnt_split hi]
  · exact lay_once hl v hv u hu
  · have h1 := hs u v
    have h2 := hx u v
    by_cases ha : hasP p' u v = true
    · by_cases hb : hasP q' u v = true
      · exact absurd ⟨ha, hb⟩ h2
      · rw [if_pos (h1.2 (.inl ha)), if_pos ha, if_neg hb]
    · by_cases hb : hasP q' u v = true
      · rw [if_pos (h1.2 (.inr hb)), if_neg ha, if_pos hb]
      · rw [if_neg (fun e => (h1.1 e).elim ha hb), if_neg ha, if_neg hb]
theorem split_x {z y a k : Int} {ps : List Pt} {i : Nat} (hl : layB z y ps = true) (hi : i < ps.length) (h12 : ps.length < 12) (h1 : 1 ≤ a) (h2 : a < (pith ps i).w) (h3 : 0 ≤ k) (h4 : k ≤ 5) :
    layB z y (ps.set i ⟨(pith ps i).x, (pith ps i).y, a, (pith ps i).h, (pith ps i).c⟩ ++ [⟨(pith ps i).x + a, (pith ps i).y, (pith ps i).w - a, (pith ps i).h, k⟩]) = true := by
  obtain ⟨c1, c2, c3, c4, c5, c6, c7, c8⟩ := okPt_t ((layB_p hl).2.1 i hi)
  refine split_lay hl hi h12 (okPt_mk (by dsimp only; omega) (by dsimp only; omega) (by dsimp only; omega) (by dsimp only; omega) (by dsimp only; omega) (by dsimp only; omega) (by dsimp only; omega) (by dsimp only; omega)) (okPt_mk (by dsimp only; omega) (by dsimp only; omega) (by dsimp only; omega) (by dsimp only; omega) (by dsimp only; omega) (by dsimp only; omega) (by dsimp only; omega) (by dsimp only; omega)) (fun u v => ?_) (fun u v => ?_)
  · rw [hasP_t, hasP_t, hasP_t]; dsimp only; omega
  · rw [hasP_t, hasP_t]; dsimp only; omega
theorem split_y {z y a k : Int} {ps : List Pt} {i : Nat} (hl : layB z y ps = true) (hi : i < ps.length) (h12 : ps.length < 12) (h1 : 1 ≤ a) (h2 : a < (pith ps i).h) (h3 : 0 ≤ k) (h4 : k ≤ 5) :
    layB z y (ps.set i ⟨(pith ps i).x, (pith ps i).y, (pith ps i).w, a, (pith ps i).c⟩ ++ [⟨(pith ps i).x, (pith ps i).y + a, (pith ps i).w, (pith ps i).h - a, k⟩]) = true := by
  obtain ⟨c1, c2, c3, c4, c5, c6, c7, c8⟩ := okPt_t ((layB_p hl).2.1 i hi)
  refine split_lay hl hi h12 (okPt_mk (by dsimp only; omega) (by dsimp only; omega) (by dsimp only; omega) (by dsimp only; omega) (by dsimp only; omega) (by dsimp only; omega) (by dsimp only; omega) (by dsimp only; omega)) (okPt_mk (by dsimp only; omega) (by dsimp only; omega) (by dsimp only; omega) (by dsimp only; omega) (by dsimp only; omega) (by dsimp only; omega) (by dsimp only; omega) (by dsimp only; omega)) (fun u v => ?_) (fun u v => ?_)
  · rw [hasP_t, hasP_t, hasP_t]; dsimp only; omega
  · rw [hasP_t, hasP_t]; dsimp only; omega
theorem one_lay {z y : Int} (h1 : 1 ≤ z) (h2 : z ≤ 12) (h3 : 1 ≤ y) (h4 : y ≤ 12) : layB z y [⟨0, 0, z, y, 0⟩] = true := by
  refine layB_t ⟨dimOk_mk h1 h2 h3 h4 (by simp) (by simp), ?_, ?_, by simp [areaP]⟩
  · refine allOk_mem.2 (fun p hp => ?_)
    simp at hp
    subst hp
    exact okPt_mk (by dsimp only; omega) (by dsimp only; omega) (by dsimp only; omega) (by dsimp only; omega) (by dsimp only; omega) (by dsimp only; omega) (by dsimp only; omega) (by dsimp only; omega)
  · intro k hk i hi
    simp at hk; omega

/-- a layout's box -/
structure Box3 (w : World) (P : Nat) (z y : Int) (A : Option Addr) (n c : Nat) : Prop where
  c0 : w.cell? ⟨P, 0, none⟩ = some (.int .i64 z)
  c1 : w.cell? ⟨P, 1, none⟩ = some (.int .i64 y)
  c2 : w.cell? ⟨P, 2, none⟩ = some (.slice A n c)
  f : ∀ o, w.frozen? ⟨P, o, none⟩ = false
  lt : P < w.heap.size
/-- a patch's box -/
structure Box5 (w : World) (P : Nat) (p : Pt) : Prop where
  c0 : w.cell? ⟨P, 0, none⟩ = some (.int .i64 p.x)
  c1 : w.cell? ⟨P, 1, none⟩ = some (.int .i64 p.y)
  c2 : w.cell? ⟨P, 2, none⟩ = some (.int .i64 p.w)
  c3 : w.cell? ⟨P, 3, none⟩ = some (.int .i64 p.h)
  c4 : w.cell? ⟨P, 4, none⟩ = some (.int .i64 p.c)
  f : ∀ o, w.frozen? ⟨P, o, none⟩ = false
  lt : P < w.heap.size
section
variable {w w' : World} {P n c : Nat} {z y : Int} {A : Option Addr} {p : Pt} {row : Option Nat}
theorem Box3.grown (h : Box3 w P z y A n c) (hg : w.grownBy w' row) (hne : row = some P → False) : Box3 w' P z y A n c := by
  obtain ⟨a, b, d⟩ := gcell hg h.lt hne
  exact ⟨(a _).trans h.c0, (a _).trans h.c1, (a _).trans h.c2, fun o => (b o).trans (h.f o), d⟩
theorem Box3.next (h : Box3 w P z y A n c) (hb : Below w.heap.size w w') : Box3 w' P z y A n c := h.grown (grown_of_below hb none) (fun e => by cases e)
theorem Box3.set_ (h : Box3 w P z y A n c) {b : Nat} (hne : b ≠ P) (o : Nat) (v : Value) : Box3 (w.setCell ⟨b, o, none⟩ v) P z y A n c := h.grown (gG_set (gG_refl w (some b)) o v) (fun e => hne (by cases e; rfl))
theorem Box3.s2 (h : Box3 w P z y A n c) (A' : Option Addr) (n' c' : Nat) : Box3 (w.setCell ⟨P, 2, none⟩ (.slice A' n' c')) P z y A' n' c' :=
  ⟨(World.cell?_setCell_other _ _ _ _ (by simp)).trans h.c0, (World.cell?_setCell_other _ _ _ _ (by simp)).trans h.c1, World.cell?_setCell_same _ _ _ h.c2, fun o => by rw [World.frozen?_setCell]; exact h.f o, by simpa using h.lt⟩
theorem Box3.all_ (h : Box3 w P z y A n c) (z' y' : Int) (A' : Option Addr) (n' c' : Nat) : Box3 (((w.setCell ⟨P, 0, none⟩ (.int .i64 z')).setCell ⟨P, 1, none⟩ (.int .i64 y')).setCell ⟨P, 2, none⟩ (.slice A' n' c')) P z' y' A' n' c' := by
  obtain ⟨h0, h1, h2, hf, hl⟩ := h
  exact ⟨by simp [go_sem, h0, h1, h2], by simp [go_sem, h0, h1, h2], by simp [go_sem, h0, h1, h2], fun o => by simpa [World.frozen?_setCell] using hf o, by simpa using hl⟩
theorem Box3.mk_ (w : World) (z y : Int) (A : Option Addr) (n c : Nat) (T : TypeId) : Box3 (w.alloc (.cells #[.int .i64 z, .int .i64 y, .slice A n c] T)) w.heap.size z y A n c :=
  ⟨by rw [World.cell?_alloc_new]; rfl, by rw [World.cell?_alloc_new]; rfl, by rw [World.cell?_alloc_new]; rfl, fun o => by simp [go_sem], by simp⟩
theorem Box5.grown (h : Box5 w P p) (hg : w.grownBy w' row) (hne : row = some P → False) : Box5 w' P p := by
  obtain ⟨a, b, d⟩ := gcell hg h.lt hne
  exact ⟨(a _).trans h.c0, (a _).trans h.c1, (a _).trans h.c2, (a _).trans h.c3, (a _).trans h.c4, fun o => (b o).trans (h.f o), d⟩
theorem Box5.next (h : Box5 w P p) (hb : Below w.heap.size w w') : Box5 w' P p := h.grown (grown_of_below hb none) (fun e => by cases e)
theorem Box5.set_ (h : Box5 w P p) {b : Nat} (hne : b ≠ P) (o : Nat) (v : Value) : Box5 (w.setCell ⟨b, o, none⟩ v) P p := h.grown (gG_set (gG_refl w (some b)) o v) (fun e => hne (by cases e; rfl))
theorem Box5.mk_ (w : World) (p : Pt) (T : TypeId) : Box5 (w.alloc (.cells #[.int .i64 p.x, .int .i64 p.y, .int .i64 p.w, .int .i64 p.h, .int .i64 p.c] T)) w.heap.size p :=
  ⟨by rw [World.cell?_alloc_new]; rfl, by rw [World.cell?_alloc_new]; rfl, by rw [World.cell?_alloc_new]; rfl, by rw [World.cell?_alloc_new]; rfl, by rw [World.cell?_alloc_new]; rfl, fun o => by simp [go_sem], by simp⟩
theorem Box5.s0 (h : Box5 w P p) (v : Int) : Box5 (w.setCell ⟨P, 0, none⟩ (.int .i64 v)) P ⟨v, p.y, p.w, p.h, p.c⟩ := ⟨World.cell?_setCell_same _ _ _ h.c0, (World.cell?_setCell_other _ _ _ _ (by simp)).trans h.c1, (World.cell?_setCell_other _ _ _ _ (by simp)).trans h.c2, (World.cell?_setCell_other _ _ _ _ (by simp)).trans h.c3, (World.cell?_setCell_other _ _ _ _ (by simp)).trans h.c4, fun o => by rw [World.frozen?_setCell]; exact h.f o, by simpa using h.lt⟩
theorem Box5.s1 (h : Box5 w P p) (v : Int) : Box5 (w.setCell ⟨P, 1, none⟩ (.int .i64 v)) P ⟨p.x, v, p.w, p.h, p.c⟩ := ⟨(World.cell?_setCell_other _ _ _ _ (by simp)).trans h.c0, World.cell?_setCell_same _ _ _ h.c1, (World.cell?_setCell_other _ _ _ _ (by simp)).trans h.c2, (World.cell?_setCell_other _ _ _ _ (by simp)).trans h.c3, (World.cell?_setCell_other _ _ _ _ (by simp)).trans h.c4, fun o => by rw [World.frozen?_setCell]; exact h.f o, by simpa using h.lt⟩
theorem Box5.s2 (h : Box5 w P p) (v : Int) : Box5 (w.setCell ⟨P, 2, none⟩ (.int .i64 v)) P ⟨p.x, p.y, v, p.h, p.c⟩ := ⟨(World.cell?_setCell_other _ _ _ _ (by simp)).trans h.c0, (World.cell?_setCell_other _ _ _ _ (by simp)).trans h.c1, World.cell?_setCell_same _ _ _ h.c2, (World.cell?_setCell_other _ _ _ _ (by simp)).trans h.c3, (World.cell?_setCell_other _ _ _ _ (by simp)).trans h.c4, fun o => by rw [World.frozen?_setCell]; exact h.f o, by simpa using h.lt⟩
theorem Box5.s3 (h : Box5 w P p) (v : Int) : Box5 (w.setCell ⟨P, 3, none⟩ (.int .i64 v)) P ⟨p.x, p.y, p.w, v, p.c⟩ := ⟨(World.cell?_setCell_other _ _ _ _ (by simp)).trans h.c0, (World.cell?_setCell_other _ _ _ _ (by simp)).trans h.c1, (World.cell?_setCell_other _ _ _ _ (by simp)).trans h.c2, World.cell?_setCell_same _ _ _ h.c3, (World.cell?_setCell_other _ _ _ _ (by simp)).trans h.c4, fun o => by rw [World.frozen?_setCell]; exact h.f o, by simpa using h.lt⟩
theorem Box5.s4 (h : Box5 w P p) (v : Int) : Box5 (w.setCell ⟨P, 4, none⟩ (.int .i64 v)) P ⟨p.x, p.y, p.w, p.h, v⟩ := ⟨(World.cell?_setCell_other _ _ _ _ (by simp)).trans h.c0, (World.cell?_setCell_other _ _ _ _ (by simp)).trans h.c1, (World.cell?_setCell_other _ _ _ _ (by simp)).trans h.c2, (World.cell?_setCell_other _ _ _ _ (by simp)).trans h.c3, World.cell?_setCell_same _ _ _ h.c4, fun o => by rw [World.frozen?_setCell]; exact h.f o, by simpa using h.lt⟩
theorem _root_.Go.Proofs.Ytlcllpgbpjdofaa.Cur.set_ {B g : Nat} (h : Cur w B g A n c) {b : Nat} (hne : b ≠ g) (hB : B ≤ b) (o : Nat) (v : Value) : Cur (w.setCell ⟨b, o, none⟩ v) B g A n c := h.keep (gG_set (gG_refl w (some b)) o v) (fun e => hne (by cases e; rfl)) (fun k e => by cases e; exact hB)
theorem gG_setN {a : World} {g : Nat} (h : a.grownBy w (some g)) {b : Nat} (hB : a.heap.size ≤ b) (o : Nat) (v : Value) : a.grownBy (w.setCell ⟨b, o, none⟩ v) (some g) := by
  have k := gG_set (gG_refl w (some b)) o v
  exact ⟨k.os.trans h.os, k.tape.trans h.tape, k.output.trans h.output, Nat.le_trans h.size k.size, fun i hi hne => (k.block i (Nat.lt_of_lt_of_le hi h.size) (fun e => absurd (Option.some.inj e) (by omega))).trans (h.block i hi hne)⟩
theorem gG_ownN {a : World} {g : Nat} (h : a.grownBy w (some g)) (k : w.grownBy w' row) (hr : ∀ q, row = some q → a.heap.size ≤ q) : a.grownBy w' (some g) :=
  ⟨k.os.trans h.os, k.tape.trans h.tape, k.output.trans h.output, Nat.le_trans h.size k.size, fun i hi hne => (k.block i (Nat.lt_of_lt_of_le hi h.size) (fun e => by have := hr _ e.symm; omega)).trans (h.block i hi hne)⟩
end
theorem OwnP.st_all {w : World} {B n c g : Nat} {ps : List Pt} (ho : OwnP w B (some ⟨g, 0, none⟩) n c ps) {k : Nat} (hk : k < n) (p : Pt) :
    OwnP (((((w.setCell ⟨g, k * 5, none⟩ (.int .i64 p.x)).setCell ⟨g, k * 5 + 1, none⟩ (.int .i64 p.y)).setCell ⟨g, k * 5 + 2, none⟩ (.int .i64 p.w)).setCell ⟨g, k * 5 + 3, none⟩ (.int .i64 p.h)).setCell ⟨g, k * 5 + 4, none⟩ (.int .i64 p.c)) B (some ⟨g, 0, none⟩) n c (ps.set k p) := by
  have hl := ho.len
  have s1 := OwnP.st0 ho hk p.x
  have s2 := OwnP.st1 s1.1 hk p.y
  have s3 := OwnP.st2 s2.1 hk p.w
  have s4 := OwnP.st3 s3.1 hk p.h
  have s5 := OwnP.st4 s4.1 hk p.c
  have e := s5.1
  have hkl : k < ps.length := by omega
  simp only [List.set_set, pith_set_self (show k < (ps.set k _).length by simp; omega), pith_set_self hkl] at e
  exact e
theorem own_ne {g P n c : Nat} (h : g ≠ P) : (Value.slice (some ⟨g, 0, none⟩) n c).ownBlock = some P → False := fun e => h (Option.some.inj (show some g = some P from e))
theorem own_le {g B n c : Nat} (h : B ≤ g) : ∀ q, (Value.slice (some ⟨g, 0, none⟩) n c).ownBlock = some q → B ≤ q := fun q e => by
  have := Option.some.inj (show some g = some q from e)
  omega
/-- a drawn layout: of it, only that it is one is told; of what was there the cursor alone has been written -/
structure DrawnL (w : World) (B g : Nat) (A : Option Addr) (n c : Nat) (e : Ending) (w' : World) : Prop where
  ex : ∃ (z y : Int) (A' : Option Addr) (n' c' : Nat) (ps : List Pt), layB z y ps = true ∧ e = .returned (.agg #[.int .i64 z, .int .i64 y, .slice A' n' c']) ∧ OwnP w' w.heap.size A' n' c' ps ∧ Cur w' B g A n c ∧ w.grownBy w' (some g)

end Go.Proofs.Ytlcllpgbpjdofaa
