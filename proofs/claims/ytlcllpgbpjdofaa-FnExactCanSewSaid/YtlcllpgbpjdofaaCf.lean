/- Walks of FirstKnot and CanSew, the program's side. No condition. -/
import Derived.Test.YtlcllpgbpjdofaaKp
import Derived.Test.YtlcllpgbpjdofaaSi
import Derived.Test.YtlcllpgbpjdofaaCk
import Derived.Test.YtlcllpgbpjdofaaLo
import Derived.Deep.DeepCutAuto
set_option linter.unusedSimpArgs false
set_option linter.unusedVariables false
set_option maxRecDepth 100000
namespace Go.Proofs.Ytlcllpgbpjdofaa
open Go.RowKit

/-- two layouts' box -/
structure Box6 (w : World) (P : Nat) (z1 y1 : Int) (A1 : Option Addr) (n1 c1 : Nat) (z2 y2 : Int) (A2 : Option Addr) (n2 c2 : Nat) : Prop where
  x0 : w.cell? ⟨P, 0, none⟩ = some (.int .i64 z1)
  x1 : w.cell? ⟨P, 1, none⟩ = some (.int .i64 y1)
  x2 : w.cell? ⟨P, 2, none⟩ = some (.slice A1 n1 c1)
  x3 : w.cell? ⟨P, 3, none⟩ = some (.int .i64 z2)
  x4 : w.cell? ⟨P, 4, none⟩ = some (.int .i64 y2)
  x5 : w.cell? ⟨P, 5, none⟩ = some (.slice A2 n2 c2)
  f : ∀ o, w.frozen? ⟨P, o, none⟩ = false
  lt : P < w.heap.size
/-- a box of two slices -/
structure BoxS (w : World) (P : Nat) : Prop where
  c0 : w.cell? ⟨P, 0, none⟩ = some (.slice none 0 0)
  c1 : w.cell? ⟨P, 1, none⟩ = some (.slice none 0 0)
  f : ∀ o, w.frozen? ⟨P, o, none⟩ = false
  lt : P < w.heap.size
section
variable {w w' : World} {P n1 c1 n2 c2 : Nat} {z1 y1 z2 y2 : Int} {A1 A2 : Option Addr} {row : Option Nat}
theorem Box6.grown (h : Box6 w P z1 y1 A1 n1 c1 z2 y2 A2 n2 c2) (hg : w.grownBy w' row) (hne : row = some P → False) : Box6 w' P z1 y1 A1 n1 c1 z2 y2 A2 n2 c2 := by
  obtain ⟨a, b, d⟩ := gcell hg h.lt hne
  exact ⟨(a _).trans h.x0, (a _).trans h.x1, (a _).trans h.x2, (a _).trans h.x3, (a _).trans h.x4, (a _).trans h.x5, fun o => (b o).trans (h.f o), d⟩
theorem Box6.next (h : Box6 w P z1 y1 A1 n1 c1 z2 y2 A2 n2 c2) (hb : Below w.heap.size w w') : Box6 w' P z1 y1 A1 n1 c1 z2 y2 A2 n2 c2 := h.grown (grown_of_below hb none) (fun e => by cases e)
theorem Box6.mk_ (w : World) (T : TypeId) : Box6 (w.alloc (.cells #[.int .i64 z1, .int .i64 y1, .slice A1 n1 c1, .int .i64 z2, .int .i64 y2, .slice A2 n2 c2] T)) w.heap.size z1 y1 A1 n1 c1 z2 y2 A2 n2 c2 :=
  ⟨by rw [World.cell?_alloc_new]; rfl, by rw [World.cell?_alloc_new]; rfl, by rw [World.cell?_alloc_new]; rfl, by rw [World.cell?_alloc_new]; rfl, by rw [World.cell?_alloc_new]; rfl, by rw [World.cell?_alloc_new]; rfl, fun o => by simp [go_sem], by simp⟩
def set6 (w : World) (P : Nat) (v0 v1 v2 v3 v4 v5 : Value) : World := (((((w.setCell ⟨P, 0, none⟩ v0).setCell ⟨P, 1, none⟩ v1).setCell ⟨P, 2, none⟩ v2).setCell ⟨P, 3, none⟩ v3).setCell ⟨P, 4, none⟩ v4).setCell ⟨P, 5, none⟩ v5
theorem Box6.all_ {z3 y3 z4 y4 : Int} {A3 A4 : Option Addr} {n3 c3 n4 c4 : Nat} (h : Box6 w P z1 y1 A1 n1 c1 z2 y2 A2 n2 c2) : Box6 (set6 w P (.int .i64 z3) (.int .i64 y3) (.slice A3 n3 c3) (.int .i64 z4) (.int .i64 y4) (.slice A4 n4 c4)) P z3 y3 A3 n3 c3 z4 y4 A4 n4 c4 := by
  obtain ⟨h0, h1, h2, h3, h4, h5, hf, hl⟩ := h
  unfold set6
  exact ⟨by simp [go_sem, h0, h1, h2, h3, h4, h5], by simp [go_sem, h0, h1, h2, h3, h4, h5], by simp [go_sem, h0, h1, h2, h3, h4, h5], by simp [go_sem, h0, h1, h2, h3, h4, h5], by simp [go_sem, h0, h1, h2, h3, h4, h5], by simp [go_sem, h0, h1, h2, h3, h4, h5], fun o => by simpa [World.frozen?_setCell] using hf o, by simpa using hl⟩
theorem BoxS.grown (h : BoxS w P) (hg : w.grownBy w' row) (hne : row = some P → False) : BoxS w' P := by
  obtain ⟨a, b, d⟩ := gcell hg h.lt hne
  exact ⟨(a _).trans h.c0, (a _).trans h.c1, fun o => (b o).trans (h.f o), d⟩
theorem BoxS.next (h : BoxS w P) (hb : Below w.heap.size w w') : BoxS w' P := h.grown (grown_of_below hb none) (fun e => by cases e)
theorem BoxS.mk_ (w : World) (T : TypeId) : BoxS (w.alloc (.cells #[.slice none 0 0, .slice none 0 0] T)) w.heap.size :=
  ⟨by rw [World.cell?_alloc_new]; rfl, by rw [World.cell?_alloc_new]; rfl, fun o => by simp [go_sem], by simp⟩
theorem gG_set6 (w : World) (P : Nat) (v0 v1 v2 v3 v4 v5 : Value) : w.grownBy (set6 w P v0 v1 v2 v3 v4 v5) (some P) :=
  gG_set (gG_set (gG_set (gG_set (gG_set (gG_set (gG_refl w (some P)) 0 v0) 1 v1) 2 v2) 3 v3) 4 v4) 5 v5
theorem below_set6 {N P : Nat} (h : N ≤ P) (w : World) (v0 v1 v2 v3 v4 v5 : Value) : Below N w (set6 w P v0 v1 v2 v3 v4 v5) :=
  ((((((Below.refl N w).setCell h _).setCell h _).setCell h _).setCell h _).setCell h _).setCell h _
theorem gG_set2 (w : World) (P : Nat) (v0 v1 : Value) : w.grownBy ((w.setCell ⟨P, 0, none⟩ v0).setCell ⟨P, 1, none⟩ v1) (some P) := gG_set (gG_set (gG_refl w (some P)) 0 v0) 1 v1
theorem below_set2 {N P : Nat} (h : N ≤ P) (w : World) (v0 v1 : Value) : Below N w ((w.setCell ⟨P, 0, none⟩ v0).setCell ⟨P, 1, none⟩ v1) := ((Below.refl N w).setCell h _).setCell h _
end
/-- C: the call has come back; A, B: the boxes are there; S, T: the results lie in them -/
structure MidK (w0 w : World) (C A B S T : Bool) (P7 P8 : Nat) (A1 : Option Addr) (n1 c1 : Nat) (A2 : Option Addr) (n2 c2 : Nat) (z1 y1 z2 y2 : Int) (l1 l2 : List Pt) : Prop where
  be : Below w0.heap.size w0 w
  row1 : C = true → OwnP w w0.heap.size A1 n1 c1 l1
  row2 : C = true → OwnP w w0.heap.size A2 n2 c2 l2
  at1 : A = true → w0.heap.size ≤ P7
  at2 : B = true → w0.heap.size ≤ P8
  box1 : A = true → S = false → Box6 w P7 0 0 none 0 0 0 0 none 0 0
  full1 : A = true → S = true → Box6 w P7 z1 y1 A1 n1 c1 z2 y2 A2 n2 c2
  box2 : B = true → T = false → BoxS w P8
  lt2' : B = true → P8 < w.heap.size
  ne : A = true → B = true → P7 ≠ P8
  r11 : C = true → A = true → ∀ k, (Value.slice A1 n1 c1).ownBlock = some k → k ≠ P7
  r21 : C = true → A = true → ∀ k, (Value.slice A2 n2 c2).ownBlock = some k → k ≠ P7
  r12 : C = true → B = true → ∀ k, (Value.slice A1 n1 c1).ownBlock = some k → k ≠ P8
  r22 : C = true → B = true → ∀ k, (Value.slice A2 n2 c2).ownBlock = some k → k ≠ P8
section
variable {w0 w w' : World} {C A B S T : Bool} {P7 P8 : Nat} {A1 A2 A1' A2' : Option Addr} {n1 c1 n2 c2 n1' c1' n2' c2' : Nat} {z1 y1 z2 y2 : Int} {l1 l2 : List Pt} {ty : TypeId}
theorem MidK.lt1 (M : MidK w0 w C A B S T P7 P8 A1 n1 c1 A2 n2 c2 z1 y1 z2 y2 l1 l2) (h : A = true) : P7 < w.heap.size := by
  cases S with
  | true => exact (M.full1 h rfl).lt
  | false => exact (M.box1 h rfl).lt
theorem MidK.cast {C' A' B' S' T' : Bool} (M : MidK w0 w C A B S T P7 P8 A1 n1 c1 A2 n2 c2 z1 y1 z2 y2 l1 l2) (hC : C = C') (hA : A = A') (hB : B = B') (hS : S = S') (hT : T = T') : MidK w0 w C' A' B' S' T' P7 P8 A1 n1 c1 A2 n2 c2 z1 y1 z2 y2 l1 l2 := by
  subst hC; subst hA; subst hB; subst hS; subst hT; exact M
theorem MidK.start (w0 : World) : MidK w0 w0.drew false false false false false P7 P8 A1 n1 c1 A2 n2 c2 z1 y1 z2 y2 l1 l2 :=
  ⟨(Below.refl _ _).drew, nofun, nofun, nofun, nofun, nofun, nofun, nofun, nofun, nofun, nofun, nofun, nofun, nofun⟩
theorem MidK.read (M : MidK w0 w C A B S T P7 P8 A1 n1 c1 A2 n2 c2 z1 y1 z2 y2 l1 l2) (hb : Below w.heap.size w w') : MidK w0 w' C A B S T P7 P8 A1 n1 c1 A2 n2 c2 z1 y1 z2 y2 l1 l2 :=
  ⟨M.be.trans (hb.mono M.be.size), fun h => (M.row1 h).next hb, fun h => (M.row2 h).next hb, M.at1, M.at2, fun h k => (M.box1 h k).next hb, fun h k => (M.full1 h k).next hb, fun h k => (M.box2 h k).next hb, fun h => Nat.lt_of_lt_of_le (M.lt2' h) hb.size, M.ne, M.r11, M.r21, M.r12, M.r22⟩
theorem MidK.call (M : MidK w0 w false A B false false P7 P8 A1 n1 c1 A2 n2 c2 z1 y1 z2 y2 l1 l2) (hb : Below w.heap.size w w') (o1 : OwnP w' w.heap.size A1' n1' c1' l1) (o2 : OwnP w' w.heap.size A2' n2' c2' l2) :
    MidK w0 w' true A B false false P7 P8 A1' n1' c1' A2' n2' c2' z1 y1 z2 y2 l1 l2 := by
  have hs := M.be.size
  refine ⟨M.be.trans (hb.mono hs), fun _ => o1.base hs, fun _ => o2.base hs, M.at1, M.at2, fun h k => (M.box1 h k).next hb, (fun h k => by cases k), fun h k => (M.box2 h k).next hb, fun h => Nat.lt_of_lt_of_le (M.lt2' h) hb.size, M.ne, ?_, ?_, ?_, ?_⟩
  · intro _ h k hk; have := M.lt1 h; have := (o1.lt k hk).1; omega
  · intro _ h k hk; have := M.lt1 h; have := (o2.lt k hk).1; omega
  · intro _ h k hk; have := M.lt2' h; have := (o1.lt k hk).1; omega
  · intro _ h k hk; have := M.lt2' h; have := (o2.lt k hk).1; omega
theorem MidK.alloc1 (M : MidK w0 w C false B false T P7 P8 A1 n1 c1 A2 n2 c2 z1 y1 z2 y2 l1 l2) :
    MidK w0 (w.alloc (.cells #[.int .i64 0, .int .i64 0, .slice none 0 0, .int .i64 0, .int .i64 0, .slice none 0 0] ty)) C true B false T w.heap.size P8 A1 n1 c1 A2 n2 c2 z1 y1 z2 y2 l1 l2 := by
  have hb := (Below.refl w.heap.size w).alloc (Nat.le_refl _) (.cells #[.int .i64 0, .int .i64 0, .slice none 0 0, .int .i64 0, .int .i64 0, .slice none 0 0] ty)
  have M' := M.read hb
  refine ⟨M'.be, M'.row1, M'.row2, fun _ => M.be.size, M.at2, fun _ _ => Box6.mk_ w ty, (fun h k => by cases k), M'.box2, M'.lt2', ?_, ?_, ?_, M.r12, M.r22⟩
  · intro _ h; have := M.lt2' h; omega
  · intro h _ k hk; have := ((M.row1 h).lt k hk).2; omega
  · intro h _ k hk; have := ((M.row2 h).lt k hk).2; omega
theorem MidK.alloc2 (M : MidK w0 w C A false S false P7 P8 A1 n1 c1 A2 n2 c2 z1 y1 z2 y2 l1 l2) :
    MidK w0 (w.alloc (.cells #[.slice none 0 0, .slice none 0 0] ty)) C A true S false P7 w.heap.size A1 n1 c1 A2 n2 c2 z1 y1 z2 y2 l1 l2 := by
  have hb := (Below.refl w.heap.size w).alloc (Nat.le_refl _) (.cells #[.slice none 0 0, .slice none 0 0] ty)
  have M' := M.read hb
  refine ⟨M'.be, M'.row1, M'.row2, M.at1, fun _ => M.be.size, M'.box1, M'.full1, fun _ _ => BoxS.mk_ w ty, fun _ => by simp, ?_, M.r11, M.r21, ?_, ?_⟩
  · intro h _; have := M.lt1 h; omega
  · intro h _ k hk; have := ((M.row1 h).lt k hk).2; omega
  · intro h _ k hk; have := ((M.row2 h).lt k hk).2; omega
theorem MidK.store1 (M : MidK w0 w true true true false false P7 P8 A1 n1 c1 A2 n2 c2 z1 y1 z2 y2 l1 l2) :
    MidK w0 (set6 w P7 (.int .i64 z1) (.int .i64 y1) (.slice A1 n1 c1) (.int .i64 z2) (.int .i64 y2) (.slice A2 n2 c2)) true true true true false P7 P8 A1 n1 c1 A2 n2 c2 z1 y1 z2 y2 l1 l2 := by
  have hg := gG_set6 w P7 (.int .i64 z1) (.int .i64 y1) (.slice A1 n1 c1) (.int .i64 z2) (.int .i64 y2) (.slice A2 n2 c2)
  have h7 := M.at1 rfl
  have hn := M.ne rfl rfl
  refine ⟨M.be.trans (below_set6 h7 w _ _ _ _ _ _), fun _ => (M.row1 rfl).keep hg (fun q hq e => ?_), fun _ => (M.row2 rfl).keep hg (fun q hq e => ?_), M.at1, M.at2, (fun h k => by cases k), fun _ _ => (M.box1 rfl rfl).all_, fun _ _ => (M.box2 rfl rfl).grown hg (fun e => ?_), fun _ => Nat.lt_of_lt_of_le (M.lt2' rfl) hg.size, M.ne, M.r11, M.r21, M.r12, M.r22⟩
  · have := M.r11 rfl rfl q hq; cases e; omega
  · have := M.r21 rfl rfl q hq; cases e; omega
  · cases e; omega
theorem MidK.store2 (M : MidK w0 w true true true true false P7 P8 A1 n1 c1 A2 n2 c2 z1 y1 z2 y2 l1 l2) (v0 v1 : Value) :
    MidK w0 ((w.setCell ⟨P8, 0, none⟩ v0).setCell ⟨P8, 1, none⟩ v1) true true true true true P7 P8 A1 n1 c1 A2 n2 c2 z1 y1 z2 y2 l1 l2 := by
  have hg := gG_set2 w P8 v0 v1
  have h8 := M.at2 rfl
  have hn := M.ne rfl rfl
  refine ⟨M.be.trans (below_set2 h8 w _ _), fun _ => (M.row1 rfl).keep hg (fun q hq e => ?_), fun _ => (M.row2 rfl).keep hg (fun q hq e => ?_), M.at1, M.at2, (fun h k => by cases k), fun _ _ => (M.full1 rfl rfl).grown hg (fun e => ?_), (fun h k => by cases k), fun _ => Nat.lt_of_lt_of_le (M.lt2' rfl) hg.size, M.ne, M.r11, M.r21, M.r12, M.r22⟩
  · have := M.r12 rfl rfl q hq; cases e; omega
  · have := M.r22 rfl rfl q hq; cases e; omega
  · cases e; omega
end

theorem impl_divide (z y : Int) (A : Option Addr) (n c : Nat) (ps : List Pt) (u : Bool) (a : Int) (w : World) (h : RdP w w.heap.size A n ps) (hbk : layB z y ps = true) (ha1 : 0 ≤ a) (ha2 : a ≤ 12) :
    Calls Try.prog 102 #[.agg #[.int .i64 z, .int .i64 y, .slice A n c], .agg #[.bool u, .int .i64 a]] w fun e w' => ∃ A1 n1 c1 A2 n2 c2 A3 n3 c3 A4 n4 c4 is js, e = .returned (.tuple #[.agg #[.int .i64 (dvZ1 u z a), .int .i64 (dvY1 u y a), .slice A1 n1 c1, .int .i64 (dvZ2 u z a), .int .i64 (dvY2 u y a), .slice A2 n2 c2], .agg #[.slice A3 n3 c3, .slice A4 n4 c4]]) ∧ Rows4 w' w.heap.size A1 n1 c1 A2 n2 c2 A3 n3 c3 A4 n4 c4 (fstL u a ps) (sndL u a ps) is js ∧ Below w.heap.size w w' := by
  cases u with
  | true => exact impl_divide_true z y A n c ps a w h hbk ha1 ha2
  | false => exact impl_divide_false z y A n c ps a w h hbk ha1 ha2
theorem add_addr (g off j : Nat) : (⟨g, off, none⟩ : Addr).add j = ⟨g, off + j, none⟩ := by
  unfold Addr.add
  by_cases h0 : j = 0 <;> simp [h0]
/-- patches are appended, in a region that draws its order -/
theorem step_appendP (w0 : World) {o : Oper} {a : Act} {K : Act → World → Prop} {Q : Exit → Act → World → Prop} {E : Prop} (Y : Nat → Option Bool) (hgd : o.guard = none) (s x : Operand)
    (ho : o.op = .call { callee := .builtin .append, args := #[s, x], argTypes := #[27, 27] })
    (B : Nat) (A : Option Addr) (n c : Nat) (xs : List Pt) (hs : a.eval s = .slice A n c) (hown : OwnP w0 B A n c xs)
    {g off m mc B' : Nat} {ys : List Pt} (hx : a.eval x = .slice (some ⟨g, off, none⟩) m mc) (hys : RdP w0 B' (some ⟨g, off, none⟩) m ys) (hm : 0 < m) (hn : n + m ≤ 2097152) (hbase : B ≤ w0.heap.size) {N : Nat} (hN : w0.heap.size = N)
    (hK : ∀ g' c' w', OwnP w' B (some ⟨g', 0, none⟩) (n + m) c' (xs ++ ys) → w0.grownBy w' (Value.slice A n c).ownBlock → ((Value.slice A n c).ownBlock = some g' ∨ g' = N) → g' < w'.heap.size →
      K (a.put o.dst (.slice (some ⟨g', 0, none⟩) (n + m) c')) w') : if Region.wanted o Y = true then Oper.wp Try.prog o a w0 K Q else E := by
  have hw : Region.wanted o Y = true := by simp [Region.wanted, hgd]
  rw [if_pos hw]
  have hw2 : Region.wanted o (yielded #[] a.tmps) = true := by simp [Region.wanted, hgd]
  have hx2 : (if Region.wanted o (yielded #[] a.tmps) = true then Oper.wp Try.prog o a w0 K Q else True) → Oper.wp Try.prog o a w0 K Q := fun h => by rwa [if_pos hw2] at h
  refine hx2 ?_
  obtain ⟨i0, hi, hz0, hz1, hz2⟩ := info_parts patch_info
  refine step_append_lies w0 hgd s x _ ho B 34 i0 (.agg #[.int .i64 0, .int .i64 0, .int .i64 0, .int .i64 0, .int .i64 0]) 5 40 Try.underlying27 hi hz0 hz1 hz2 rfl (by omega) (.slice A n c) n (xs.flatMap Pt.vals) hs hown.2.2 ⟨g, off, none⟩ m mc (ys.flatMap Pt.vals) hx (by rw [flatG_len Pt.len, hys.1]) ?_ ?_ hm (by unfold maxLen; omega) (by omega) hbase N hN ?_
  · intro j u hj
    have hjl : j < m * 5 := by
      have := (List.getElem?_eq_some_iff.1 hj).1
      rw [flatG_len Pt.len, hys.1] at this
      exact this
    obtain ⟨g2, off2, e, _, hc⟩ := hys.2.2 hm
    simp only [Option.some.injEq, Addr.mk.injEq, and_true] at e
    obtain ⟨rfl, rfl⟩ := e
    have hk : j / 5 < ys.length := by rw [hys.1]; omega
    have hx2 := pith_some hk
    have h1 := flatG_get Pt.len ys (j / 5) _ hx2 (j % 5) (by omega)
    have hd : j / 5 * 5 + j % 5 = j := by omega
    rw [hd, hj] at h1
    have h2 := hc (j / 5) _ hx2 (j % 5) u h1.symm
    rw [hd] at h2
    rw [add_addr]; exact h2
  · intro u hu
    rw [List.mem_flatMap] at hu
    obtain ⟨p, _, hu⟩ := hu
    simp [Pt.vals] at hu
    rcases hu with rfl | rfl | rfl | rfl | rfl <;> rfl
  · intro g' c' w' h2 h3 h4 h5
    refine hK g' c' w' ⟨by omega, by rw [List.length_append, hown.2.1, hys.1], ?_⟩ h3 h4 h5
    rw [List.flatMap_append]
    exact h2

set_option maxRecDepth 100000 in
set_option maxHeartbeats 4000000 in
theorem impl_FirstKnot_no (z y : Int) (A : Option Addr) (n c : Nat) (ps : List Pt) (w : World) (h : RdP w w.heap.size A n ps) (hbk : layB z y ps = false ∨ n = 1) :
    Calls Try.prog 101 #[.agg #[.int .i64 z, .int .i64 y, .slice A n c]] w fun e w' => e = .returned (.tuple #[.agg #[.int .i64 0, .int .i64 0, .slice none 0 0], .bool false]) ∧ Below w.heap.size w w' := by
  have hs := lt2
  have H := Lib.hid h
  clear h
  have BP0 := Lib.hid ((Box3.mk_ w z y A n c 29).next ((Below.refl _ _).alloc (Nat.le_refl _) (.cells #[.int .i64 0, .int .i64 0, .slice none 0 0] 29)))
  have BR0 := Box3.mk_ (w.alloc (.cells #[.int .i64 z, .int .i64 y, .slice A n c] 29)) 0 0 none 0 0 29
  rw [World.size_alloc] at BR0
  have BR0 := Lib.hid BR0
  have BW0 := Lib.hid (((Below.refl w.heap.size w).alloc (Nat.le_refl _) (.cells #[.int .i64 z, .int .i64 y, .slice A n c] 29)).alloc (by simp) (.cells #[.int .i64 0, .int .i64 0, .slice none 0 0] 29))
  go_enter Try.func101, Try.ntmps101
  go_wp2_with fail
  refine (impl_LayoutOk _ _ _ _ _ ps _ (H.out.below' (by go_grown) (by go_size))).mono ?_
  rintro e w1 ⟨rfl, hb1⟩
  have BP1 := Lib.hid (BP0.out.next hb1)
  have BR1 := Lib.hid (BR0.out.next hb1)
  have BW1 := Lib.hid (BW0.out.trans (hb1.mono BW0.out.size))
  clear hb1
  have b0 := BP1.out.c0
  have b1 := BP1.out.c1
  have b2 := BP1.out.c2
  have a0 := BR1.out.c0
  have a1 := BR1.out.c1
  have a2 := BR1.out.c2
  have af := BR1.out.f
  have r0 := (BR1.out.all_ 0 0 none 0 0).c0
  have r1 := (BR1.out.all_ 0 0 none 0 0).c1
  have r2 := (BR1.out.all_ 0 0 none 0 0).c2
  have HF := Lib.hid (((BW1.out.setCell (show w.heap.size ≤ (⟨w.heap.size + 1, 0, none⟩ : Addr).block from Nat.le_succ _) (.int .i64 0)).setCell (show w.heap.size ≤ (⟨w.heap.size + 1, 1, none⟩ : Addr).block from Nat.le_succ _) (.int .i64 0)).setCell (show w.heap.size ≤ (⟨w.heap.size + 1, 2, none⟩ : Addr).block from Nat.le_succ _) (.slice none 0 0))
  cases hk : layB z y ps with
  | false =>
    go_upto_region 2 with fail
    repeat (first | go_values | go_skip | go_guarded | go_step | go_upon)
    refine bodyPost_ret (by simp [results, Try.results101, go_sem, r0, r1, r2]; try rfl) rfl ?_
    exact ⟨rfl, HF.out⟩
  | true =>
    have h1 : n = 1 := hbk.resolve_left (by rw [hk]; simp)
    subst h1
    go_upto_region 2 with fail
    repeat (first | go_values | go_skip | go_guarded | go_step | go_upon)
    refine bodyPost_ret (by simp [results, Try.results101, go_sem, r0, r1, r2]; try rfl) rfl ?_
    exact ⟨rfl, HF.out⟩

end Go.Proofs.Ytlcllpgbpjdofaa
