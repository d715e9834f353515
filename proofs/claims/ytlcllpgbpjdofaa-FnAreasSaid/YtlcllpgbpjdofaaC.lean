/- Slices of cells: what it means that one reads as a list; walks of the laws' helpers. Lists of at most 2097152 cells. -/
import Derived.Test.YtlcllpgbpjdofaaP
import Derived.StillTailTactics
set_option linter.unusedSimpArgs false
set_option linter.unusedVariables false
set_option maxRecDepth 100000
namespace Go.Proofs.Ytlcllpgbpjdofaa
open Go.RowKit

def C.vals (c : C) : List Value := [.int .i64 c.s, .int .i64 c.a, .int .i64 c.b]
theorem C_eq {x y : C} (h1 : x.s = y.s) (h2 : x.a = y.a) (h3 : x.b = y.b) : x = y := by cases x; cases y; simp_all
/-- element k -/
def cith (cs : List C) (k : Nat) : C := cs.getD k ⟨0, 0, 0⟩
theorem cith_get {cs : List C} {k : Nat} (h : k < cs.length) : cith cs k = cs[k] := by simp [cith, List.getD, List.getElem?_eq_getElem h]
theorem cith_cons {c : C} {cs : List C} {k : Nat} : cith (c :: cs) (k + 1) = cith cs k := by simp [cith, List.getD]
theorem cith_zero {c : C} {cs : List C} : cith (c :: cs) 0 = c := by simp [cith, List.getD]
theorem cith_set_self {cs : List C} {k : Nat} {x : C} (h : k < cs.length) : cith (cs.set k x) k = x := by simp [cith, List.getD, h]
theorem cith_set_other {cs : List C} {k j : Nat} {x : C} (h : j ≠ k) : cith (cs.set k x) j = cith cs j := by simp [cith, List.getD, List.getElem?_set_ne (Ne.symm h)]
theorem cext {xs ys : List C} (hl : xs.length = ys.length) (h : ∀ j, j < xs.length → cith xs j = cith ys j) : xs = ys := by
  apply List.ext_getElem hl
  intro j h1 h2
  have := h j h1
  rwa [cith_get h1, cith_get h2] at this
theorem flat_len (cs : List C) : (cs.flatMap C.vals).length = cs.length * 3 := by
  induction cs with
  | nil => rfl
  | cons c cs ih => rw [List.flatMap_cons, List.length_append, ih, List.length_cons]; simp [C.vals]; omega
theorem flat_get (cs : List C) : ∀ k, k < cs.length → (cs.flatMap C.vals)[k * 3]? = some (.int .i64 (cith cs k).s) ∧ (cs.flatMap C.vals)[k * 3 + 1]? = some (.int .i64 (cith cs k).a) ∧ (cs.flatMap C.vals)[k * 3 + 2]? = some (.int .i64 (cith cs k).b) := by
  induction cs with
  | nil => intro k h; simp at h
  | cons c cs ih =>
    intro k hk
    cases k with
    | zero => rw [List.flatMap_cons, cith_zero]; simp [C.vals]
    | succ k =>
      have := ih k (by simpa using hk)
      rw [List.flatMap_cons, cith_cons]
      have e : ∀ j, (C.vals c ++ cs.flatMap C.vals)[(k + 1) * 3 + j]? = (cs.flatMap C.vals)[k * 3 + j]? := by
        intro j
        rw [show (k + 1) * 3 + j = 3 + (k * 3 + j) from by omega, List.getElem?_append_right (by simp [C.vals])]
        congr 1
        simp [C.vals]
      exact ⟨by rw [← Nat.add_zero ((k + 1) * 3), e]; exact this.1, by rw [e]; exact this.2.1, by rw [e]; exact this.2.2⟩
theorem flat_set (cs : List C) : ∀ k, k < cs.length → ∀ x, (cs.flatMap C.vals).set (k * 3) (.int .i64 x) = (cs.set k ⟨x, (cith cs k).a, (cith cs k).b⟩).flatMap C.vals ∧
    (cs.flatMap C.vals).set (k * 3 + 1) (.int .i64 x) = (cs.set k ⟨(cith cs k).s, x, (cith cs k).b⟩).flatMap C.vals ∧
    (cs.flatMap C.vals).set (k * 3 + 2) (.int .i64 x) = (cs.set k ⟨(cith cs k).s, (cith cs k).a, x⟩).flatMap C.vals := by
  induction cs with
  | nil => intro k h; simp at h
  | cons c cs ih =>
    intro k hk x
    cases k with
    | zero => rw [List.flatMap_cons, cith_zero]; simp [C.vals]
    | succ k =>
      have := ih k (by simpa using hk) x
      rw [List.flatMap_cons, cith_cons]
      have e : ∀ j v, (C.vals c ++ cs.flatMap C.vals).set ((k + 1) * 3 + j) v = C.vals c ++ (cs.flatMap C.vals).set (k * 3 + j) v := by
        intro j v
        rw [show (k + 1) * 3 + j = 3 + (k * 3 + j) from by omega, List.set_append_right _ _ (by simp [C.vals])]
        congr 2
        simp [C.vals]
      simp only [List.set_cons_succ, List.flatMap_cons]
      exact ⟨by rw [← Nat.add_zero ((k + 1) * 3), e]; exact congrArg _ this.1, by rw [e]; exact congrArg _ this.2.1, by rw [e]; exact congrArg _ this.2.2⟩

/-- the slice value '.slice A n c' reads as the list of cells cs, in blocks below B -/
def RdC (w : World) (B : Nat) (A : Option Addr) (n : Nat) (cs : List C) : Prop :=
  cs.length = n ∧ n ≤ 2097152 ∧ (0 < n → ∃ g off, A = some ⟨g, off, none⟩ ∧ g < B ∧ ∀ k, k < n → w.cell? ⟨g, off + k * 3, none⟩ = some (.int .i64 (cith cs k).s) ∧ w.cell? ⟨g, off + k * 3 + 1, none⟩ = some (.int .i64 (cith cs k).a) ∧ w.cell? ⟨g, off + k * 3 + 2, none⟩ = some (.int .i64 (cith cs k).b))

section
variable {w w' : World} {B B' n : Nat} {A : Option Addr} {xs : List C}
theorem RdC.le (h : RdC w B A n xs) : n ≤ 2097152 := h.2.1
theorem RdC.at_ (h : RdC w B A n xs) {k : Nat} (hk : k < n) : ∃ g off, A = some ⟨g, off, none⟩ ∧ w.cell? ⟨g, off + k * 3, none⟩ = some (.int .i64 (cith xs k).s) ∧ w.cell? ⟨g, off + k * 3 + 1, none⟩ = some (.int .i64 (cith xs k).a) ∧ w.cell? ⟨g, off + k * 3 + 2, none⟩ = some (.int .i64 (cith xs k).b) := by
  obtain ⟨g, off, e, _, hc⟩ := h.2.2 (by omega)
  exact ⟨g, off, e, hc k hk⟩
theorem RdC.move (h : RdC w B A n xs) (hb : ∀ g o, g < B → w'.cell? ⟨g, o, none⟩ = w.cell? ⟨g, o, none⟩) : RdC w' B A n xs :=
  ⟨h.1, h.2.1, fun hn => by
    obtain ⟨g, off, e, hg, hc⟩ := h.2.2 hn
    exact ⟨g, off, e, hg, fun k hk => ⟨(hb _ _ hg).trans (hc k hk).1, (hb _ _ hg).trans (hc k hk).2.1, (hb _ _ hg).trans (hc k hk).2.2⟩⟩⟩
theorem RdC.below (h : RdC w B A n xs) (hb : Below B w w') : RdC w' B A n xs := h.move fun g o hg => hb.cell (p := ⟨g, o, none⟩) hg
theorem RdC.more (h : RdC w B A n xs) (hB : B ≤ B') : RdC w B' A n xs :=
  ⟨h.1, h.2.1, fun hn => by
    obtain ⟨g, off, e, hg, hc⟩ := h.2.2 hn
    exact ⟨g, off, e, by omega, hc⟩⟩
theorem RdC.below' (h : RdC w B A n xs) (hb : Below B w w') (hB : B ≤ B') : RdC w' B' A n xs := (h.below hb).more hB
theorem RdC.next (h : RdC w w.heap.size A n xs) (hb : Below w.heap.size w w') : RdC w' w'.heap.size A n xs := (h.below hb).more hb.size
theorem RdC.grown (h : RdC w B A n xs) {row : Option Nat} (hg : w.grownBy w' row) (hB : B ≤ w.heap.size) (hr : ∀ g, row = some g → B ≤ g) : RdC w' B A n xs :=
  h.move fun g o hlt => World.cell?_of_block (a := ⟨g, o, none⟩) (hg.block g (by omega) (fun e' => by have := hr _ e'.symm; omega))
end

/-- the slice value '.slice A n c' is a row of cells of the call's own, made at block B or later, and holds cs -/
def OwnC (w : World) (B : Nat) (A : Option Addr) (n c : Nat) (cs : List C) : Prop :=
  n ≤ 2097152 ∧ cs.length = n ∧ w.ownsRow B 49 3 (.slice A n c) n (cs.flatMap C.vals)

section
variable {w w' : World} {B B' n c g : Nat} {A : Option Addr} {xs : List C}
theorem OwnC.len (h : OwnC w B A n c xs) : xs.length = n := h.2.1
theorem OwnC.form (h : OwnC w B A n c xs) (hn : 0 < n) : ∃ g, A = some ⟨g, 0, none⟩ ∧ B ≤ g ∧ g < w.heap.size := by
  rcases h.2.2.2 with ⟨hv, h0⟩ | ⟨g, cap, cur, hv, hg, hh, _⟩
  · omega
  · injection hv with h1
    refine ⟨g, h1, hg, ?_⟩
    rcases Nat.lt_or_ge g w.heap.size with hlt | hge
    · exact hlt
    · rw [Array.getElem?_eq_none hge] at hh; cases hh
theorem OwnC.cellAt (h : OwnC w B (some ⟨g, 0, none⟩) n c xs) {k : Nat} (hk : k < n) : w.cell? ⟨g, k * 3, none⟩ = some (.int .i64 (cith xs k).s) ∧ w.cell? ⟨g, k * 3 + 1, none⟩ = some (.int .i64 (cith xs k).a) ∧ w.cell? ⟨g, k * 3 + 2, none⟩ = some (.int .i64 (cith xs k).b) := by
  have h2 := h.2.2
  rcases h.2.2.2 with ⟨hv, h0⟩ | ⟨g', cap, cur, hv, hg, hh, _⟩
  · omega
  · injection hv with h1 h3 h4
    subst h4
    have hl := h.2.1
    have hf := flat_get xs k (by omega)
    exact ⟨(World.ownsRow.cellAt h2 _ (by omega)).trans hf.1, (World.ownsRow.cellAt h2 _ (by omega)).trans hf.2.1, (World.ownsRow.cellAt h2 _ (by omega)).trans hf.2.2⟩
theorem OwnC.frozenAt (h : OwnC w B (some ⟨g, 0, none⟩) n c xs) (hn : 0 < n) (k : Nat) : w.frozen? ⟨g, k, none⟩ = false := by
  have h2 := h.2.2
  rcases h.2.2.2 with ⟨hv, h0⟩ | ⟨g', cap, cur, hv, hg, hh, _⟩
  · omega
  · injection hv with h1 h3 h4
    subst h4
    exact World.ownsRow.frozenAt h2 k
theorem OwnC.rd (h : OwnC w B A n c xs) : RdC w w.heap.size A n xs := by
  refine ⟨h.len, h.1, fun hn => ?_⟩
  obtain ⟨g, rfl, hg, hlt⟩ := h.form hn
  refine ⟨g, 0, rfl, hlt, fun k hk => ?_⟩
  rw [Nat.zero_add]
  exact h.cellAt hk
theorem OwnC.store (h : OwnC w B (some ⟨g, 0, none⟩) n c xs) {k : Nat} (hk : k < n) (x : Int) :
    (OwnC (w.setCell ⟨g, k * 3, none⟩ (.int .i64 x)) B (some ⟨g, 0, none⟩) n c (xs.set k ⟨x, (cith xs k).a, (cith xs k).b⟩) ∧ w.grownBy (w.setCell ⟨g, k * 3, none⟩ (.int .i64 x)) (some g)) ∧
    (OwnC (w.setCell ⟨g, k * 3 + 1, none⟩ (.int .i64 x)) B (some ⟨g, 0, none⟩) n c (xs.set k ⟨(cith xs k).s, x, (cith xs k).b⟩) ∧ w.grownBy (w.setCell ⟨g, k * 3 + 1, none⟩ (.int .i64 x)) (some g)) ∧
    (OwnC (w.setCell ⟨g, k * 3 + 2, none⟩ (.int .i64 x)) B (some ⟨g, 0, none⟩) n c (xs.set k ⟨(cith xs k).s, (cith xs k).a, x⟩) ∧ w.grownBy (w.setCell ⟨g, k * 3 + 2, none⟩ (.int .i64 x)) (some g)) := by
  have hl := h.2.1
  have hf := flat_set xs k (by omega) x
  have h0 := World.ownsRow.stored h.2.2 (k * 3) (.int .i64 x)
  have h1 := World.ownsRow.stored h.2.2 (k * 3 + 1) (.int .i64 x)
  have h2 := World.ownsRow.stored h.2.2 (k * 3 + 2) (.int .i64 x)
  rw [hf.1] at h0
  rw [hf.2.1] at h1
  rw [hf.2.2] at h2
  exact ⟨⟨⟨h.1, by rw [List.length_set]; exact hl, h0.1⟩, h0.2⟩, ⟨⟨h.1, by rw [List.length_set]; exact hl, h1.1⟩, h1.2⟩, ⟨h.1, by rw [List.length_set]; exact hl, h2.1⟩, h2.2⟩
theorem OwnC.kept {row : Option Nat} (h : OwnC w B A n c xs) (hg : w.grownBy w' row) (hne : (Value.slice A n c).ownBlock = none ∨ (Value.slice A n c).ownBlock ≠ row) : OwnC w' B A n c xs := ⟨h.1, h.2.1, h.2.2.kept hg hne⟩
theorem OwnC.keep {row : Option Nat} (h : OwnC w B A n c xs) (hg : w.grownBy w' row) (hne : ∀ k, (Value.slice A n c).ownBlock = some k → row ≠ some k) : OwnC w' B A n c xs := by
  refine h.kept hg ?_
  rcases hq : (Value.slice A n c).ownBlock with _ | g
  · exact .inl rfl
  · exact .inr (fun e => hne g hq e.symm)
theorem OwnC.set_ (h : OwnC w B A n c xs) {p : Addr} (hp : p.block < B) (u : Value) : OwnC (w.setCell p u) B A n c xs := ⟨h.1, h.2.1, ownsRow_setCell_below h.2.2 hp u⟩
theorem OwnC.next (h : OwnC w B A n c xs) (hb : Below w.heap.size w w') : OwnC w' B A n c xs := h.keep (grown_of_below hb none) (fun _ _ => by simp)
theorem OwnC.base (h : OwnC w B A n c xs) (hB : B' ≤ B) : OwnC w B' A n c xs := by
  refine ⟨h.1, h.2.1, h.2.2.1, ?_⟩
  rcases h.2.2.2 with h2 | ⟨g, cap, cur, hv, hg, r⟩
  · exact .inl h2
  · exact .inr ⟨g, cap, cur, hv, by omega, r⟩
theorem OwnC.lt (h : OwnC w B A n c xs) : ∀ k, (Value.slice A n c).ownBlock = some k → B ≤ k ∧ k < w.heap.size := h.2.2.lt
theorem OwnC.belowOwn (h : OwnC w B A n c xs) (hg : w.grownBy w' (Value.slice A n c).ownBlock) (hB : B ≤ w.heap.size) : Below B w w' :=
  (Below.refl B w).grown hg hB (fun k hk => (h.lt k hk).1)
end

theorem cell_info : (Try.prog.info? 49).map (fun i => (i.zero, i.size, i.bytes)) = some (some (.agg #[.int .i64 0, .int .i64 0, .int .i64 0]), 3, 24) := by kernel_rfl
theorem madeC {w w1 : World} {n : Nat} (hn : n ≤ 2097152) (h : w1.ownsRow w.heap.size 49 3 (.slice (some ⟨w.heap.size, 0, none⟩) n n) n (madeCells (Value.agg #[.int .i64 0, .int .i64 0, .int .i64 0]).cells (n * 3)).toList) :
    OwnC w1 w.heap.size (some ⟨w.heap.size, 0, none⟩) n n (List.replicate n ⟨0, 0, 0⟩) := by
  refine ⟨hn, by simp, ?_⟩
  have e : (madeCells (Value.agg #[.int .i64 0, .int .i64 0, .int .i64 0]).cells (n * 3)).toList = (List.replicate n (⟨0, 0, 0⟩ : C)).flatMap C.vals := by
    have e1 : (madeCells (Value.agg #[.int .i64 0, .int .i64 0, .int .i64 0]).cells (n * 3)).toList = List.replicate (n * 3) (.int .i64 0) := by
      apply List.ext_getElem?
      intro j
      by_cases hj : j < n * 3
      · rw [List.getElem?_replicate, if_pos hj]
        simp only [madeCells, Value.cells, Array.getElem?_toList, Array.getElem?_map, Array.getElem?_range, hj, Option.map_some]
        have h3 : j % 3 < 3 := Nat.mod_lt _ (by omega)
        have : j % 3 = 0 ∨ j % 3 = 1 ∨ j % 3 = 2 := by omega
        rcases this with h | h | h <;> simp [h]
      · simp [madeCells, hj]
    rw [e1]
    clear e1 h hn
    induction n with
    | zero => rfl
    | succ n ih => rw [List.replicate_succ, List.flatMap_cons, ← ih, show (n + 1) * 3 = n * 3 + 1 + 1 + 1 from by omega, List.replicate_succ, List.replicate_succ, List.replicate_succ]; rfl
  rwa [e] at h

set_option maxHeartbeats 400000 in
theorem laws_toCellS (A : Option Addr) (n c : Nat) (xs : List C) (w : World) (h : RdC w w.heap.size A n xs) :
    Calls Try.prog 80 #[.slice A n c] w fun e w' => ∃ g, e = .returned (.slice (some ⟨g, 0, none⟩) n n) ∧ OwnC w' w.heap.size (some ⟨g, 0, none⟩) n n xs ∧ Below w.heap.size w w' := by
  have hle := h.le
  obtain ⟨i0, hi, hz0, hz1, hz2⟩ := info_parts cell_info
  have HI := Lib.hid hi; have HZ0 := Lib.hid hz0; have HZ1 := Lib.hid hz1; have HZ2 := Lib.hid hz2
  clear hi hz0 hz1 hz2
  have H := Lib.hid h
  clear h
  go_enter Try.func80, Try.ntmps80
  go_wp2_with (at_make; refine wpList_make_full _ rfl _ _ _ rfl w.heap.size 49 i0 (.agg #[.int .i64 0, .int .i64 0, .int .i64 0]) 3 Try.underlying40 HI.out HZ0.out HZ1.out .i64 .i64 n n n rfl rfl rfl rfl (by rw [HZ2.out]; omega) (by unfold maxLen; omega) (Nat.le_refl _) ?_; intro w1 hown1 hg1; have HO := Lib.hid (madeC hle hown1); have HB := Lib.hid ((Below.refl w.heap.size w).grown hg1 (Nat.le_refl _) (by intro k hk; cases hk)); clear hown1 hg1)
  go_loopw [4] (fun i wr => ∃ (k : Nat) (ys : List C), k ≤ n ∧ i = .int .i64 k ∧ Hid (OwnC wr w.heap.size (some ⟨w.heap.size, 0, none⟩) n n ys) ∧ Hid (∀ j, j < k → cith ys j = cith xs j) ∧ Hid (Below w.heap.size w wr)) (fun i _ => n - (intOf i).toNat)
  case atStart => exact ⟨0, _, Nat.zero_le _, rfl, HO, fun j hj => absurd hj (by omega), HB⟩
  case round =>
    obtain ⟨k, ys, hk, rfl, ho, hp, hb⟩ := hrel
    by_cases hlt : k < n
    · obtain ⟨g, off, rfl, hc0, hc1, hc2⟩ := (H.out.below hb.out).at_ hlt
      go_wp2_with fail
      refine (laws_toCell _ _ _ _).mono ?_
      rintro e w2 ⟨rfl, hb2⟩
      have HB2 := Lib.hid (hb.out.trans (hb2.mono hb.out.size))
      have ho2 := ho.out.next hb2
      clear hb2
      have s1 := (ho2.store hlt (cith xs k).s).1
      have s2 := (s1.1.store hlt (cith xs k).a).2.1
      have s3 := (s2.1.store hlt (cith xs k).b).2.2
      obtain ⟨d0, d1, d2⟩ := ho2.cellAt hlt
      obtain ⟨_, d1', _⟩ := s1.1.cellAt hlt
      obtain ⟨_, _, d2'⟩ := s2.1.cellAt hlt
      have f0 := ho2.frozenAt (by omega) (k * 3)
      have f1 := s1.1.frozenAt (by omega) (k * 3 + 1)
      have f2 := s2.1.frozenAt (by omega) (k * 3 + 2)
      have S3 := Lib.hid s3.1
      clear s1 s2 s3 d1 d2
      go_wp2
      go_roundw
      case rel =>
        refine ⟨k + 1, _, by omega, by go_num, S3.out, ?_, ((HB2.out.setCell (Nat.le_refl _) _).setCell (Nat.le_refl _) _).setCell (Nat.le_refl _) _⟩
        have hl := ho.out.len
        intro j hj
        by_cases hjk : j = k
        · subst hjk; rw [cith_get (by simp; omega)]; simp [cith_set_self (show j < ys.length by omega)]
        · have h1 := hp.out j (by omega)
          simp only [cith_set_other hjk]; exact h1
      case measure => simp [intOf]; omega
    · go_wp2
      go_ret
      have hl := ho.out.len
      have hx := H.out.1
      have e : ys = xs := cext (by omega) (fun j hj => hp.out j (by omega))
      exact ⟨_, rfl, e ▸ ho.out, hb.out⟩

def eqCs (xs ys : List C) : Prop := xs = ys
theorem cEq_self (s a b : Int) : cEq s a b s a b = true := by simp [cEq]
theorem cEq_iff {x y : C} : cEq x.s x.a x.b y.s y.a y.b = true ↔ x = y := by
  cases x; cases y
  simp [cEq, Bool.and_eq_true, beq_iff_eq, and_assoc]

set_option maxHeartbeats 1000000 in
theorem laws_eqCellS (A A' : Option Addr) (n c n' c' : Nat) (xs : List C) (w : World) (h : RdC w w.heap.size A n xs) (h' : RdC w w.heap.size A' n' xs) :
    Calls Try.prog 85 #[.slice A n c, .slice A' n' c'] w fun e w' => e = .returned (.bool true) ∧ Below w.heap.size w w' := by
  have hle := h.le
  have hle' := h'.le
  obtain rfl : n = n' := by rw [← h.1, ← h'.1]
  have H := Lib.hid h
  have H' := Lib.hid h'
  clear h h'
  have hq : ((n : Int) != (n : Int)) = false := by simp
  go_enter Try.func85, Try.ntmps85
  go_wp2
  clear hq
  go_loopw [5] (fun i wr => ∃ (k : Nat), k ≤ n ∧ i = .int .i64 k ∧ Hid (Below w.heap.size w wr)) (fun i _ => n - (intOf i).toNat)
  case atStart => exact ⟨0, Nat.zero_le _, rfl, Below.refl _ _⟩
  case round =>
    obtain ⟨k, hk, rfl, hb⟩ := hrel
    by_cases hlt : k < n
    · obtain ⟨g, off, rfl, hc0, hc1, hc2⟩ := (H.out.below hb.out).at_ hlt
      obtain ⟨g', off', rfl, hc0', hc1', hc2'⟩ := (H'.out.below hb.out).at_ hlt
      have h0 : (0 : Int) ≤ (k : Int) := by omega
      have h1 : (k : Int) < (n : Int) := by omega
      go_wp2
      go_still_tail 8, (by kernel_rfl)
      go_wp2_with (go_at_call 114; refine (laws_eqCell_self _ _ _ _).mono ?_; rintro e w2 ⟨rfl, hb2⟩; have HB2 := Lib.hid (hb.out.drew.trans (hb2.mono hb.out.size)); clear hb2)
      go_roundw
      case rel => exact ⟨k + 1, by omega, by go_num, HB2.out⟩
      case measure => simp [intOf]; omega
    · go_wp2
      go_ret
      exact ⟨rfl, hb.out⟩

/-- cells with the marks k0, k0 + 1, .. -/
def marksC (k0 : Int) (n : Nat) : List C := (List.range n).map (fun (i : Nat) => ⟨k0 + 3 * (i : Int), k0 + 3 * (i : Int) + 1, k0 + 3 * (i : Int) + 2⟩)
theorem marksC_len (k0 : Int) (n : Nat) : (marksC k0 n).length = n := by simp [marksC]
theorem cith_marks {k0 : Int} {n j : Nat} (h : j < n) : cith (marksC k0 n) j = ⟨k0 + 3 * j, k0 + 3 * j + 1, k0 + 3 * j + 2⟩ := by
  rw [cith_get (by rw [marksC_len]; exact h)]; simp [marksC]

set_option maxHeartbeats 1000000 in
theorem laws_markCellS (A : Option Addr) (n c B : Nat) (xs : List C) (k0 : Int) (w : World) (h : OwnC w B A n c xs) (hk0 : 0 ≤ k0) (hk1 : k0 ≤ 1000000000000) :
    Calls Try.prog 86 #[.slice A n c, .int .i64 k0] w fun e w' => e = .returned (.int .i64 (k0 + 3 * n)) ∧ OwnC w' B A n c (marksC k0 n) ∧ w.grownBy w' (Value.slice A n c).ownBlock := by
  have hle := h.1
  have H := Lib.hid h
  clear h
  go_enter Try.func86, Try.ntmps86
  go_wp2
  go_loopw [1, 5] (fun q i wr => ∃ (k : Nat) (ys : List C) (p : Int), k ≤ n ∧ 0 ≤ p ∧ p ≤ 1000000000000 + 3 * k ∧ i = .int .i64 k ∧ q = .int .i64 p ∧ Hid (p = k0 + 3 * k) ∧ Hid (OwnC wr B A n c ys) ∧ Hid (∀ j, j < k → cith ys j = ⟨k0 + 3 * j, k0 + 3 * j + 1, k0 + 3 * j + 2⟩) ∧ Hid (w.grownBy wr (Value.slice A n c).ownBlock)) (fun _ i _ => n - (intOf i).toNat)
  case atStart => exact ⟨0, xs, k0, Nat.zero_le _, hk0, by omega, rfl, rfl, by show k0 = k0 + 3 * ((0 : Nat) : Int); omega, H, fun j hj => absurd hj (by omega), World.grownBy.refl _ _⟩
  case round =>
    obtain ⟨k, ys, p, hk, hp0, hp1, rfl, rfl, hp2, ho, hp, hb⟩ := hrel
    by_cases hlt : k < n
    · obtain ⟨g, rfl, _, _⟩ := ho.out.form (by omega)
      have s1 := (ho.out.store hlt p).1
      have s2 := (s1.1.store hlt (p + 1)).2.1
      have s3 := (s2.1.store hlt (p + 1 + 1)).2.2
      obtain ⟨d0, d1, d2⟩ := ho.out.cellAt hlt
      obtain ⟨_, d1', _⟩ := s1.1.cellAt hlt
      obtain ⟨_, _, d2'⟩ := s2.1.cellAt hlt
      have f0 := ho.out.frozenAt (by omega) (k * 3)
      have f1 := s1.1.frozenAt (by omega) (k * 3 + 1)
      have f2 := s2.1.frozenAt (by omega) (k * 3 + 2)
      have S3 := Lib.hid s3.1
      have G3 := Lib.hid (grown_tr (grown_tr (grown_tr hb.out s1.2) s2.2) s3.2)
      clear s1 s2 s3 d1 d2
      go_wp2
      go_roundw
      case rel =>
        refine ⟨k + 1, _, p + 1 + 1 + 1, by omega, by omega, by omega, by go_num, rfl, ?_, S3.out, ?_, G3.out⟩
        · have := hp2.out; show p + 1 + 1 + 1 = k0 + 3 * ((k + 1 : Nat) : Int); omega
        · have hl := ho.out.len
          intro j hj
          by_cases hjk : j = k
          · subst hjk
            have h2 := hp2.out
            rw [cith_set_self (by simp; omega), cith_set_self (by simp; omega), cith_set_self (by omega)]
            exact C_eq h2 (by show p + 1 = k0 + 3 * (j : Int) + 1; omega) (by show p + 1 + 1 = k0 + 3 * (j : Int) + 2; omega)
          · have h1 := hp.out j (by omega)
            simp only [cith_set_other hjk]; exact h1
      case measure => simp [intOf]; omega
    · go_wp2
      go_ret
      have hl := ho.out.len
      have ek : k = n := by omega
      have e : ys = marksC k0 n := cext (by rw [marksC_len]; exact hl) (fun j hj => by rw [cith_marks (by omega)]; exact hp.out j (by omega))
      exact ⟨by rw [← ek, ← hp2.out]; rfl, e ▸ ho.out, hb.out⟩

set_option maxHeartbeats 1000000 in
theorem laws_heldCellS (A : Option Addr) (n c : Nat) (k0 : Int) (w : World) (h : RdC w w.heap.size A n (marksC k0 n)) (hk0 : 0 ≤ k0) (hk1 : k0 ≤ 1000000000000) :
    Calls Try.prog 87 #[.slice A n c, .int .i64 k0] w fun e w' => e = .returned (.int .i64 (k0 + 3 * n)) ∧ w = w' := by
  have hle := h.le
  have H := Lib.hid h
  clear h
  go_enter Try.func87, Try.ntmps87
  go_wp2
  go_loop [1, 5] (fun q i => ∃ (k : Nat) (p : Int), k ≤ n ∧ 0 ≤ p ∧ p ≤ 1000000000000 + 3 * k ∧ i = .int .i64 k ∧ q = .int .i64 p ∧ Hid (p = k0 + 3 * k)) (fun _ i => n - (intOf i).toNat)
  case atStart => exact ⟨0, k0, Nat.zero_le _, hk0, by omega, rfl, rfl, by show k0 = k0 + 3 * ((0 : Nat) : Int); omega⟩
  case round =>
    obtain ⟨k, p, hk, hp0, hp1, rfl, rfl, hp2⟩ := hrel
    by_cases hlt : k < n
    · obtain ⟨g, off, rfl, hc0, hc1, hc2⟩ := H.out.at_ hlt
      rw [cith_marks hlt] at hc0 hc1 hc2
      have e0 : k0 + 3 * (k : Int) = p := hp2.out.symm
      simp only [e0] at hc0 hc1 hc2
      clear e0
      go_wp2
      go_round
      case rel => exact ⟨k + 1, p + 1 + 1 + 1, by omega, by omega, by omega, by go_num, by go_num, by have := hp2.out; show p + 1 + 1 + 1 = k0 + 3 * ((k + 1 : Nat) : Int); omega⟩
      case measure => simp [intOf]; omega
    · go_wp2
      go_ret
      have ek : k = n := by omega
      exact ⟨by rw [← ek, ← hp2.out]; rfl, rfl⟩


set_option maxHeartbeats 400000 in
theorem laws_toBlock (z : Int) (A : Option Addr) (n c : Nat) (xs : List C) (w : World) (h : RdC w w.heap.size A n xs) :
    Calls Try.prog 35 #[.agg #[.int .i64 z, .slice A n c]] w fun e w' => ∃ g, e = .returned (.agg #[.int .i64 z, .slice (some ⟨g, 0, none⟩) n n]) ∧ OwnC w' w.heap.size (some ⟨g, 0, none⟩) n n xs ∧ Below w.heap.size w w' := by
  have hs := lt2
  have hs3 := lt3
  have hle := h.le
  go_enter Try.func35, Try.ntmps35
  go_wp2_with fail
  refine (laws_toCellS _ _ _ _ _ (h.below' (by go_grown) (by go_size))).mono ?_
  rintro e w1 ⟨g, rfl, ho1, hb1⟩
  obtain ⟨p0, q0, _⟩ := bcell hb1 (b := w.heap.size) (by go_size)
  obtain ⟨p1, q1, _⟩ := bcell hb1 (b := w.heap.size + 1) (by go_size)
  obtain ⟨p2, q2, _⟩ := bcell hb1 (b := w.heap.size + 1 + 1) (by go_size)
  clear h
  have HB1 := Lib.hid hb1
  have HO1 := Lib.hid ho1
  clear hb1 ho1
  go_wp2
  refine bodyPost_ret (by simp [results, Try.results35, go_sem, *]; try rfl) rfl ?_
  have hy := HB1.out.size
  simp at hy
  refine ⟨g, rfl, ?_, ?_⟩
  · have ho := HO1.out
    simp only [World.size_alloc] at ho
    refine OwnC.base (B := w.heap.size + 1 + 1 + 1) ?_ (by omega)
    repeat' (first | exact ho | (with_reducible refine OwnC.set_ ?_ ?_ _) | go_size | (dsimp only; omega))
  · have hb := HB1.out
    (repeat' (first | (with_reducible exact Below.refl _ _) | (with_reducible refine Below.setCell ?_ ?_ _) | (with_reducible refine Below.alloc ?_ ?_ _) | (with_reducible refine Below.drew ?_) | (with_reducible refine Below.trans ?_ (Below.mono (by with_reducible assumption) ?_)) | go_size | (dsimp only; omega)))


set_option maxHeartbeats 400000 in
theorem laws_eqBlock_self (z : Int) (A A' : Option Addr) (n c n' c' : Nat) (xs : List C) (w : World) (h : RdC w w.heap.size A n xs) (h' : RdC w w.heap.size A' n' xs) :
    Calls Try.prog 37 #[.agg #[.int .i64 z, .slice A n c], .agg #[.int .i64 z, .slice A' n' c']] w fun e w' => e = .returned (.bool true) ∧ Below w.heap.size w w' := by
  have hs := lt2
  have H := Lib.hid h
  have H' := Lib.hid h'
  clear h h'
  have hq : (z != z) = false := by simp
  go_enter Try.func37, Try.ntmps37
  go_wp2_with (go_at_call 85; refine (laws_eqCellS _ _ _ _ _ _ _ _ (H.out.below' (by go_grown) (by go_size)) (H'.out.below' (by go_grown) (by go_size))).mono ?_; rintro e w1 ⟨rfl, hb1⟩)
  go_ret
  refine ⟨rfl, ?_⟩
  (repeat' (first | (with_reducible exact Below.refl _ _) | (with_reducible refine Below.setCell ?_ ?_ _) | (with_reducible refine Below.alloc ?_ ?_ _) | (with_reducible refine Below.drew ?_) | (with_reducible refine Below.trans ?_ (Below.mono (by with_reducible assumption) ?_)) | go_size | (dsimp only; omega)))

set_option maxHeartbeats 400000 in
theorem laws_szCellS (A : Option Addr) (n c : Nat) (w : World) (hn : n ≤ 9223372036854775807) :
    Calls Try.prog 78 #[.slice A n c, .int .i64 1048576] w fun e w' => e = .returned (.int .i64 (if n ≤ 1048576 then 1048576 - n else -1)) ∧ w = w' := by
  by_cases hb : n ≤ 1048576
  · have e : (if n ≤ 1048576 then (1048576 : Int) - n else -1) = 1048576 - n := if_pos hb
    have E := Lib.hid e
    clear e
    go_enter Try.func78, Try.ntmps78
    go_wp2
    go_ret
    exact ⟨rfl, rfl⟩
  · have e : (if n ≤ 1048576 then (1048576 : Int) - n else -1) = -1 := if_neg hb
    have E := Lib.hid e
    clear e
    go_enter Try.func78, Try.ntmps78
    go_wp2
    go_ret
    exact ⟨rfl, rfl⟩

def szB (n : Nat) : Int := if n ≤ 1048576 then 1048576 - n else -1
theorem szB_small {n : Nat} (h : n ≤ 1048576) : 0 ≤ szB n := by unfold szB; rw [if_pos h]; omega
theorem szB_big {n : Nat} (h : 1048576 < n) : szB n < 0 := by unfold szB; rw [if_neg (by omega)]; omega
set_option maxHeartbeats 400000 in
theorem laws_szBlock (z : Int) (A : Option Addr) (n c : Nat) (w : World) (hn : n ≤ 9223372036854775807) :
    Calls Try.prog 33 #[.agg #[.int .i64 z, .slice A n c], .int .i64 1048576] w fun e w' => e = .returned (.int .i64 (szB n)) ∧ Below w.heap.size w w' := by
  by_cases hb : n ≤ 1048576
  · have e : szB n = 1048576 - n := if_pos hb
    have E := Lib.hid e
    have e2 : (if n ≤ 1048576 then (1048576 : Int) - n else -1) = 1048576 - n := if_pos hb
    go_enter Try.func33, Try.ntmps33
    go_wp2_with (go_at_call 78; refine (laws_szCellS _ _ _ _ hn).mono ?_; rw [e2]; clear e e2; rintro e w' ⟨rfl, rfl⟩)
    go_ret
    exact ⟨by rw [E.out]; rfl, by go_grown⟩
  · have e : szB n = -1 := if_neg hb
    have E := Lib.hid e
    have e2 : (if n ≤ 1048576 then (1048576 : Int) - n else -1) = -1 := if_neg hb
    go_enter Try.func33, Try.ntmps33
    go_wp2_with (go_at_call 78; refine (laws_szCellS _ _ _ _ hn).mono ?_; rw [e2]; clear e e2; rintro e w' ⟨rfl, rfl⟩)
    go_ret
    exact ⟨by rw [E.out]; rfl, by go_grown⟩

set_option maxHeartbeats 400000 in
theorem laws_markBlock (z : Int) (A : Option Addr) (n c B : Nat) (xs : List C) (w : World) (h : OwnC w B A n c xs) (hB : B ≤ w.heap.size) :
    Calls Try.prog 38 #[.agg #[.int .i64 z, .slice A n c], .int .i64 1] w fun e w' => e = .returned (.int .i64 (1 + 3 * n)) ∧ OwnC w' B A n c (marksC 1 n) ∧ w.grownBy w' (Value.slice A n c).ownBlock := by
  have hs := lt2
  have H := Lib.hid h
  clear h
  go_enter Try.func38, Try.ntmps38
  go_wp2_with fail
  refine (laws_markCellS _ _ _ _ _ _ _ (H.out.next (by go_grown)) (by omega) (by omega)).mono ?_
  rintro e w1 ⟨rfl, ho1, hg1⟩
  have HO := Lib.hid ho1
  have HG := Lib.hid hg1
  clear ho1 hg1
  go_wp2
  go_ret
  refine ⟨rfl, HO.out, grown_tr (grown_of_below ?_ _) HG.out⟩
  (repeat' (first | (with_reducible exact Below.refl _ _) | (with_reducible refine Below.setCell ?_ ?_ _) | (with_reducible refine Below.alloc ?_ ?_ _) | (with_reducible refine Below.drew ?_) | (with_reducible refine Below.trans ?_ (Below.mono (by with_reducible assumption) ?_)) | go_size | (dsimp only; omega)))

set_option maxHeartbeats 400000 in
theorem laws_heldBlock (z : Int) (A : Option Addr) (n c : Nat) (w : World) (h : RdC w w.heap.size A n (marksC 1 n)) :
    Calls Try.prog 39 #[.agg #[.int .i64 z, .slice A n c], .int .i64 1] w fun e w' => e = .returned (.int .i64 (1 + 3 * n)) ∧ Below w.heap.size w w' := by
  have hs := lt2
  have hle := h.le
  have H := Lib.hid h
  clear h
  go_enter Try.func39, Try.ntmps39
  go_wp2_with fail
  refine (laws_heldCellS _ _ _ _ _ (H.out.below' (by go_grown) (by go_size)) (by omega) (by omega)).mono ?_
  rintro e w1 ⟨rfl, rfl⟩
  go_wp2
  go_ret
  exact ⟨rfl, by go_grown⟩

end Go.Proofs.Ytlcllpgbpjdofaa
