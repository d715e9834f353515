/- Slices of patches: how one reads as a list; walks of the laws' helpers on patches and layouts. Lists of at most 2097152 patches. -/
import Derived.Test.YtlcllpgbpjdofaaG
import Derived.StillTailTactics
set_option linter.unusedSimpArgs false
set_option linter.unusedVariables false
namespace Go.Proofs.Ytlcllpgbpjdofaa
open Go.RowKit

structure Pt where
  x : Int
  y : Int
  w : Int
  h : Int
  c : Int
def Pt.vals (p : Pt) : List Value := [.int .i64 p.x, .int .i64 p.y, .int .i64 p.w, .int .i64 p.h, .int .i64 p.c]
theorem Pt.len (p : Pt) : p.vals.length = 5 := rfl
theorem Pt_eq {p q : Pt} (h1 : p.x = q.x) (h2 : p.y = q.y) (h3 : p.w = q.w) (h4 : p.h = q.h) (h5 : p.c = q.c) : p = q := by cases p; cases q; simp_all
def pith (ps : List Pt) (k : Nat) : Pt := ps.getD k ⟨0, 0, 0, 0, 0⟩
theorem pith_get {ps : List Pt} {k : Nat} (h : k < ps.length) : pith ps k = ps[k] := by simp [pith, List.getD, List.getElem?_eq_getElem h]
theorem pith_some {ps : List Pt} {k : Nat} (h : k < ps.length) : ps[k]? = some (pith ps k) := by rw [pith_get h, List.getElem?_eq_getElem h]
theorem pith_set_self {ps : List Pt} {k : Nat} {x : Pt} (h : k < ps.length) : pith (ps.set k x) k = x := by simp [pith, List.getD, h]
theorem pith_set_other {ps : List Pt} {k j : Nat} {x : Pt} (h : j ≠ k) : pith (ps.set k x) j = pith ps j := by simp [pith, List.getD, List.getElem?_set_ne (Ne.symm h)]
theorem pext {xs ys : List Pt} (hl : xs.length = ys.length) (h : ∀ j, j < xs.length → pith xs j = pith ys j) : xs = ys := by
  apply List.ext_getElem hl
  intro j h1 h2
  have := h j h1
  rwa [pith_get h1, pith_get h2] at this

/-- the slice value '.slice A n c' reads as the list of patches ps, in blocks below B -/
abbrev RdP (w : World) (B : Nat) (A : Option Addr) (n : Nat) (ps : List Pt) : Prop := RdG Pt.vals 5 w B A n ps
/-- the slice value '.slice A n c' is a row of patches of the call's own, made at block B or later, and holds ps -/
abbrev OwnP (w : World) (B : Nat) (A : Option Addr) (n c : Nat) (ps : List Pt) : Prop := OwnG Pt.vals 5 34 w B A n c ps

theorem RdP.at5 {w : World} {B n : Nat} {A : Option Addr} {ps : List Pt} (hr : RdP w B A n ps) {k : Nat} (hk : k < n) : ∃ g off, A = some ⟨g, off, none⟩ ∧ w.cell? ⟨g, off + k * 5, none⟩ = some (.int .i64 (pith ps k).x) ∧ w.cell? ⟨g, off + k * 5 + 1, none⟩ = some (.int .i64 (pith ps k).y) ∧ w.cell? ⟨g, off + k * 5 + 2, none⟩ = some (.int .i64 (pith ps k).w) ∧ w.cell? ⟨g, off + k * 5 + 3, none⟩ = some (.int .i64 (pith ps k).h) ∧ w.cell? ⟨g, off + k * 5 + 4, none⟩ = some (.int .i64 (pith ps k).c) := by
  obtain ⟨g, off, x, e, hx, hc⟩ := hr.at_ hk
  have hl := hr.1
  rw [pith_some (by omega)] at hx
  cases hx
  exact ⟨g, off, e, hc 0 _ rfl, hc 1 _ rfl, hc 2 _ rfl, hc 3 _ rfl, hc 4 _ rfl⟩
theorem OwnP.at5 {w : World} {B n c g : Nat} {ps : List Pt} (ho : OwnP w B (some ⟨g, 0, none⟩) n c ps) {k : Nat} (hk : k < n) : w.cell? ⟨g, k * 5, none⟩ = some (.int .i64 (pith ps k).x) ∧ w.cell? ⟨g, k * 5 + 1, none⟩ = some (.int .i64 (pith ps k).y) ∧ w.cell? ⟨g, k * 5 + 2, none⟩ = some (.int .i64 (pith ps k).w) ∧ w.cell? ⟨g, k * 5 + 3, none⟩ = some (.int .i64 (pith ps k).h) ∧ w.cell? ⟨g, k * 5 + 4, none⟩ = some (.int .i64 (pith ps k).c) := by
  have hl := ho.len
  have hx := pith_some (ps := ps) (k := k) (by omega)
  exact ⟨ho.cellAt Pt.len hx (j := 0) rfl, ho.cellAt Pt.len hx (j := 1) rfl, ho.cellAt Pt.len hx (j := 2) rfl, ho.cellAt Pt.len hx (j := 3) rfl, ho.cellAt Pt.len hx (j := 4) rfl⟩
theorem OwnP.st0 {w : World} {B n c g : Nat} {ps : List Pt} (ho : OwnP w B (some ⟨g, 0, none⟩) n c ps) {k : Nat} (hk : k < n) (v : Int) :
    OwnP (w.setCell ⟨g, k * 5, none⟩ (.int .i64 v)) B (some ⟨g, 0, none⟩) n c (ps.set k ⟨v, (pith ps k).y, (pith ps k).w, (pith ps k).h, (pith ps k).c⟩) ∧ w.grownBy (w.setCell ⟨g, k * 5, none⟩ (.int .i64 v)) (some g) :=
  ho.store Pt.len (pith_some (by have hl := ho.len; omega)) (j := 0) (by omega) rfl
theorem OwnP.st1 {w : World} {B n c g : Nat} {ps : List Pt} (ho : OwnP w B (some ⟨g, 0, none⟩) n c ps) {k : Nat} (hk : k < n) (v : Int) :
    OwnP (w.setCell ⟨g, k * 5 + 1, none⟩ (.int .i64 v)) B (some ⟨g, 0, none⟩) n c (ps.set k ⟨(pith ps k).x, v, (pith ps k).w, (pith ps k).h, (pith ps k).c⟩) ∧ w.grownBy (w.setCell ⟨g, k * 5 + 1, none⟩ (.int .i64 v)) (some g) :=
  ho.store Pt.len (pith_some (by have hl := ho.len; omega)) (j := 1) (by omega) rfl
theorem OwnP.st2 {w : World} {B n c g : Nat} {ps : List Pt} (ho : OwnP w B (some ⟨g, 0, none⟩) n c ps) {k : Nat} (hk : k < n) (v : Int) :
    OwnP (w.setCell ⟨g, k * 5 + 2, none⟩ (.int .i64 v)) B (some ⟨g, 0, none⟩) n c (ps.set k ⟨(pith ps k).x, (pith ps k).y, v, (pith ps k).h, (pith ps k).c⟩) ∧ w.grownBy (w.setCell ⟨g, k * 5 + 2, none⟩ (.int .i64 v)) (some g) :=
  ho.store Pt.len (pith_some (by have hl := ho.len; omega)) (j := 2) (by omega) rfl
theorem OwnP.st3 {w : World} {B n c g : Nat} {ps : List Pt} (ho : OwnP w B (some ⟨g, 0, none⟩) n c ps) {k : Nat} (hk : k < n) (v : Int) :
    OwnP (w.setCell ⟨g, k * 5 + 3, none⟩ (.int .i64 v)) B (some ⟨g, 0, none⟩) n c (ps.set k ⟨(pith ps k).x, (pith ps k).y, (pith ps k).w, v, (pith ps k).c⟩) ∧ w.grownBy (w.setCell ⟨g, k * 5 + 3, none⟩ (.int .i64 v)) (some g) :=
  ho.store Pt.len (pith_some (by have hl := ho.len; omega)) (j := 3) (by omega) rfl
theorem OwnP.st4 {w : World} {B n c g : Nat} {ps : List Pt} (ho : OwnP w B (some ⟨g, 0, none⟩) n c ps) {k : Nat} (hk : k < n) (v : Int) :
    OwnP (w.setCell ⟨g, k * 5 + 4, none⟩ (.int .i64 v)) B (some ⟨g, 0, none⟩) n c (ps.set k ⟨(pith ps k).x, (pith ps k).y, (pith ps k).w, (pith ps k).h, v⟩) ∧ w.grownBy (w.setCell ⟨g, k * 5 + 4, none⟩ (.int .i64 v)) (some g) :=
  ho.store Pt.len (pith_some (by have hl := ho.len; omega)) (j := 4) (by omega) rfl

theorem patch_info : (Try.prog.info? 34).map (fun i => (i.zero, i.size, i.bytes)) = some (some (.agg #[.int .i64 0, .int .i64 0, .int .i64 0, .int .i64 0, .int .i64 0]), 5, 40) := by kernel_rfl

set_option maxHeartbeats 400000 in
theorem laws_toPatch (px py pw ph pc : Int) (w : World) :
    Calls Try.prog 116 #[.agg #[.int .i64 px, .int .i64 py, .int .i64 pw, .int .i64 ph, .int .i64 pc]] w fun e w' => e = .returned (.agg #[.int .i64 px, .int .i64 py, .int .i64 pw, .int .i64 ph, .int .i64 pc]) ∧ Below w.heap.size w w' := by
  go_enter Try.func116, Try.ntmps116
  go_wp2
  refine bodyPost_ret (v := .agg #[.int .i64 px, .int .i64 py, .int .i64 pw, .int .i64 ph, .int .i64 pc]) (by simp [results, Try.results116, go_sem]) rfl ⟨rfl, ?_⟩
  (repeat' (first | (with_reducible exact Below.refl _ _) | (with_reducible refine Below.setCell ?_ ?_ _) | (with_reducible refine Below.alloc ?_ ?_ _) | (with_reducible refine Below.drew ?_) | (with_reducible refine Below.trans ?_ (Below.mono (by with_reducible assumption) ?_)) | go_size | (dsimp only; omega)))

def pEq (px py pw ph pc qx qy qw qh qc : Int) : Bool := px == qx && py == qy && pw == qw && ph == qh && pc == qc
set_option maxHeartbeats 400000 in
theorem laws_eqPatch_self (px py pw ph pc : Int) (w : World) :
    Calls Try.prog 118 #[.agg #[.int .i64 px, .int .i64 py, .int .i64 pw, .int .i64 ph, .int .i64 pc], .agg #[.int .i64 px, .int .i64 py, .int .i64 pw, .int .i64 ph, .int .i64 pc]] w fun e w' => e = .returned (.bool true) ∧ Below w.heap.size w w' := by
  have q1 : (px != px) = false := by simp
  have q2 : (py != py) = false := by simp
  have q3 : (pw != pw) = false := by simp
  have q4 : (ph != ph) = false := by simp
  have q5 : (pc != pc) = false := by simp
  go_enter Try.func118, Try.ntmps118
  go_wp2
  go_ret
  exact ⟨rfl, by (repeat' (first | (with_reducible exact Below.refl _ _) | (with_reducible refine Below.setCell ?_ ?_ _) | (with_reducible refine Below.alloc ?_ ?_ _) | (with_reducible refine Below.drew ?_) | (with_reducible refine Below.trans ?_ (Below.mono (by with_reducible assumption) ?_)) | go_size | (dsimp only; omega)))⟩

set_option maxRecDepth 100000 in
set_option maxHeartbeats 1000000 in
theorem laws_toPatchS (A : Option Addr) (n c : Nat) (xs : List Pt) (w : World) (h : RdP w w.heap.size A n xs) :
    Calls Try.prog 96 #[.slice A n c] w fun e w' => ∃ g, e = .returned (.slice (some ⟨g, 0, none⟩) n n) ∧ OwnP w' w.heap.size (some ⟨g, 0, none⟩) n n xs ∧ Below w.heap.size w w' := by
  have hle := h.le
  obtain ⟨i0, hi, hz0, hz1, hz2⟩ := info_parts patch_info
  have HI := Lib.hid hi; have HZ0 := Lib.hid hz0; have HZ1 := Lib.hid hz1; have HZ2 := Lib.hid hz2
  clear hi hz0 hz1 hz2
  have H := Lib.hid h
  clear h
  go_enter Try.func96, Try.ntmps96
  go_wp2_with (at_make; refine wpList_make_full _ rfl _ _ _ rfl w.heap.size 34 i0 (.agg #[.int .i64 0, .int .i64 0, .int .i64 0, .int .i64 0, .int .i64 0]) 5 Try.underlying27 HI.out HZ0.out HZ1.out .i64 .i64 n n n rfl rfl rfl rfl (by rw [HZ2.out]; omega) (by unfold maxLen; omega) (Nat.le_refl _) ?_; intro w1 hown1 hg1; have HO := Lib.hid (OwnG.made (vals := Pt.vals) Pt.len (⟨0, 0, 0, 0, 0⟩ : Pt) rfl (by omega) hle hown1); have HB := Lib.hid ((Below.refl w.heap.size w).grown hg1 (Nat.le_refl _) (by intro k hk; cases hk)); clear hown1 hg1)
  go_loopw [4] (fun i wr => ∃ (k : Nat) (ys : List Pt), k ≤ n ∧ i = .int .i64 k ∧ Hid (OwnP wr w.heap.size (some ⟨w.heap.size, 0, none⟩) n n ys) ∧ Hid (∀ j, j < k → pith ys j = pith xs j) ∧ Hid (Below w.heap.size w wr)) (fun i _ => n - (intOf i).toNat)
  case atStart => exact ⟨0, _, Nat.zero_le _, rfl, HO, fun j hj => absurd hj (by omega), HB⟩
  case round =>
    obtain ⟨k, ys, hk, rfl, ho, hp, hb⟩ := hrel
    by_cases hlt : k < n
    · obtain ⟨g, off, rfl, hc0, hc1, hc2, hc3, hc4⟩ := RdP.at5 (H.out.below hb.out) hlt
      go_wp2_with fail
      refine (laws_toPatch _ _ _ _ _ _).mono ?_
      rintro e w2 ⟨rfl, hb2⟩
      have HB2 := Lib.hid (hb.out.trans (hb2.mono hb.out.size))
      have ho2 := ho.out.next hb2
      clear hb2
      have s1 := OwnP.st0 ho2 hlt (pith xs k).x
      have s2 := OwnP.st1 s1.1 hlt (pith xs k).y
      have s3 := OwnP.st2 s2.1 hlt (pith xs k).w
      have s4 := OwnP.st3 s3.1 hlt (pith xs k).h
      have s5 := OwnP.st4 s4.1 hlt (pith xs k).c
      obtain ⟨d0, d1, d2, d3, d4⟩ := OwnP.at5 ho2 hlt
      obtain ⟨_, d1', _⟩ := OwnP.at5 s1.1 hlt
      obtain ⟨_, _, d2', _⟩ := OwnP.at5 s2.1 hlt
      obtain ⟨_, _, _, d3', _⟩ := OwnP.at5 s3.1 hlt
      obtain ⟨_, _, _, _, d4'⟩ := OwnP.at5 s4.1 hlt
      have f0 := ho2.frozenAt (by omega) (k * 5)
      have f1 := s1.1.frozenAt (by omega) (k * 5 + 1)
      have f2 := s2.1.frozenAt (by omega) (k * 5 + 2)
      have f3 := s3.1.frozenAt (by omega) (k * 5 + 3)
      have f4 := s4.1.frozenAt (by omega) (k * 5 + 4)
      have S5 := Lib.hid s5.1
      clear s1 s2 s3 s4 s5 d1 d2 d3 d4
      go_wp2
      go_roundw
      case rel =>
        refine ⟨k + 1, _, by omega, by go_num, S5.out, ?_, ((((HB2.out.setCell (Nat.le_refl _) _).setCell (Nat.le_refl _) _).setCell (Nat.le_refl _) _).setCell (Nat.le_refl _) _).setCell (Nat.le_refl _) _⟩
        have hl := ho.out.len
        intro j hj
        by_cases hjk : j = k
        · subst hjk; rw [pith_get (by simp; omega)]; simp [pith_set_self (show j < ys.length by omega)]
        · have h1 := hp.out j (by omega)
          simp only [pith_set_other hjk]; exact h1
      case measure => simp [intOf]; omega
    · go_wp2
      go_ret
      have hl := ho.out.len
      have hx := H.out.1
      have e : ys = xs := pext (by omega) (fun j hj => hp.out j (by omega))
      exact ⟨_, rfl, e ▸ ho.out, hb.out⟩

set_option maxRecDepth 100000 in
set_option maxHeartbeats 1000000 in
theorem laws_eqPatchS (A A' : Option Addr) (n c n' c' : Nat) (xs : List Pt) (w : World) (h : RdP w w.heap.size A n xs) (h' : RdP w w.heap.size A' n' xs) :
    Calls Try.prog 99 #[.slice A n c, .slice A' n' c'] w fun e w' => e = .returned (.bool true) ∧ Below w.heap.size w w' := by
  have hle := h.le
  have hle' := h'.le
  obtain rfl : n = n' := by rw [← h.1, ← h'.1]
  have H := Lib.hid h
  have H' := Lib.hid h'
  clear h h'
  have hq : ((n : Int) != (n : Int)) = false := by simp
  go_enter Try.func99, Try.ntmps99
  go_wp2
  clear hq
  go_loopw [5] (fun i wr => ∃ (k : Nat), k ≤ n ∧ i = .int .i64 k ∧ Hid (Below w.heap.size w wr)) (fun i _ => n - (intOf i).toNat)
  case atStart => exact ⟨0, Nat.zero_le _, rfl, Below.refl _ _⟩
  case round =>
    obtain ⟨k, hk, rfl, hb⟩ := hrel
    by_cases hlt : k < n
    · obtain ⟨g, off, rfl, hc0, hc1, hc2, hc3, hc4⟩ := RdP.at5 (H.out.below hb.out) hlt
      obtain ⟨g', off', rfl, hc0', hc1', hc2', hc3', hc4'⟩ := RdP.at5 (H'.out.below hb.out) hlt
      have h0 : (0 : Int) ≤ (k : Int) := by omega
      have h1 : (k : Int) < (n : Int) := by omega
      go_wp2
      go_still_tail 8, (by kernel_rfl)
      go_wp2_with (go_at_call 118; refine (laws_eqPatch_self _ _ _ _ _ _).mono ?_; rintro e w2 ⟨rfl, hb2⟩; have HB2 := Lib.hid (hb.out.drew.trans (hb2.mono hb.out.size)); clear hb2)
      go_roundw
      case rel => exact ⟨k + 1, by omega, by go_num, HB2.out⟩
      case measure => simp [intOf]; omega
    · go_wp2
      go_ret
      exact ⟨rfl, hb.out⟩

/-- patches with the marks k0, k0 + 1, .. -/
def marksP (k0 : Int) (n : Nat) : List Pt := (List.range n).map (fun (i : Nat) => ⟨k0 + 5 * (i : Int), k0 + 5 * (i : Int) + 1, k0 + 5 * (i : Int) + 2, k0 + 5 * (i : Int) + 3, k0 + 5 * (i : Int) + 4⟩)
theorem marksP_len (k0 : Int) (n : Nat) : (marksP k0 n).length = n := by simp [marksP]
theorem pith_marks {k0 : Int} {n j : Nat} (h : j < n) : pith (marksP k0 n) j = ⟨k0 + 5 * (j : Int), k0 + 5 * (j : Int) + 1, k0 + 5 * (j : Int) + 2, k0 + 5 * (j : Int) + 3, k0 + 5 * (j : Int) + 4⟩ := by
  rw [pith_get (by rw [marksP_len]; exact h)]; simp [marksP]

set_option maxRecDepth 100000 in
set_option maxHeartbeats 2000000 in
theorem laws_markPatchS (A : Option Addr) (n c B : Nat) (xs : List Pt) (k0 : Int) (w : World) (h : OwnP w B A n c xs) (hk0 : 0 ≤ k0) (hk1 : k0 ≤ 1000000000000) :
    Calls Try.prog 100 #[.slice A n c, .int .i64 k0] w fun e w' => e = .returned (.int .i64 (k0 + 5 * n)) ∧ OwnP w' B A n c (marksP k0 n) ∧ w.grownBy w' (Value.slice A n c).ownBlock := by
  have hle := h.1
  have H := Lib.hid h
  clear h
  go_enter Try.func100, Try.ntmps100
  go_wp2
  go_loopw [1, 5] (fun q i wr => ∃ (k : Nat) (ys : List Pt) (p : Int), k ≤ n ∧ 0 ≤ p ∧ p ≤ 1000000000000 + 5 * k ∧ i = .int .i64 k ∧ q = .int .i64 p ∧ Hid (p = k0 + 5 * k) ∧ Hid (OwnP wr B A n c ys) ∧ Hid (∀ j : Nat, j < k → pith ys j = ⟨k0 + 5 * (j : Int), k0 + 5 * (j : Int) + 1, k0 + 5 * (j : Int) + 2, k0 + 5 * (j : Int) + 3, k0 + 5 * (j : Int) + 4⟩) ∧ Hid (w.grownBy wr (Value.slice A n c).ownBlock)) (fun _ i _ => n - (intOf i).toNat)
  case atStart => exact ⟨0, xs, k0, Nat.zero_le _, hk0, by omega, rfl, rfl, by show k0 = k0 + 5 * ((0 : Nat) : Int); omega, H, fun j hj => absurd hj (by omega), World.grownBy.refl _ _⟩
  case round =>
    obtain ⟨k, ys, p, hk, hp0, hp1, rfl, rfl, hp2, ho, hp, hb⟩ := hrel
    by_cases hlt : k < n
    · obtain ⟨g, rfl, _, _⟩ := ho.out.form (by omega)
      have s1 := OwnP.st0 ho.out hlt p
      have s2 := OwnP.st1 s1.1 hlt (p + 1)
      have s3 := OwnP.st2 s2.1 hlt (p + 1 + 1)
      have s4 := OwnP.st3 s3.1 hlt (p + 1 + 1 + 1)
      have s5 := OwnP.st4 s4.1 hlt (p + 1 + 1 + 1 + 1)
      obtain ⟨d0, d1, d2, d3, d4⟩ := OwnP.at5 ho.out hlt
      obtain ⟨_, d1', _⟩ := OwnP.at5 s1.1 hlt
      obtain ⟨_, _, d2', _⟩ := OwnP.at5 s2.1 hlt
      obtain ⟨_, _, _, d3', _⟩ := OwnP.at5 s3.1 hlt
      obtain ⟨_, _, _, _, d4'⟩ := OwnP.at5 s4.1 hlt
      have f0 := ho.out.frozenAt (by omega) (k * 5)
      have f1 := s1.1.frozenAt (by omega) (k * 5 + 1)
      have f2 := s2.1.frozenAt (by omega) (k * 5 + 2)
      have f3 := s3.1.frozenAt (by omega) (k * 5 + 3)
      have f4 := s4.1.frozenAt (by omega) (k * 5 + 4)
      have S5 := Lib.hid s5.1
      have G5 := Lib.hid (grown_tr (grown_tr (grown_tr (grown_tr (grown_tr hb.out s1.2) s2.2) s3.2) s4.2) s5.2)
      clear s1 s2 s3 s4 s5 d1 d2 d3 d4
      go_wp2
      go_roundw
      case rel =>
        refine ⟨k + 1, _, p + 1 + 1 + 1 + 1 + 1, by omega, by omega, by omega, by go_num, rfl, ?_, S5.out, ?_, G5.out⟩
        · have := hp2.out; show p + 1 + 1 + 1 + 1 + 1 = k0 + 5 * ((k + 1 : Nat) : Int); omega
        · have hl := ho.out.len
          intro j hj
          by_cases hjk : j = k
          · subst hjk
            have h2 := hp2.out
            rw [pith_set_self (by simp; omega), pith_set_self (by simp; omega), pith_set_self (by simp; omega), pith_set_self (by simp; omega), pith_set_self (by omega)]
            exact Pt_eq h2 (by show p + 1 = k0 + 5 * (j : Int) + 1; omega) (by show p + 1 + 1 = k0 + 5 * (j : Int) + 2; omega) (by show p + 1 + 1 + 1 = k0 + 5 * (j : Int) + 3; omega) (by show p + 1 + 1 + 1 + 1 = k0 + 5 * (j : Int) + 4; omega)
          · have h1 := hp.out j (by omega)
            simp only [pith_set_other hjk]; exact h1
      case measure => simp [intOf]; omega
    · go_wp2
      go_ret
      have hl := ho.out.len
      have ek : k = n := by omega
      have e : ys = marksP k0 n := pext (by rw [marksP_len]; exact hl) (fun j hj => by rw [pith_marks (by omega)]; exact hp.out j (by omega))
      exact ⟨by rw [← ek, ← hp2.out]; rfl, e ▸ ho.out, hb.out⟩

set_option maxRecDepth 100000 in
set_option maxHeartbeats 1000000 in
theorem laws_heldPatchS (A : Option Addr) (n c : Nat) (k0 : Int) (w : World) (h : RdP w w.heap.size A n (marksP k0 n)) (hk0 : 0 ≤ k0) (hk1 : k0 ≤ 1000000000000) :
    Calls Try.prog 103 #[.slice A n c, .int .i64 k0] w fun e w' => e = .returned (.int .i64 (k0 + 5 * n)) ∧ w = w' := by
  have hle := h.le
  have H := Lib.hid h
  clear h
  go_enter Try.func103, Try.ntmps103
  go_wp2
  go_loop [1, 5] (fun q i => ∃ (k : Nat) (p : Int), k ≤ n ∧ 0 ≤ p ∧ p ≤ 1000000000000 + 5 * k ∧ i = .int .i64 k ∧ q = .int .i64 p ∧ Hid (p = k0 + 5 * k)) (fun _ i => n - (intOf i).toNat)
  case atStart => exact ⟨0, k0, Nat.zero_le _, hk0, by omega, rfl, rfl, by show k0 = k0 + 5 * ((0 : Nat) : Int); omega⟩
  case round =>
    obtain ⟨k, p, hk, hp0, hp1, rfl, rfl, hp2⟩ := hrel
    by_cases hlt : k < n
    · obtain ⟨g, off, rfl, hc0, hc1, hc2, hc3, hc4⟩ := RdP.at5 H.out hlt
      rw [pith_marks hlt] at hc0 hc1 hc2 hc3 hc4
      have e0 : k0 + 5 * (k : Int) = p := hp2.out.symm
      simp only [e0] at hc0 hc1 hc2 hc3 hc4
      clear e0
      go_wp2
      go_round
      case rel => exact ⟨k + 1, p + 1 + 1 + 1 + 1 + 1, by omega, by omega, by omega, by go_num, by go_num, by have := hp2.out; show p + 1 + 1 + 1 + 1 + 1 = k0 + 5 * ((k + 1 : Nat) : Int); omega⟩
      case measure => simp [intOf]; omega
    · go_wp2
      go_ret
      have ek : k = n := by omega
      exact ⟨by rw [← ek, ← hp2.out]; rfl, rfl⟩

set_option maxHeartbeats 400000 in
theorem laws_toLayout (z y : Int) (A : Option Addr) (n c : Nat) (xs : List Pt) (w : World) (h : RdP w w.heap.size A n xs) :
    Calls Try.prog 49 #[.agg #[.int .i64 z, .int .i64 y, .slice A n c]] w fun e w' => ∃ g, e = .returned (.agg #[.int .i64 z, .int .i64 y, .slice (some ⟨g, 0, none⟩) n n]) ∧ OwnP w' w.heap.size (some ⟨g, 0, none⟩) n n xs ∧ Below w.heap.size w w' := by
  have hs := lt2
  have hs3 := lt3
  have hle := h.le
  go_enter Try.func49, Try.ntmps49
  go_wp2_with fail
  refine (laws_toPatchS _ _ _ _ _ (h.below' (by go_grown) (by go_size))).mono ?_
  rintro e w1 ⟨g, rfl, ho1, hb1⟩
  obtain ⟨p0, q0, _⟩ := bcell hb1 (b := w.heap.size) (by go_size)
  obtain ⟨p1, q1, _⟩ := bcell hb1 (b := w.heap.size + 1) (by go_size)
  obtain ⟨p2, q2, _⟩ := bcell hb1 (b := w.heap.size + 1 + 1) (by go_size)
  clear h
  have HB1 := Lib.hid hb1
  have HO1 := Lib.hid ho1
  clear hb1 ho1
  go_wp2
  refine bodyPost_ret (by simp [results, Try.results49, go_sem, *]; try rfl) rfl ?_
  have hy := HB1.out.size
  simp at hy
  refine ⟨g, rfl, ?_, ?_⟩
  · have ho := HO1.out
    simp only [World.size_alloc] at ho
    refine OwnG.base (B := w.heap.size + 1 + 1 + 1) ?_ (by omega)
    repeat' (first | exact ho | (with_reducible refine OwnG.set_ ?_ ?_ _) | go_size | (dsimp only; omega))
  · have hb := HB1.out
    (repeat' (first | (with_reducible exact Below.refl _ _) | (with_reducible refine Below.setCell ?_ ?_ _) | (with_reducible refine Below.alloc ?_ ?_ _) | (with_reducible refine Below.drew ?_) | (with_reducible refine Below.trans ?_ (Below.mono (by with_reducible assumption) ?_)) | go_size | (dsimp only; omega)))

set_option maxHeartbeats 400000 in
theorem laws_eqLayout_self (z y : Int) (A A' : Option Addr) (n c n' c' : Nat) (xs : List Pt) (w : World) (h : RdP w w.heap.size A n xs) (h' : RdP w w.heap.size A' n' xs) :
    Calls Try.prog 52 #[.agg #[.int .i64 z, .int .i64 y, .slice A n c], .agg #[.int .i64 z, .int .i64 y, .slice A' n' c']] w fun e w' => e = .returned (.bool true) ∧ Below w.heap.size w w' := by
  have hs := lt2
  have H := Lib.hid h
  have H' := Lib.hid h'
  clear h h'
  have hq : (z != z) = false := by simp
  have hq2 : (y != y) = false := by simp
  go_enter Try.func52, Try.ntmps52
  go_wp2_with (go_at_call 99; refine (laws_eqPatchS _ _ _ _ _ _ _ _ (H.out.below' (by go_grown) (by go_size)) (H'.out.below' (by go_grown) (by go_size))).mono ?_; rintro e w1 ⟨rfl, hb1⟩)
  go_ret
  refine ⟨rfl, ?_⟩
  (repeat' (first | (with_reducible exact Below.refl _ _) | (with_reducible refine Below.setCell ?_ ?_ _) | (with_reducible refine Below.alloc ?_ ?_ _) | (with_reducible refine Below.drew ?_) | (with_reducible refine Below.trans ?_ (Below.mono (by with_reducible assumption) ?_)) | go_size | (dsimp only; omega)))

def szB (n : Nat) : Int := if n ≤ 1048576 then 1048576 - n else -1
theorem szB_small {n : Nat} (h : n ≤ 1048576) : 0 ≤ szB n := by unfold szB; rw [if_pos h]; omega
theorem szB_big {n : Nat} (h : 1048576 < n) : szB n < 0 := by unfold szB; rw [if_neg (by omega)]; omega
set_option maxHeartbeats 400000 in
theorem laws_szPatchS (A : Option Addr) (n c : Nat) (w : World) (hn : n ≤ 9223372036854775807) :
    Calls Try.prog 93 #[.slice A n c, .int .i64 1048576] w fun e w' => e = .returned (.int .i64 (szB n)) ∧ w = w' := by
  by_cases hb : n ≤ 1048576
  · have E := Lib.hid (show szB n = 1048576 - n from if_pos hb)
    go_enter Try.func93, Try.ntmps93
    go_wp2
    go_ret
    exact ⟨by rw [E.out]; rfl, rfl⟩
  · have E := Lib.hid (show szB n = -1 from if_neg hb)
    go_enter Try.func93, Try.ntmps93
    go_wp2
    go_ret
    exact ⟨by rw [E.out]; rfl, rfl⟩
set_option maxHeartbeats 400000 in
theorem laws_szLayout (z y : Int) (A : Option Addr) (n c : Nat) (w : World) (hn : n ≤ 9223372036854775807) :
    Calls Try.prog 47 #[.agg #[.int .i64 z, .int .i64 y, .slice A n c], .int .i64 1048576] w fun e w' => e = .returned (.int .i64 (szB n)) ∧ Below w.heap.size w w' := by
  by_cases hb : n ≤ 1048576
  · have hp := szB_small hb
    go_enter Try.func47, Try.ntmps47
    go_wp2_with (go_at_call 93; refine (laws_szPatchS _ _ _ _ hn).mono ?_; rintro e w' ⟨rfl, rfl⟩)
    go_ret
    exact ⟨rfl, by go_grown⟩
  · have hp : szB n < 0 := szB_big (by omega)
    have E := Lib.hid (show szB n = -1 from if_neg hb)
    go_enter Try.func47, Try.ntmps47
    go_wp2_with (go_at_call 93; refine (laws_szPatchS _ _ _ _ hn).mono ?_; rintro e w' ⟨rfl, rfl⟩)
    go_ret
    exact ⟨by rw [E.out]; rfl, by go_grown⟩

set_option maxHeartbeats 400000 in
theorem laws_markLayout (z y : Int) (A : Option Addr) (n c B : Nat) (xs : List Pt) (w : World) (h : OwnP w B A n c xs) (hB : B ≤ w.heap.size) :
    Calls Try.prog 53 #[.agg #[.int .i64 z, .int .i64 y, .slice A n c], .int .i64 1] w fun e w' => e = .returned (.int .i64 (1 + 5 * n)) ∧ OwnP w' B A n c (marksP 1 n) ∧ w.grownBy w' (Value.slice A n c).ownBlock := by
  have hs := lt2
  have H := Lib.hid h
  clear h
  go_enter Try.func53, Try.ntmps53
  go_wp2_with fail
  refine (laws_markPatchS _ _ _ _ _ _ _ (H.out.next (by go_grown)) (by omega) (by omega)).mono ?_
  rintro e w1 ⟨rfl, ho1, hg1⟩
  have HO := Lib.hid ho1
  have HG := Lib.hid hg1
  clear ho1 hg1
  go_wp2
  go_ret
  refine ⟨rfl, HO.out, grown_tr (grown_of_below ?_ _) HG.out⟩
  (repeat' (first | (with_reducible exact Below.refl _ _) | (with_reducible refine Below.setCell ?_ ?_ _) | (with_reducible refine Below.alloc ?_ ?_ _) | (with_reducible refine Below.drew ?_) | (with_reducible refine Below.trans ?_ (Below.mono (by with_reducible assumption) ?_)) | go_size | (dsimp only; omega)))

set_option maxHeartbeats 400000 in
theorem laws_heldLayout (z y : Int) (A : Option Addr) (n c : Nat) (w : World) (h : RdP w w.heap.size A n (marksP 1 n)) :
    Calls Try.prog 61 #[.agg #[.int .i64 z, .int .i64 y, .slice A n c], .int .i64 1] w fun e w' => e = .returned (.int .i64 (1 + 5 * n)) ∧ Below w.heap.size w w' := by
  have hs := lt2
  have hle := h.le
  have H := Lib.hid h
  clear h
  go_enter Try.func61, Try.ntmps61
  go_wp2_with fail
  refine (laws_heldPatchS _ _ _ _ _ (H.out.below' (by go_grown) (by go_size)) (by omega) (by omega)).mono ?_
  rintro e w1 ⟨rfl, rfl⟩
  go_wp2
  go_ret
  exact ⟨rfl, by go_grown⟩

end Go.Proofs.Ytlcllpgbpjdofaa
