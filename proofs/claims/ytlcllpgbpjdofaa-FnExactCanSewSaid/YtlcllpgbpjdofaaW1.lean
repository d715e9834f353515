/- Walks of the small functions on cells: what each returns, said of plain numbers. No conditions but the types' own. -/
import Derived.Test.YtlcllpgbpjdofaaRows
import Derived.WalkKit
import Derived.WalkSpells
import Derived.WalkLawsBesides
import Derived.Deep.QuietTactic
import Derived.BigQuiet
import Derived.Handy
import Derived.Deep.Light
set_option linter.unusedSimpArgs false
set_option linter.unusedVariables false
namespace Go.Proofs.Ytlcllpgbpjdofaa
open Go.RowKit

theorem bcell {W w1 : World} (hb : Below W.heap.size W w1) {b : Nat} (h : b < W.heap.size) : (∀ o, w1.cell? ⟨b, o, none⟩ = W.cell? ⟨b, o, none⟩) ∧ (∀ o, w1.frozen? ⟨b, o, none⟩ = W.frozen? ⟨b, o, none⟩) ∧ b < w1.heap.size :=
  ⟨fun o => hb.cell (p := ⟨b, o, none⟩) h, fun o => hb.frozen (p := ⟨b, o, none⟩) h, Nat.lt_of_lt_of_le h hb.size⟩
theorem bsize {W w1 : World} (hb : Below W.heap.size W w1) : W.heap.size ≤ w1.heap.size := hb.size
theorem lt2 (n : Nat) : n < n + 1 + 1 := by omega
theorem lt3 (n : Nat) : n < n + 1 + 1 + 1 := by omega

def inB (x a b : Int) : Bool := decide (a ≤ x ∧ x ≤ b)
theorem inB_t {x a b : Int} (h1 : a ≤ x) (h2 : x ≤ b) : inB x a b = true := by simp [inB, h1, h2]
theorem inB_f1 {x a b : Int} (h1 : x < a) : inB x a b = false := by simp [inB]; omega
theorem inB_f2 {x a b : Int} (h1 : b < x) : inB x a b = false := by simp [inB]; omega

theorem ret_bool {a b : Bool} (h : a = b) : Ending.returned (.bool a) = .returned (.bool b) := by rw [h]
theorem ret_int {k : IntKind} {a b : Int} (h : a = b) : Ending.returned (.int k a) = .returned (.int k b) := by rw [h]

set_option maxHeartbeats 400000 in
theorem spec_l01In (x a b : Int) (w : World) :
    Calls Try.prog 110 #[.int .i64 x, .int .i64 a, .int .i64 b] w fun e w' => e = .returned (.bool (inB x a b)) ∧ w = w' := by
  go_enter Try.func110, Try.ntmps110
  go_wp2
  all_goals (go_ret; refine ⟨ret_bool ?_, rfl⟩; simp [inB]; try omega)

set_option maxHeartbeats 400000 in
theorem impl_within (x a b : Int) (w : World) :
    Calls Try.prog 68 #[.int .i64 x, .int .i64 a, .int .i64 b] w fun e w' => e = .returned (.bool (inB x a b)) ∧ w = w' := by
  go_enter Try.func68, Try.ntmps68
  go_wp2
  all_goals (go_ret; refine ⟨ret_bool ?_, rfl⟩; simp [inB]; try omega)

set_option maxHeartbeats 400000 in
theorem impl_isColor (x : Int) (w : World) :
    Calls Try.prog 70 #[.int .i64 x] w fun e w' => e = .returned (.bool (inB x 0 5)) ∧ w = w' := by
  go_enter Try.func70, Try.ntmps70
  go_wp2_with (go_at_call 68; refine (impl_within _ _ _ _).mono ?_; rintro e w' ⟨rfl, rfl⟩)
  go_ret
  exact ⟨rfl, rfl⟩

/-- a cell is one -/
def cOk (s a b : Int) : Bool := inB s 0 2 && inB a 0 5 && inB b 0 5 && ((s == 0) == (a == b))

theorem cOk_t {s a b : Int} (h : cOk s a b = true) : 0 ≤ s ∧ s ≤ 2 ∧ 0 ≤ a ∧ a ≤ 5 ∧ 0 ≤ b ∧ b ≤ 5 ∧ (s = 0 ↔ a = b) := by
  simp only [cOk, inB, Bool.and_eq_true, decide_eq_true_eq, beq_iff_eq] at h
  obtain ⟨⟨⟨⟨h1, h2⟩, h3, h4⟩, h5, h6⟩, h7⟩ := h
  refine ⟨h1, h2, h3, h4, h5, h6, ?_⟩
  rw [Bool.eq_iff_iff] at h7
  simpa using h7

/-- a cell -/
structure C where
  s : Int
  a : Int
  b : Int

def wholeC (a : Int) : C := if inB a 0 5 then ⟨0, a, a⟩ else ⟨0, 0, 0⟩
def splitC (s a b : Int) : C := if a = b then wholeC a else if cOk s a b then ⟨s, a, b⟩ else ⟨0, 0, 0⟩
def colorC (s a b k : Int) : Int := if cOk s a b && inB k 0 3 then (if k = 0 ∨ (k = 1 ∧ s = 1) ∨ (k = 3 ∧ s = 2) then a else b) else -1
def areaC (s a b k : Int) : Int := if cOk s a b then (if a = k then 2 else 0) + (if b = k then 2 else 0) else 0
def mirrorC (s a b : Int) : C := if cOk s a b then (if s = 0 then ⟨s, a, b⟩ else ⟨3 - s, b, a⟩) else ⟨0, 0, 0⟩
def turnC (s a b : Int) : C := if cOk s a b then (if s = 1 then ⟨2, b, a⟩ else if s = 2 then ⟨1, a, b⟩ else ⟨s, a, b⟩) else ⟨0, 0, 0⟩
def cEq (s a b s' a' b' : Int) : Bool := s == s' && a == a' && b == b'

theorem ret_cell {x y z : Int} {c : C} (h : (⟨x, y, z⟩ : C) = c) : Ending.returned (.agg #[.int .i64 x, .int .i64 y, .int .i64 z]) = .returned (.agg #[.int .i64 c.s, .int .i64 c.a, .int .i64 c.b]) := by subst h; rfl

set_option maxHeartbeats 400000 in
theorem spec_CellOk (s a b : Int) (w : World) :
    Calls Try.prog 111 #[.agg #[.int .i64 s, .int .i64 a, .int .i64 b]] w fun e w' => e = .returned (.bool (cOk s a b)) ∧ Below w.heap.size w w' := by
  go_enter Try.func111, Try.ntmps111
  go_wp2_with (first
    | (go_at_call 110; refine (spec_l01In _ _ _ _).mono ?_; rintro e w' ⟨rfl, rfl⟩))
  all_goals (go_ret; refine ⟨ret_bool ?_, by go_grown⟩; simp_all [cOk])


set_option maxHeartbeats 400000 in
theorem impl_CellOk (s a b : Int) (w : World) :
    Calls Try.prog 75 #[.agg #[.int .i64 s, .int .i64 a, .int .i64 b]] w fun e w' => e = .returned (.bool (cOk s a b)) ∧ Below w.heap.size w w' := by
  go_enter Try.func75, Try.ntmps75
  go_wp2_with (first
    | (go_at_call 70; refine (impl_isColor _ _).mono ?_; rintro e w' ⟨rfl, rfl⟩)
    | (go_at_call 68; refine (impl_within _ _ _ _).mono ?_; rintro e w' ⟨rfl, rfl⟩))
  all_goals (go_ret; refine ⟨ret_bool ?_, by go_grown⟩; simp_all [cOk])


set_option maxHeartbeats 400000 in
theorem laws_toCell (s a b : Int) (w : World) :
    Calls Try.prog 112 #[.agg #[.int .i64 s, .int .i64 a, .int .i64 b]] w fun e w' => e = .returned (.agg #[.int .i64 s, .int .i64 a, .int .i64 b]) ∧ Below w.heap.size w w' := by
  go_enter Try.func112, Try.ntmps112
  go_wp2
  go_returns
  exact ⟨rfl, by go_grown⟩


set_option maxHeartbeats 400000 in
theorem laws_eqCell (s a b s' a' b' : Int) (w : World) :
    Calls Try.prog 114 #[.agg #[.int .i64 s, .int .i64 a, .int .i64 b], .agg #[.int .i64 s', .int .i64 a', .int .i64 b']] w fun e w' => e = .returned (.bool (cEq s a b s' a' b')) ∧ Below w.heap.size w w' := by
  go_enter Try.func114, Try.ntmps114
  go_wp2
  all_goals (go_ret; refine ⟨ret_bool ?_, by go_grown⟩; simp_all [cEq])


theorem laws_eqCell_self (s a b : Int) (w : World) :
    Calls Try.prog 114 #[.agg #[.int .i64 s, .int .i64 a, .int .i64 b], .agg #[.int .i64 s, .int .i64 a, .int .i64 b]] w fun e w' => e = .returned (.bool true) ∧ Below w.heap.size w w' :=
  (laws_eqCell s a b s a b w).mono fun _ _ ⟨h1, h2⟩ => ⟨by rw [h1]; simp [cEq], h2⟩

set_option maxHeartbeats 400000 in
theorem spec_WholeCell (a : Int) (w : World) :
    Calls Try.prog 119 #[.int .i64 a] w fun e w' => e = .returned (.agg #[.int .i64 (wholeC a).s, .int .i64 (wholeC a).a, .int .i64 (wholeC a).b]) ∧ Below w.heap.size w w' := by
  go_enter Try.func119, Try.ntmps119
  go_wp2_with (first
    | (go_at_call 110; refine (spec_l01In _ _ _ _).mono ?_; rintro e w' ⟨rfl, rfl⟩))
  all_goals (go_returns; refine ⟨ret_cell ?_, by go_grown⟩; simp_all [wholeC])


set_option maxHeartbeats 400000 in
theorem impl_WholeCell (a : Int) (w : World) :
    Calls Try.prog 76 #[.int .i64 a] w fun e w' => e = .returned (.agg #[.int .i64 (wholeC a).s, .int .i64 (wholeC a).a, .int .i64 (wholeC a).b]) ∧ Below w.heap.size w w' := by
  go_enter Try.func76, Try.ntmps76
  go_wp2_with (first
    | (go_at_call 70; refine (impl_isColor _ _).mono ?_; rintro e w' ⟨rfl, rfl⟩))
  all_goals (go_returns; refine ⟨ret_cell ?_, by go_grown⟩; simp_all [wholeC])



theorem mirror_fin {s a b : Int} (h1 : (!cOk s a b) = false) (h2 : (s == 0) = false) : (⟨wrap64 (3 - s), b, a⟩ : C) = mirrorC s a b := by
  have h3 : cOk s a b = true := by simpa using h1
  have h4 := cOk_t h3
  rw [IntWalk.wrap64_in (3 - s) (by omega)]
  simp_all [mirrorC]

set_option maxHeartbeats 400000 in
theorem spec_SplitCell (s a b : Int) (w : World) :
    Calls Try.prog 120 #[.int .i64 s, .int .i64 a, .int .i64 b] w fun e w' => e = .returned (.agg #[.int .i64 (splitC s a b).s, .int .i64 (splitC s a b).a, .int .i64 (splitC s a b).b]) ∧ Below w.heap.size w w' := by
  have hs := lt2
  go_enter Try.func120, Try.ntmps120
  go_wp2_with (first
    | (go_at_call 119; refine (spec_WholeCell _ _).mono ?_; rintro e w1 ⟨rfl, hb1⟩; have hy1 := bsize hb1; (try simp at hy1); obtain ⟨hc1, hf1, hz1⟩ := bcell hb1 (b := w.heap.size) (by go_size))
    | (go_at_call 111; refine (spec_CellOk _ _ _ _).mono ?_; rintro e w1 ⟨rfl, hb1⟩; have hy1 := bsize hb1; (try simp at hy1); obtain ⟨hc1, hf1, hz1⟩ := bcell hb1 (b := w.heap.size) (by go_size); obtain ⟨hc1, hf1, hz1⟩ := bcell hb1 (b := w.heap.size + 1) (by go_size)))
  all_goals (refine bodyPost_ret (by simp [results, Try.results120, go_sem, *]; try rfl) rfl ?_)
  all_goals (refine ⟨ret_cell ?_, ?_⟩)
  all_goals first | (with_reducible show Below _ _ _; (repeat' (first | (with_reducible exact Below.refl _ _) | (with_reducible refine Below.setCell ?_ ?_ _) | (with_reducible refine Below.alloc ?_ ?_ _) | (with_reducible refine Below.drew ?_) | (with_reducible refine Below.trans ?_ (Below.mono (by with_reducible assumption) ?_)) | go_size | omega))) | (go_light; clear hb1 hc1 hf1 hs hy1; simp_all [splitC]; done) | (go_light; clear hb1 hc1 hf1 hs hy1; simp_all [splitC]; omega)




set_option maxHeartbeats 400000 in
theorem spec_MirrorCell (s a b : Int) (w : World) :
    Calls Try.prog 79 #[.agg #[.int .i64 s, .int .i64 a, .int .i64 b]] w fun e w' => e = .returned (.agg #[.int .i64 (mirrorC s a b).s, .int .i64 (mirrorC s a b).a, .int .i64 (mirrorC s a b).b]) ∧ Below w.heap.size w w' := by
  have hs := lt2
  go_enter Try.func79, Try.ntmps79
  go_wp2_with (first
    | (go_at_call 111; refine (spec_CellOk _ _ _ _).mono ?_; rintro e w1 ⟨rfl, hb1⟩; have hy1 := bsize hb1; (try simp at hy1); obtain ⟨hc1, hf1, hz1⟩ := bcell hb1 (b := w.heap.size) (by go_size); obtain ⟨hc1, hf1, hz1⟩ := bcell hb1 (b := w.heap.size + 1) (by go_size)))
  all_goals (refine bodyPost_ret (by simp [results, Try.results79, go_sem, *]; try rfl) rfl ?_)
  all_goals (refine ⟨ret_cell ?_, ?_⟩)
  all_goals first | (with_reducible show Below _ _ _; (repeat' (first | (with_reducible exact Below.refl _ _) | (with_reducible refine Below.setCell ?_ ?_ _) | (with_reducible refine Below.alloc ?_ ?_ _) | (with_reducible refine Below.drew ?_) | (with_reducible refine Below.trans ?_ (Below.mono (by with_reducible assumption) ?_)) | go_size | omega))) | (go_light; clear hb1 hc1 hf1 hs hy1; simp_all [mirrorC]; done) | (go_light; clear hb1 hc1 hf1 hs hy1; simp_all [mirrorC]; omega) | (exact mirror_fin ‹_› ‹_›)


set_option maxHeartbeats 400000 in
theorem spec_TurnCell (s a b : Int) (w : World) :
    Calls Try.prog 88 #[.agg #[.int .i64 s, .int .i64 a, .int .i64 b]] w fun e w' => e = .returned (.agg #[.int .i64 (turnC s a b).s, .int .i64 (turnC s a b).a, .int .i64 (turnC s a b).b]) ∧ Below w.heap.size w w' := by
  have hs := lt2
  go_enter Try.func88, Try.ntmps88
  go_wp2_with (first
    | (go_at_call 111; refine (spec_CellOk _ _ _ _).mono ?_; rintro e w1 ⟨rfl, hb1⟩; have hy1 := bsize hb1; (try simp at hy1); obtain ⟨hc1, hf1, hz1⟩ := bcell hb1 (b := w.heap.size) (by go_size); obtain ⟨hc1, hf1, hz1⟩ := bcell hb1 (b := w.heap.size + 1) (by go_size)))
  all_goals (refine bodyPost_ret (by simp [results, Try.results88, go_sem, *]; try rfl) rfl ?_)
  all_goals (refine ⟨ret_cell ?_, ?_⟩)
  all_goals first | (with_reducible show Below _ _ _; (repeat' (first | (with_reducible exact Below.refl _ _) | (with_reducible refine Below.setCell ?_ ?_ _) | (with_reducible refine Below.alloc ?_ ?_ _) | (with_reducible refine Below.drew ?_) | (with_reducible refine Below.trans ?_ (Below.mono (by with_reducible assumption) ?_)) | go_size | omega))) | (go_light; clear hb1 hc1 hf1 hs hy1; simp_all [turnC]; done) | (go_light; clear hb1 hc1 hf1 hs hy1; simp_all [turnC]; omega)


set_option maxHeartbeats 400000 in
theorem impl_SplitCell (s a b : Int) (w : World) :
    Calls Try.prog 77 #[.int .i64 s, .int .i64 a, .int .i64 b] w fun e w' => e = .returned (.agg #[.int .i64 (splitC s a b).s, .int .i64 (splitC s a b).a, .int .i64 (splitC s a b).b]) ∧ Below w.heap.size w w' := by
  have hs := lt2
  go_enter Try.func77, Try.ntmps77
  go_wp2_with (first
    | (go_at_call 76; refine (impl_WholeCell _ _).mono ?_; rintro e w1 ⟨rfl, hb1⟩; have hy1 := bsize hb1; (try simp at hy1); obtain ⟨hc1, hf1, hz1⟩ := bcell hb1 (b := w.heap.size) (by go_size))
    | (go_at_call 75; refine (impl_CellOk _ _ _ _).mono ?_; rintro e w1 ⟨rfl, hb1⟩; have hy1 := bsize hb1; (try simp at hy1); obtain ⟨hc1, hf1, hz1⟩ := bcell hb1 (b := w.heap.size) (by go_size); obtain ⟨hc1, hf1, hz1⟩ := bcell hb1 (b := w.heap.size + 1) (by go_size)))
  all_goals (refine bodyPost_ret (by simp [results, Try.results77, go_sem, *]; try rfl) rfl ?_)
  all_goals (refine ⟨ret_cell ?_, ?_⟩)
  all_goals first | (with_reducible show Below _ _ _; (repeat' (first | (with_reducible exact Below.refl _ _) | (with_reducible refine Below.setCell ?_ ?_ _) | (with_reducible refine Below.alloc ?_ ?_ _) | (with_reducible refine Below.drew ?_) | (with_reducible refine Below.trans ?_ (Below.mono (by with_reducible assumption) ?_)) | go_size | omega))) | (go_light; clear hb1 hc1 hf1 hs hy1; simp_all [splitC]; done) | (go_light; clear hb1 hc1 hf1 hs hy1; simp_all [splitC]; omega)



set_option maxHeartbeats 400000 in
theorem impl_CellArea (s a b k : Int) (w : World) :
    Calls Try.prog 30 #[.agg #[.int .i64 s, .int .i64 a, .int .i64 b], .int .i64 k] w fun e w' => e = .returned (.int .i64 (areaC s a b k)) ∧ Below w.heap.size w w' := by
  have hs := lt2
  go_enter Try.func30, Try.ntmps30
  go_wp2_with (first
    | (go_at_call 75; refine (impl_CellOk _ _ _ _).mono ?_; rintro e w1 ⟨rfl, hb1⟩; have hy1 := bsize hb1; (try simp at hy1); obtain ⟨hc1, hf1, hz1⟩ := bcell hb1 (b := w.heap.size) (by go_size)))
  all_goals go_ret
  all_goals (refine ⟨ret_int ?_, ?_⟩)
  all_goals first | (with_reducible show Below _ _ _; (repeat' (first | (with_reducible exact Below.refl _ _) | (with_reducible refine Below.setCell ?_ ?_ _) | (with_reducible refine Below.alloc ?_ ?_ _) | (with_reducible refine Below.drew ?_) | (with_reducible refine Below.trans ?_ (Below.mono (by with_reducible assumption) ?_)) | go_size | omega))) | (go_light; clear hb1 hc1 hf1 hs hy1; simp_all [areaC]; done) | (go_light; clear hb1 hc1 hf1 hs hy1; simp_all [areaC]; omega)


set_option maxHeartbeats 400000 in
theorem impl_MirrorCell (s a b : Int) (w : World) :
    Calls Try.prog 83 #[.agg #[.int .i64 s, .int .i64 a, .int .i64 b]] w fun e w' => e = .returned (.agg #[.int .i64 (mirrorC s a b).s, .int .i64 (mirrorC s a b).a, .int .i64 (mirrorC s a b).b]) ∧ Below w.heap.size w w' := by
  have hs := lt2
  go_enter Try.func83, Try.ntmps83
  go_wp2_with (first
    | (go_at_call 75; refine (impl_CellOk _ _ _ _).mono ?_; rintro e w1 ⟨rfl, hb1⟩; have hy1 := bsize hb1; (try simp at hy1); obtain ⟨hc1, hf1, hz1⟩ := bcell hb1 (b := w.heap.size) (by go_size); obtain ⟨hc1, hf1, hz1⟩ := bcell hb1 (b := w.heap.size + 1) (by go_size)))
  all_goals (refine bodyPost_ret (by simp [results, Try.results83, go_sem, *]; try rfl) rfl ?_)
  all_goals (refine ⟨ret_cell ?_, ?_⟩)
  all_goals first | (with_reducible show Below _ _ _; (repeat' (first | (with_reducible exact Below.refl _ _) | (with_reducible refine Below.setCell ?_ ?_ _) | (with_reducible refine Below.alloc ?_ ?_ _) | (with_reducible refine Below.drew ?_) | (with_reducible refine Below.trans ?_ (Below.mono (by with_reducible assumption) ?_)) | go_size | omega))) | (go_light; clear hb1 hc1 hf1 hs hy1; simp_all [mirrorC]; done) | (go_light; clear hb1 hc1 hf1 hs hy1; simp_all [mirrorC]; omega) | (exact mirror_fin ‹_› ‹_›)


set_option maxHeartbeats 400000 in
theorem impl_TurnCell (s a b : Int) (w : World) :
    Calls Try.prog 90 #[.agg #[.int .i64 s, .int .i64 a, .int .i64 b]] w fun e w' => e = .returned (.agg #[.int .i64 (turnC s a b).s, .int .i64 (turnC s a b).a, .int .i64 (turnC s a b).b]) ∧ Below w.heap.size w w' := by
  have hs := lt2
  go_enter Try.func90, Try.ntmps90
  go_wp2_with (first
    | (go_at_call 75; refine (impl_CellOk _ _ _ _).mono ?_; rintro e w1 ⟨rfl, hb1⟩; have hy1 := bsize hb1; (try simp at hy1); obtain ⟨hc1, hf1, hz1⟩ := bcell hb1 (b := w.heap.size) (by go_size); obtain ⟨hc1, hf1, hz1⟩ := bcell hb1 (b := w.heap.size + 1) (by go_size)))
  all_goals (refine bodyPost_ret (by simp [results, Try.results90, go_sem, *]; try rfl) rfl ?_)
  all_goals (refine ⟨ret_cell ?_, ?_⟩)
  all_goals first | (with_reducible show Below _ _ _; (repeat' (first | (with_reducible exact Below.refl _ _) | (with_reducible refine Below.setCell ?_ ?_ _) | (with_reducible refine Below.alloc ?_ ?_ _) | (with_reducible refine Below.drew ?_) | (with_reducible refine Below.trans ?_ (Below.mono (by with_reducible assumption) ?_)) | go_size | omega))) | (go_light; clear hb1 hc1 hf1 hs hy1; simp_all [turnC]; done) | (go_light; clear hb1 hc1 hf1 hs hy1; simp_all [turnC]; omega)


end Go.Proofs.Ytlcllpgbpjdofaa
