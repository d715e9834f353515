/- Walks of the laws on cells and numbers: each returns true. No condition. -/
import Derived.Test.YtmddlkmondbbaaaW1
import Derived.Test.YtmddlkmondbbaaaR0
set_option linter.unusedSimpArgs false
set_option linter.unusedVariables false
namespace Go.Proofs.Ytmddlkmondbbaaa
open Go.RowKit

def clampZ (n a b : Int) : Int := if b < a ∨ n < a then a else if b < n then b else n
theorem clampZ_lo {n a b : Int} (h : a ≤ b) : a ≤ clampZ n a b := by unfold clampZ; split <;> (try split) <;> omega
theorem clampZ_hi {n a b : Int} (h : a ≤ b) : clampZ n a b ≤ b := by unfold clampZ; split <;> (try split) <;> omega
theorem clampZ_in {n a b : Int} (h1 : a ≤ n) (h2 : n ≤ b) : clampZ n a b = n := by unfold clampZ; split <;> (try split) <;> omega
theorem clampZ_bad {n a b : Int} (h1 : b < a) : clampZ n a b = a := by unfold clampZ; rw [if_pos (.inl h1)]
def prodZ (i k : Int) : Int := if inB i 0 7 && inB k 0 7 then (if i < 4 ∧ k < 4 then (i + k) % 4 else if k < 4 then 4 + (i + k) % 4 else if i < 4 then 4 + (k - i + 4) % 4 else (k - i + 4) % 4) else -1

set_option maxHeartbeats 400000 in
theorem spec_Clamp (n a b : Int) (w : World) :
    Calls Try.prog 15 #[.int .i64 n, .int .i64 a, .int .i64 b] w fun e w' => e = .returned (.int .i64 (clampZ n a b)) ∧ w = w' := by
  go_enter Try.func15, Try.ntmps15
  go_wp2
  all_goals (go_ret; refine ⟨ret_int ?_, rfl⟩; simp [clampZ] at *; try omega)

set_option maxHeartbeats 400000 in
theorem impl_Clamp (n a b : Int) (w : World) :
    Calls Try.prog 16 #[.int .i64 n, .int .i64 a, .int .i64 b] w fun e w' => e = .returned (.int .i64 (clampZ n a b)) ∧ w = w' := by
  go_enter Try.func16, Try.ntmps16
  go_wp2
  all_goals (go_ret; refine ⟨ret_int ?_, rfl⟩; simp [clampZ] at *; try omega)

set_option maxHeartbeats 400000 in
theorem spec_ProductOf (i k : Int) (w : World) :
    Calls Try.prog 39 #[.int .i64 i, .int .i64 k] w fun e w' => e = .returned (.int .i64 (prodZ i k)) ∧ w = w' := by
  by_cases hi : 0 ≤ i ∧ i ≤ 7
  · by_cases hk : 0 ≤ k ∧ k ≤ 7
    · obtain ⟨hi1, hi2⟩ := hi
      obtain ⟨hk1, hk2⟩ := hk
      have bi : inB i 0 7 = true := inB_t hi1 hi2
      have bk : inB k 0 7 = true := inB_t hk1 hk2
      go_enter Try.func39, Try.ntmps39
      go_wp2_with (go_at_call 45; refine (spec_l01In _ _ _ _).mono ?_; rintro e w' ⟨rfl, rfl⟩)
      all_goals (go_ret; refine ⟨ret_int ?_, rfl⟩; simp_all [prodZ]; try omega)
    · have bk : inB k 0 7 = false := by simp [inB]; omega
      go_enter Try.func39, Try.ntmps39
      go_wp2_with (go_at_call 45; refine (spec_l01In _ _ _ _).mono ?_; rintro e w' ⟨rfl, rfl⟩)
      all_goals (go_ret; refine ⟨ret_int ?_, rfl⟩; simp_all [prodZ]; try omega)
  · have bi : inB i 0 7 = false := by simp [inB]; omega
    go_enter Try.func39, Try.ntmps39
    go_wp2_with (go_at_call 45; refine (spec_l01In _ _ _ _).mono ?_; rintro e w' ⟨rfl, rfl⟩)
    all_goals (go_ret; refine ⟨ret_int ?_, rfl⟩; simp_all [prodZ]; try omega)

set_option maxHeartbeats 400000 in
theorem impl_ProductOf (i k : Int) (w : World) :
    Calls Try.prog 40 #[.int .i64 i, .int .i64 k] w fun e w' => e = .returned (.int .i64 (prodZ i k)) ∧ w = w' := by
  by_cases hi : 0 ≤ i ∧ i ≤ 7
  · by_cases hk : 0 ≤ k ∧ k ≤ 7
    · obtain ⟨hi1, hi2⟩ := hi
      obtain ⟨hk1, hk2⟩ := hk
      have bi : inB i 0 7 = true := inB_t hi1 hi2
      have bk : inB k 0 7 = true := inB_t hk1 hk2
      go_enter Try.func40, Try.ntmps40
      go_wp2_with (go_at_call 46; refine (impl_within _ _ _ _).mono ?_; rintro e w' ⟨rfl, rfl⟩)
      all_goals (go_ret; refine ⟨ret_int ?_, rfl⟩; simp_all [prodZ]; try omega)
    · have bk : inB k 0 7 = false := by simp [inB]; omega
      go_enter Try.func40, Try.ntmps40
      go_wp2_with (go_at_call 46; refine (impl_within _ _ _ _).mono ?_; rintro e w' ⟨rfl, rfl⟩)
      all_goals (go_ret; refine ⟨ret_int ?_, rfl⟩; simp_all [prodZ]; try omega)
  · have bi : inB i 0 7 = false := by simp [inB]; omega
    go_enter Try.func40, Try.ntmps40
    go_wp2_with (go_at_call 46; refine (impl_within _ _ _ _).mono ?_; rintro e w' ⟨rfl, rfl⟩)
    all_goals (go_ret; refine ⟨ret_int ?_, rfl⟩; simp_all [prodZ]; try omega)

set_option maxHeartbeats 400000 in
theorem walk_FnExactConstants  (w : World) :
    Calls Try.prog 3 #[] w fun e w' => e = .returned (.bool true) ∧ Below w.heap.size w w' := by
  go_enter Try.func3, Try.ntmps3
  go_wp2
  all_goals go_ret
  exact ⟨rfl, by go_grown⟩


set_option maxHeartbeats 400000 in
theorem walk_FnExactClamp (n a b : Int) (w : World) (_ : I64 n) (_ : I64 a) (_ : I64 b) :
    Calls Try.prog 4 #[.int .i64 n, .int .i64 a, .int .i64 b] w fun e w' => e = .returned (.bool true) ∧ Below w.heap.size w w' := by
  go_enter Try.func4, Try.ntmps4
  go_wp2_with (first
    | (go_at_call 15; refine (spec_Clamp _ _ _ _).mono ?_; rintro e w' ⟨rfl, rfl⟩)
    | (go_at_call 16; refine (impl_Clamp _ _ _ _).mono ?_; rintro e w' ⟨rfl, rfl⟩))
  all_goals (go_ret; refine ⟨rfl, ?_⟩; (repeat' (first | (with_reducible exact Below.refl _ _) | (with_reducible refine Below.setCell ?_ ?_ _) | (with_reducible refine Below.alloc ?_ ?_ _) | (with_reducible refine Below.drew ?_) | (with_reducible refine Below.trans ?_ (Below.mono (by with_reducible assumption) ?_)) | go_size | omega)))


set_option maxHeartbeats 400000 in
theorem walk_FnExactProductOf (i k : Int) (w : World) (_ : I64 i) (_ : I64 k) :
    Calls Try.prog 14 #[.int .i64 i, .int .i64 k] w fun e w' => e = .returned (.bool true) ∧ Below w.heap.size w w' := by
  go_enter Try.func14, Try.ntmps14
  go_wp2_with (first
    | (go_at_call 39; refine (spec_ProductOf _ _ _).mono ?_; rintro e w' ⟨rfl, rfl⟩)
    | (go_at_call 40; refine (impl_ProductOf _ _ _).mono ?_; rintro e w' ⟨rfl, rfl⟩))
  all_goals (go_ret; refine ⟨rfl, ?_⟩; (repeat' (first | (with_reducible exact Below.refl _ _) | (with_reducible refine Below.setCell ?_ ?_ _) | (with_reducible refine Below.alloc ?_ ?_ _) | (with_reducible refine Below.drew ?_) | (with_reducible refine Below.trans ?_ (Below.mono (by with_reducible assumption) ?_)) | go_size | omega)))


set_option maxHeartbeats 400000 in
theorem walk_FnExactCellOk (s a b : Int) (w : World) (_ : I64 s ∧ I64 a ∧ I64 b) :
    Calls Try.prog 6 #[.agg #[.int .i64 s, .int .i64 a, .int .i64 b]] w fun e w' => e = .returned (.bool true) ∧ Below w.heap.size w w' := by
  have hs := lt2
  go_enter Try.func6, Try.ntmps6
  go_wp2_with (first
    | (go_at_call 20; refine (laws_toCell _ _ _ _).mono ?_; rintro e w1 ⟨rfl, hb1⟩; have hy1 := bsize hb1; (try simp at hy1); obtain ⟨hc1, hf1, hz1⟩ := bcell hb1 (b := w.heap.size) (by go_size))
    | (go_at_call 19; refine (spec_CellOk _ _ _ _).mono ?_; rintro e w2 ⟨rfl, hb2⟩; have hy2 := bsize hb2; (try simp at hy2); obtain ⟨hc2, hf2, hz2⟩ := bcell hb2 (b := w.heap.size) (by go_size))
    | (go_at_call 21; refine (impl_CellOk _ _ _ _).mono ?_; rintro e w3 ⟨rfl, hb3⟩; have hy3 := bsize hb3; (try simp at hy3); obtain ⟨hc3, hf3, hz3⟩ := bcell hb3 (b := w.heap.size) (by go_size)))
  all_goals (go_ret; refine ⟨rfl, ?_⟩; (repeat' (first | (with_reducible exact Below.refl _ _) | (with_reducible refine Below.setCell ?_ ?_ _) | (with_reducible refine Below.alloc ?_ ?_ _) | (with_reducible refine Below.drew ?_) | (with_reducible refine Below.trans ?_ (Below.mono (by with_reducible assumption) ?_)) | go_size | omega)))


set_option maxHeartbeats 400000 in
theorem walk_FnExactMirrorCell (s a b : Int) (w : World) (_ : I64 s ∧ I64 a ∧ I64 b) :
    Calls Try.prog 10 #[.agg #[.int .i64 s, .int .i64 a, .int .i64 b]] w fun e w' => e = .returned (.bool true) ∧ Below w.heap.size w w' := by
  have hs := lt2
  go_enter Try.func10, Try.ntmps10
  go_wp2_with fail
  refine (laws_toCell _ _ _ _).mono ?_
  rintro e w1 ⟨rfl, hb1⟩
  have hy1 := bsize hb1
  try simp at hy1
  obtain ⟨hc1, hf1, hz1⟩ := bcell hb1 (b := w.heap.size) (by go_size)
  go_wp2_with fail
  refine (spec_MirrorCell _ _ _ _).mono ?_
  rintro e w2 ⟨rfl, hb2⟩
  have hy2 := bsize hb2
  try simp at hy2
  obtain ⟨hc2, hf2, hz2⟩ := bcell hb2 (b := w.heap.size) (by go_size)
  go_wp2_with fail
  refine (laws_toCell _ _ _ _).mono ?_
  rintro e w3 ⟨rfl, hb3⟩
  have hy3 := bsize hb3
  try simp at hy3
  obtain ⟨hc3, hf3, hz3⟩ := bcell hb3 (b := w.heap.size) (by go_size)
  obtain ⟨hc3, hf3, hz3⟩ := bcell hb3 (b := w2.heap.size) (by go_size)
  go_wp2_with fail
  refine (impl_MirrorCell _ _ _ _).mono ?_
  rintro e w4 ⟨rfl, hb4⟩
  have hy4 := bsize hb4
  try simp at hy4
  obtain ⟨hc4, hf4, hz4⟩ := bcell hb4 (b := w2.heap.size) (by go_size)
  go_wp2_with fail
  refine (laws_eqCell_self _ _ _ _).mono ?_
  rintro e w5 ⟨rfl, hb5⟩
  have hy5 := bsize hb5
  try simp at hy5
  go_wp2
  go_ret
  refine ⟨rfl, ?_⟩
  (repeat' (first | (with_reducible exact Below.refl _ _) | (with_reducible refine Below.setCell ?_ ?_ _) | (with_reducible refine Below.alloc ?_ ?_ _) | (with_reducible refine Below.drew ?_) | (with_reducible refine Below.trans ?_ (Below.mono (by with_reducible assumption) ?_)) | go_size | omega))

set_option maxHeartbeats 400000 in
theorem walk_FnExactTurnCell (s a b : Int) (w : World) (_ : I64 s ∧ I64 a ∧ I64 b) :
    Calls Try.prog 11 #[.agg #[.int .i64 s, .int .i64 a, .int .i64 b]] w fun e w' => e = .returned (.bool true) ∧ Below w.heap.size w w' := by
  have hs := lt2
  go_enter Try.func11, Try.ntmps11
  go_wp2_with fail
  refine (laws_toCell _ _ _ _).mono ?_
  rintro e w1 ⟨rfl, hb1⟩
  have hy1 := bsize hb1
  try simp at hy1
  obtain ⟨hc1, hf1, hz1⟩ := bcell hb1 (b := w.heap.size) (by go_size)
  go_wp2_with fail
  refine (spec_TurnCell _ _ _ _).mono ?_
  rintro e w2 ⟨rfl, hb2⟩
  have hy2 := bsize hb2
  try simp at hy2
  obtain ⟨hc2, hf2, hz2⟩ := bcell hb2 (b := w.heap.size) (by go_size)
  go_wp2_with fail
  refine (laws_toCell _ _ _ _).mono ?_
  rintro e w3 ⟨rfl, hb3⟩
  have hy3 := bsize hb3
  try simp at hy3
  obtain ⟨hc3, hf3, hz3⟩ := bcell hb3 (b := w.heap.size) (by go_size)
  obtain ⟨hc3, hf3, hz3⟩ := bcell hb3 (b := w2.heap.size) (by go_size)
  go_wp2_with fail
  refine (impl_TurnCell _ _ _ _).mono ?_
  rintro e w4 ⟨rfl, hb4⟩
  have hy4 := bsize hb4
  try simp at hy4
  obtain ⟨hc4, hf4, hz4⟩ := bcell hb4 (b := w2.heap.size) (by go_size)
  go_wp2_with fail
  refine (laws_eqCell_self _ _ _ _).mono ?_
  rintro e w5 ⟨rfl, hb5⟩
  have hy5 := bsize hb5
  try simp at hy5
  go_wp2
  go_ret
  refine ⟨rfl, ?_⟩
  (repeat' (first | (with_reducible exact Below.refl _ _) | (with_reducible refine Below.setCell ?_ ?_ _) | (with_reducible refine Below.alloc ?_ ?_ _) | (with_reducible refine Below.drew ?_) | (with_reducible refine Below.trans ?_ (Below.mono (by with_reducible assumption) ?_)) | go_size | omega))

set_option maxHeartbeats 400000 in
theorem walk_FnExactColorAt (s a b k : Int) (w : World) (_ : I64 s ∧ I64 a ∧ I64 b) (_ : I64 k) :
    Calls Try.prog 8 #[.agg #[.int .i64 s, .int .i64 a, .int .i64 b], .int .i64 k] w fun e w' => e = .returned (.bool true) ∧ Below w.heap.size w w' := by
  have hs := lt2
  go_enter Try.func8, Try.ntmps8
  go_wp2_with fail
  refine (laws_toCell _ _ _ _).mono ?_
  rintro e w1 ⟨rfl, hb1⟩
  have hy1 := bsize hb1
  try simp at hy1
  obtain ⟨hc1, hf1, hz1⟩ := bcell hb1 (b := w.heap.size) (by go_size)
  go_wp2_with fail
  refine (spec_ColorAt _ _ _ _ _).mono ?_
  rintro e w2 ⟨rfl, hb2⟩
  have hy2 := bsize hb2
  try simp at hy2
  obtain ⟨hc2, hf2, hz2⟩ := bcell hb2 (b := w.heap.size) (by go_size)
  go_wp2_with fail
  refine (laws_toCell _ _ _ _).mono ?_
  rintro e w3 ⟨rfl, hb3⟩
  have hy3 := bsize hb3
  try simp at hy3
  obtain ⟨hc3, hf3, hz3⟩ := bcell hb3 (b := w.heap.size) (by go_size)
  go_wp2_with fail
  refine (impl_ColorAt _ _ _ _ _).mono ?_
  rintro e w4 ⟨rfl, hb4⟩
  have hy4 := bsize hb4
  try simp at hy4
  go_wp2
  go_ret
  refine ⟨rfl, ?_⟩
  (repeat' (first | (with_reducible exact Below.refl _ _) | (with_reducible refine Below.setCell ?_ ?_ _) | (with_reducible refine Below.alloc ?_ ?_ _) | (with_reducible refine Below.drew ?_) | (with_reducible refine Below.trans ?_ (Below.mono (by with_reducible assumption) ?_)) | go_size | omega))

set_option maxHeartbeats 400000 in
theorem walk_FnExactCellArea (s a b k : Int) (w : World) (_ : I64 s ∧ I64 a ∧ I64 b) (_ : I64 k) :
    Calls Try.prog 9 #[.agg #[.int .i64 s, .int .i64 a, .int .i64 b], .int .i64 k] w fun e w' => e = .returned (.bool true) ∧ Below w.heap.size w w' := by
  have hs := lt2
  go_enter Try.func9, Try.ntmps9
  go_wp2_with fail
  refine (laws_toCell _ _ _ _).mono ?_
  rintro e w1 ⟨rfl, hb1⟩
  have hy1 := bsize hb1
  try simp at hy1
  obtain ⟨hc1, hf1, hz1⟩ := bcell hb1 (b := w.heap.size) (by go_size)
  go_wp2_with fail
  refine (spec_CellArea _ _ _ _ _).mono ?_
  rintro e w2 ⟨rfl, hb2⟩
  have hy2 := bsize hb2
  try simp at hy2
  obtain ⟨hc2, hf2, hz2⟩ := bcell hb2 (b := w.heap.size) (by go_size)
  go_wp2_with fail
  refine (laws_toCell _ _ _ _).mono ?_
  rintro e w3 ⟨rfl, hb3⟩
  have hy3 := bsize hb3
  try simp at hy3
  obtain ⟨hc3, hf3, hz3⟩ := bcell hb3 (b := w.heap.size) (by go_size)
  go_wp2_with fail
  refine (impl_CellArea _ _ _ _ _).mono ?_
  rintro e w4 ⟨rfl, hb4⟩
  have hy4 := bsize hb4
  try simp at hy4
  go_wp2
  go_ret
  refine ⟨rfl, ?_⟩
  (repeat' (first | (with_reducible exact Below.refl _ _) | (with_reducible refine Below.setCell ?_ ?_ _) | (with_reducible refine Below.alloc ?_ ?_ _) | (with_reducible refine Below.drew ?_) | (with_reducible refine Below.trans ?_ (Below.mono (by with_reducible assumption) ?_)) | go_size | omega))

set_option maxHeartbeats 400000 in
theorem walk_FnExactWholeCell (a : Int) (w : World) (_ : I64 a) :
    Calls Try.prog 7 #[.int .i64 a] w fun e w' => e = .returned (.bool true) ∧ Below w.heap.size w w' := by
  have hs := lt2
  go_enter Try.func7, Try.ntmps7
  go_wp2_with fail
  refine (spec_WholeCell _ _).mono ?_
  rintro e w1 ⟨rfl, hb1⟩
  have hy1 := bsize hb1
  try simp at hy1
  go_wp2_with fail
  refine (impl_WholeCell _ _).mono ?_
  rintro e w2 ⟨rfl, hb2⟩
  have hy2 := bsize hb2
  try simp at hy2
  obtain ⟨hc2, hf2, hz2⟩ := bcell hb2 (b := w1.heap.size) (by go_size)
  go_wp2_with fail
  refine (laws_eqCell_self _ _ _ _).mono ?_
  rintro e w3 ⟨rfl, hb3⟩
  have hy3 := bsize hb3
  try simp at hy3
  go_wp2
  go_ret
  refine ⟨rfl, ?_⟩
  (repeat' (first | (with_reducible exact Below.refl _ _) | (with_reducible refine Below.setCell ?_ ?_ _) | (with_reducible refine Below.alloc ?_ ?_ _) | (with_reducible refine Below.drew ?_) | (with_reducible refine Below.trans ?_ (Below.mono (by with_reducible assumption) ?_)) | go_size | omega))

set_option maxHeartbeats 400000 in
theorem walk_FnExactSplitCell (s a b : Int) (w : World) (_ : I64 s) (_ : I64 a) (_ : I64 b) :
    Calls Try.prog 12 #[.int .i64 s, .int .i64 a, .int .i64 b] w fun e w' => e = .returned (.bool true) ∧ Below w.heap.size w w' := by
  have hs := lt2
  go_enter Try.func12, Try.ntmps12
  go_wp2_with fail
  refine (spec_SplitCell _ _ _ _).mono ?_
  rintro e w1 ⟨rfl, hb1⟩
  have hy1 := bsize hb1
  try simp at hy1
  go_wp2_with fail
  refine (impl_SplitCell _ _ _ _).mono ?_
  rintro e w2 ⟨rfl, hb2⟩
  have hy2 := bsize hb2
  try simp at hy2
  obtain ⟨hc2, hf2, hz2⟩ := bcell hb2 (b := w1.heap.size) (by go_size)
  go_wp2_with fail
  refine (laws_eqCell_self _ _ _ _).mono ?_
  rintro e w3 ⟨rfl, hb3⟩
  have hy3 := bsize hb3
  try simp at hy3
  go_wp2
  go_ret
  refine ⟨rfl, ?_⟩
  (repeat' (first | (with_reducible exact Below.refl _ _) | (with_reducible refine Below.setCell ?_ ?_ _) | (with_reducible refine Below.alloc ?_ ?_ _) | (with_reducible refine Below.drew ?_) | (with_reducible refine Below.trans ?_ (Below.mono (by with_reducible assumption) ?_)) | go_size | omega))

end Go.Proofs.Ytmddlkmondbbaaa
