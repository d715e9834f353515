/- CellText, both sides; the law FnExactCellText returns true where the library's table of powers reads as its text lays it. -/
import Derived.Test.YteoddpdjhkbaiaaDoorYf
import Derived.Test.YteoddpdjhkbaiaaDoorW1
import Derived.Deep.RegionHeld3
set_option linter.unusedSimpArgs false
set_option linter.unusedVariables false
set_option maxRecDepth 100000
namespace Go.Proofs.YteoddpdjhkbaiaaDoor
open Go.RowKit

/-- the text of a cell -/
def ctx (s a b : Int) : ByteArray := if cOk s a b = true then (if s = 1 then itoaS a ++ ⟨#[47]⟩ ++ itoaS b else if s = 2 then itoaS a ++ ⟨#[92]⟩ ++ itoaS b else itoaS a) else ByteArray.empty
theorem ctx_f {s a b : Int} (h : cOk s a b = false) : ctx s a b = ByteArray.empty := by unfold ctx; rw [h]; rfl
theorem ctx_0 {a b : Int} (h : cOk 0 a b = true) : ctx 0 a b = itoaS a := by unfold ctx; rw [h]; rfl
theorem ctx_1 {a b : Int} (h : cOk 1 a b = true) : ctx 1 a b = itoaS a ++ ⟨#[47]⟩ ++ itoaS b := by unfold ctx; rw [h]; rfl
theorem ctx_2 {a b : Int} (h : cOk 2 a b = true) : ctx 2 a b = itoaS a ++ ⟨#[92]⟩ ++ itoaS b := by unfold ctx; rw [h]; rfl
theorem I64r_small {a : Int} (h0 : 0 ≤ a) (h1 : a ≤ 5) : I64r a := ⟨by omega, by omega⟩
theorem itoa_one {a : Int} (h0 : 0 ≤ a) (h1 : a ≤ 5) : (itoaS a).size = 1 := by
  obtain ⟨k, rfl⟩ := Int.eq_ofNat_of_zero_le h0
  unfold itoaS Lib.itoa
  rw [if_neg (by omega), Int.toNat_natCast, Lib.decDigits, dif_pos (by omega)]
  rfl

set_option maxHeartbeats 1000000 in
theorem spec_CellText_no (s a b : Int) (w : World) (h : cOk s a b = false) :
    Calls Tryd.prog 24 #[.agg #[.int .i64 s, .int .i64 a, .int .i64 b]] w fun e w' => e = .returned (.string (ctx s a b)) ∧ Below w.heap.size w w' := by
  have HE := Lib.hid (ctx_f h)
  go_enter Tryd.func24, Tryd.ntmps24
  go_wp2_with (go_at_call 50; (with_reducible refine (spec_CellOk _ _ _ _).mono ?_); rintro e w1 ⟨rfl, hb1⟩; have hy1 := bsize hb1; (try simp at hy1); obtain ⟨hc1, hf1, hz1⟩ := bcell hb1 (b := w.heap.size) (by go_size))
  go_ret
  exact ⟨by rw [HE.out]; rfl, by (repeat' (first | (with_reducible exact Below.refl _ _) | (with_reducible refine Below.setCell ?_ ?_ _) | (with_reducible refine Below.alloc ?_ ?_ _) | (with_reducible refine Below.drew ?_) | (with_reducible refine Below.drewN ?_ _) | (with_reducible refine Below.trans ?_ (Below.mono (by with_reducible assumption) ?_)) | go_size | (dsimp only; omega)))⟩
set_option maxHeartbeats 1000000 in
theorem spec_CellText_0 (a b : Int) (w : World) (h : cOk 0 a b = true) :
    Calls Tryd.prog 24 #[.agg #[.int .i64 0, .int .i64 a, .int .i64 b]] w fun e w' => e = .returned (.string (ctx 0 a b)) ∧ Below w.heap.size w w' := by
  have HE := Lib.hid (ctx_0 h)
  obtain ⟨-, -, a0, a1, b0, b1, -⟩ := cOk_t h
  have HA := Lib.hid (I64r_small a0 a1)
  have hs := lt2
  go_enter Tryd.func24, Tryd.ntmps24
  go_wp2_with (first
    | (go_at_call 50; (with_reducible refine (spec_CellOk _ _ _ _).mono ?_); rintro e w1 ⟨rfl, hb1⟩; have hy1 := bsize hb1; (try simp at hy1); obtain ⟨hc1, hf1, hz1⟩ := bcell hb1 (b := w.heap.size) (by go_size))
    | (go_at_call 13; (with_reducible refine (spec_FormatInt _ _ ?_).mono ?_); (with_reducible assumption); rintro e w2 ⟨rfl, hb2⟩; have hy2 := bsize hb2; (try simp at hy2); obtain ⟨hc2, hf2, hz2⟩ := bcell hb2 (b := w.heap.size) (by go_size)))
  go_ret
  exact ⟨by rw [HE.out]; rfl, by (repeat' (first | (with_reducible exact Below.refl _ _) | (with_reducible refine Below.setCell ?_ ?_ _) | (with_reducible refine Below.alloc ?_ ?_ _) | (with_reducible refine Below.drew ?_) | (with_reducible refine Below.drewN ?_ _) | (with_reducible refine Below.trans ?_ (Below.mono (by with_reducible assumption) ?_)) | go_size | (dsimp only; omega)))⟩
set_option maxRecDepth 100000 in
set_option maxHeartbeats 2000000 in
theorem spec_CellText_1 (a b : Int) (w : World) (h : cOk 1 a b = true) :
    Calls Tryd.prog 24 #[.agg #[.int .i64 1, .int .i64 a, .int .i64 b]] w fun e w' => e = .returned (.string (ctx 1 a b)) ∧ Below w.heap.size w w' := by
  have HE := Lib.hid (ctx_1 h)
  obtain ⟨-, -, a0, a1, b0, b1, -⟩ := cOk_t h
  have HA := Lib.hid (I64r_small a0 a1)
  have HB := Lib.hid (I64r_small b0 b1)
  have za := itoa_one a0 a1
  have zb := itoa_one b0 b1
  have hs := lt2
  go_enter Tryd.func24, Tryd.ntmps24
  go_wp2_with (go_at_call 50; (with_reducible refine (spec_CellOk _ _ _ _).mono ?_); rintro e w1 ⟨rfl, hb1⟩; have hy1 := bsize hb1; (try simp at hy1); obtain ⟨hc1, hf1, hz1⟩ := bcell hb1 (b := w.heap.size) (by go_size))

  go_region_held3 (fun w' => w'.cell? ⟨w.heap.size, 1, none⟩ = some (.int .i64 a) ∧ w'.cell? ⟨w.heap.size, 2, none⟩ = some (.int .i64 b)) (go_keep) (first
    | (go_at_call 13; (with_reducible refine (spec_FormatInt _ _ ?_).mono ?_); (with_reducible assumption); rintro e w2 ⟨rfl, hb2⟩; have hy2 := bsize hb2; (try simp at hy2); obtain ⟨hc2, hf2, hz2⟩ := bcell hb2 (b := w.heap.size) (by go_size)))
  all_goals
    go_wp2
    go_ret
    exact ⟨by rw [HE.out]; rfl, by (repeat' (first | (with_reducible exact Below.refl _ _) | (with_reducible refine Below.setCell ?_ ?_ _) | (with_reducible refine Below.alloc ?_ ?_ _) | (with_reducible refine Below.drew ?_) | (with_reducible refine Below.drewN ?_ _) | (with_reducible refine Below.trans ?_ (Below.mono (by with_reducible assumption) ?_)) | go_size | (dsimp only; omega)))⟩
set_option maxRecDepth 100000 in
set_option maxHeartbeats 2000000 in
theorem spec_CellText_2 (a b : Int) (w : World) (h : cOk 2 a b = true) :
    Calls Tryd.prog 24 #[.agg #[.int .i64 2, .int .i64 a, .int .i64 b]] w fun e w' => e = .returned (.string (ctx 2 a b)) ∧ Below w.heap.size w w' := by
  have HE := Lib.hid (ctx_2 h)
  obtain ⟨-, -, a0, a1, b0, b1, -⟩ := cOk_t h
  have HA := Lib.hid (I64r_small a0 a1)
  have HB := Lib.hid (I64r_small b0 b1)
  have za := itoa_one a0 a1
  have zb := itoa_one b0 b1
  have hs := lt2
  go_enter Tryd.func24, Tryd.ntmps24
  go_wp2_with (go_at_call 50; (with_reducible refine (spec_CellOk _ _ _ _).mono ?_); rintro e w1 ⟨rfl, hb1⟩; have hy1 := bsize hb1; (try simp at hy1); obtain ⟨hc1, hf1, hz1⟩ := bcell hb1 (b := w.heap.size) (by go_size))

  go_region_held3 (fun w' => w'.cell? ⟨w.heap.size, 1, none⟩ = some (.int .i64 a) ∧ w'.cell? ⟨w.heap.size, 2, none⟩ = some (.int .i64 b)) (go_keep) (first
    | (go_at_call 13; (with_reducible refine (spec_FormatInt _ _ ?_).mono ?_); (with_reducible assumption); rintro e w2 ⟨rfl, hb2⟩; have hy2 := bsize hb2; (try simp at hy2); obtain ⟨hc2, hf2, hz2⟩ := bcell hb2 (b := w.heap.size) (by go_size)))
  all_goals
    go_wp2
    go_ret
    exact ⟨by rw [HE.out]; rfl, by (repeat' (first | (with_reducible exact Below.refl _ _) | (with_reducible refine Below.setCell ?_ ?_ _) | (with_reducible refine Below.alloc ?_ ?_ _) | (with_reducible refine Below.drew ?_) | (with_reducible refine Below.drewN ?_ _) | (with_reducible refine Below.trans ?_ (Below.mono (by with_reducible assumption) ?_)) | go_size | (dsimp only; omega)))⟩
theorem spec_CellText (s a b : Int) (w : World) :
    Calls Tryd.prog 24 #[.agg #[.int .i64 s, .int .i64 a, .int .i64 b]] w fun e w' => e = .returned (.string (ctx s a b)) ∧ Below w.heap.size w w' := by
  cases h : cOk s a b with
  | false => exact spec_CellText_no s a b w h
  | true =>
    obtain ⟨s0, s1, _⟩ := cOk_t h
    rcases (show s = 0 ∨ s = 1 ∨ s = 2 by omega) with rfl | rfl | rfl
    · exact spec_CellText_0 a b w h
    · exact spec_CellText_1 a b w h
    · exact spec_CellText_2 a b w h

set_option maxHeartbeats 1000000 in
theorem impl_CellText_no (s a b : Int) (w : World) (h : cOk s a b = false) :
    Calls Tryd.prog 26 #[.agg #[.int .i64 s, .int .i64 a, .int .i64 b]] w fun e w' => e = .returned (.string (ctx s a b)) ∧ Below w.heap.size w w' := by
  have HE := Lib.hid (ctx_f h)
  go_enter Tryd.func26, Tryd.ntmps26
  go_wp2_with (go_at_call 36; (with_reducible refine (impl_CellOk _ _ _ _).mono ?_); rintro e w1 ⟨rfl, hb1⟩; have hy1 := bsize hb1; (try simp at hy1); obtain ⟨hc1, hf1, hz1⟩ := bcell hb1 (b := w.heap.size) (by go_size))
  go_ret
  exact ⟨by rw [HE.out]; rfl, by (repeat' (first | (with_reducible exact Below.refl _ _) | (with_reducible refine Below.setCell ?_ ?_ _) | (with_reducible refine Below.alloc ?_ ?_ _) | (with_reducible refine Below.drew ?_) | (with_reducible refine Below.drewN ?_ _) | (with_reducible refine Below.trans ?_ (Below.mono (by with_reducible assumption) ?_)) | go_size | (dsimp only; omega)))⟩
set_option maxHeartbeats 1000000 in
theorem impl_CellText_0 (a b : Int) (w : World) (h : cOk 0 a b = true) (ht : Hid (Pow w)) :
    Calls Tryd.prog 26 #[.agg #[.int .i64 0, .int .i64 a, .int .i64 b]] w fun e w' => e = .returned (.string (ctx 0 a b)) ∧ Below w.heap.size w w' := by
  have HE := Lib.hid (ctx_0 h)
  obtain ⟨-, -, a0, a1, b0, b1, -⟩ := cOk_t h
  have HA := Lib.hid (I64r_small a0 a1)
  have hs := lt2
  have HT := ht
  clear ht
  go_enter Tryd.func26, Tryd.ntmps26
  go_wp2_with (first
    | (go_at_call 36; (with_reducible refine (impl_CellOk _ _ _ _).mono ?_); rintro e w1 ⟨rfl, hb1⟩; have hy1 := bsize hb1; (try simp at hy1); obtain ⟨hc1, hf1, hz1⟩ := bcell hb1 (b := w.heap.size) (by go_size))
    | (go_at_call 14; (with_reducible refine (impl_FormatInt _ _ ?_ ?_).mono ?_); (with_reducible assumption); exact Lib.hid (HT.out.below (B := w.heap.size) (by (repeat' (first | (with_reducible exact Below.refl _ _) | (with_reducible refine Below.setCell ?_ ?_ _) | (with_reducible refine Below.alloc ?_ ?_ _) | (with_reducible refine Below.drew ?_) | (with_reducible refine Below.drewN ?_ _) | (with_reducible refine Below.trans ?_ (Below.mono (by with_reducible assumption) ?_)) | go_size | (dsimp only; omega)))) (Nat.le_refl _)); rintro e w2 ⟨rfl, hb2⟩; have hy2 := bsize hb2; (try simp at hy2); obtain ⟨hc2, hf2, hz2⟩ := bcell hb2 (b := w.heap.size) (by go_size)))
  go_ret
  exact ⟨by rw [HE.out]; rfl, by (repeat' (first | (with_reducible exact Below.refl _ _) | (with_reducible refine Below.setCell ?_ ?_ _) | (with_reducible refine Below.alloc ?_ ?_ _) | (with_reducible refine Below.drew ?_) | (with_reducible refine Below.drewN ?_ _) | (with_reducible refine Below.trans ?_ (Below.mono (by with_reducible assumption) ?_)) | go_size | (dsimp only; omega)))⟩
set_option maxRecDepth 100000 in
set_option maxHeartbeats 2000000 in
theorem impl_CellText_1 (a b : Int) (w : World) (h : cOk 1 a b = true) (ht : Hid (Pow w)) :
    Calls Tryd.prog 26 #[.agg #[.int .i64 1, .int .i64 a, .int .i64 b]] w fun e w' => e = .returned (.string (ctx 1 a b)) ∧ Below w.heap.size w w' := by
  have HE := Lib.hid (ctx_1 h)
  obtain ⟨-, -, a0, a1, b0, b1, -⟩ := cOk_t h
  have HA := Lib.hid (I64r_small a0 a1)
  have HB := Lib.hid (I64r_small b0 b1)
  have za := itoa_one a0 a1
  have zb := itoa_one b0 b1
  have hs := lt2
  have HT := ht
  clear ht
  go_enter Tryd.func26, Tryd.ntmps26
  go_wp2_with (go_at_call 36; (with_reducible refine (impl_CellOk _ _ _ _).mono ?_); rintro e w1 ⟨rfl, hb1⟩; have hy1 := bsize hb1; (try simp at hy1); obtain ⟨hc1, hf1, hz1⟩ := bcell hb1 (b := w.heap.size) (by go_size))

  go_region_held3 (fun w' => w'.cell? ⟨w.heap.size, 1, none⟩ = some (.int .i64 a) ∧ w'.cell? ⟨w.heap.size, 2, none⟩ = some (.int .i64 b)) (go_keep) (first
    | (go_at_call 14; (with_reducible refine (impl_FormatInt _ _ ?_ ?_).mono ?_); (with_reducible assumption); exact Lib.hid (HT.out.below (B := w.heap.size) (by (repeat' (first | (with_reducible exact Below.refl _ _) | (with_reducible refine Below.setCell ?_ ?_ _) | (with_reducible refine Below.alloc ?_ ?_ _) | (with_reducible refine Below.drew ?_) | (with_reducible refine Below.drewN ?_ _) | (with_reducible refine Below.trans ?_ (Below.mono (by with_reducible assumption) ?_)) | go_size | (dsimp only; omega)))) (Nat.le_refl _)); rintro e w2 ⟨rfl, hb2⟩; have hy2 := bsize hb2; (try simp at hy2); obtain ⟨hc2, hf2, hz2⟩ := bcell hb2 (b := w.heap.size) (by go_size)))
  all_goals
    go_wp2
    go_ret
    exact ⟨by rw [HE.out]; rfl, by (repeat' (first | (with_reducible exact Below.refl _ _) | (with_reducible refine Below.setCell ?_ ?_ _) | (with_reducible refine Below.alloc ?_ ?_ _) | (with_reducible refine Below.drew ?_) | (with_reducible refine Below.drewN ?_ _) | (with_reducible refine Below.trans ?_ (Below.mono (by with_reducible assumption) ?_)) | go_size | (dsimp only; omega)))⟩
set_option maxRecDepth 100000 in
set_option maxHeartbeats 2000000 in
theorem impl_CellText_2 (a b : Int) (w : World) (h : cOk 2 a b = true) (ht : Hid (Pow w)) :
    Calls Tryd.prog 26 #[.agg #[.int .i64 2, .int .i64 a, .int .i64 b]] w fun e w' => e = .returned (.string (ctx 2 a b)) ∧ Below w.heap.size w w' := by
  have HE := Lib.hid (ctx_2 h)
  obtain ⟨-, -, a0, a1, b0, b1, -⟩ := cOk_t h
  have HA := Lib.hid (I64r_small a0 a1)
  have HB := Lib.hid (I64r_small b0 b1)
  have za := itoa_one a0 a1
  have zb := itoa_one b0 b1
  have hs := lt2
  have HT := ht
  clear ht
  go_enter Tryd.func26, Tryd.ntmps26
  go_wp2_with (go_at_call 36; (with_reducible refine (impl_CellOk _ _ _ _).mono ?_); rintro e w1 ⟨rfl, hb1⟩; have hy1 := bsize hb1; (try simp at hy1); obtain ⟨hc1, hf1, hz1⟩ := bcell hb1 (b := w.heap.size) (by go_size))

  go_region_held3 (fun w' => w'.cell? ⟨w.heap.size, 1, none⟩ = some (.int .i64 a) ∧ w'.cell? ⟨w.heap.size, 2, none⟩ = some (.int .i64 b)) (go_keep) (first
    | (go_at_call 14; (with_reducible refine (impl_FormatInt _ _ ?_ ?_).mono ?_); (with_reducible assumption); exact Lib.hid (HT.out.below (B := w.heap.size) (by (repeat' (first | (with_reducible exact Below.refl _ _) | (with_reducible refine Below.setCell ?_ ?_ _) | (with_reducible refine Below.alloc ?_ ?_ _) | (with_reducible refine Below.drew ?_) | (with_reducible refine Below.drewN ?_ _) | (with_reducible refine Below.trans ?_ (Below.mono (by with_reducible assumption) ?_)) | go_size | (dsimp only; omega)))) (Nat.le_refl _)); rintro e w2 ⟨rfl, hb2⟩; have hy2 := bsize hb2; (try simp at hy2); obtain ⟨hc2, hf2, hz2⟩ := bcell hb2 (b := w.heap.size) (by go_size)))
  all_goals
    go_wp2
    go_ret
    exact ⟨by rw [HE.out]; rfl, by (repeat' (first | (with_reducible exact Below.refl _ _) | (with_reducible refine Below.setCell ?_ ?_ _) | (with_reducible refine Below.alloc ?_ ?_ _) | (with_reducible refine Below.drew ?_) | (with_reducible refine Below.drewN ?_ _) | (with_reducible refine Below.trans ?_ (Below.mono (by with_reducible assumption) ?_)) | go_size | (dsimp only; omega)))⟩
theorem impl_CellText (s a b : Int) (w : World) (ht : Hid (Pow w)) :
    Calls Tryd.prog 26 #[.agg #[.int .i64 s, .int .i64 a, .int .i64 b]] w fun e w' => e = .returned (.string (ctx s a b)) ∧ Below w.heap.size w w' := by
  cases h : cOk s a b with
  | false => exact impl_CellText_no s a b w h
  | true =>
    obtain ⟨s0, s1, _⟩ := cOk_t h
    rcases (show s = 0 ∨ s = 1 ∨ s = 2 by omega) with rfl | rfl | rfl
    · exact impl_CellText_0 a b w h ht
    · exact impl_CellText_1 a b w h ht
    · exact impl_CellText_2 a b w h ht

set_option maxHeartbeats 1000000 in
theorem walk_FnExactCellText (s a b : Int) (w : World) (hI : I64 s ∧ I64 a ∧ I64 b) (ht : Pow w) :
    Calls Tryd.prog 8 #[.agg #[.int .i64 s, .int .i64 a, .int .i64 b]] w fun e w' => e = .returned (.bool true) ∧ Below w.heap.size w w' := by
  have HT := Lib.hid ht
  obtain ⟨t, hts⟩ : ∃ t, t = ctx s a b := ⟨_, rfl⟩
  have HTS := Lib.hid hts
  clear ht hts hI
  have hs := lt2
  go_enter Tryd.func8, Tryd.ntmps8
  go_wp2_with fail
  refine (laws_toCell _ _ _ _).mono ?_
  rintro e w1 ⟨rfl, hb1⟩
  have hy1 := bsize hb1
  try simp at hy1
  obtain ⟨hc1, hf1, hz1⟩ := bcell hb1 (b := w.heap.size) (by go_size)
  go_wp2_with fail
  refine (spec_CellText _ _ _ _).mono ?_
  rintro e w2 ⟨rfl, hb2⟩
  rw [← HTS.out]
  have hy2 := bsize hb2
  try simp at hy2
  obtain ⟨hc2, hf2, hz2⟩ := bcell hb2 (b := w.heap.size) (by go_size)
  go_wp2_with fail
  refine (laws_toCell _ _ _ _).mono ?_
  rintro e w3 ⟨rfl, hb3⟩
  have hy3 := bsize hb3
  try simp at hy3
  obtain ⟨hc3, hf3, hz3⟩ := bcell hb3 (b := w.heap.size) (by go_size)
  go_wp2_with fail
  refine (impl_CellText _ _ _ _ (Lib.hid (HT.out.below (B := w.heap.size) (by (repeat' (first | (with_reducible exact Below.refl _ _) | (with_reducible refine Below.setCell ?_ ?_ _) | (with_reducible refine Below.alloc ?_ ?_ _) | (with_reducible refine Below.drew ?_) | (with_reducible refine Below.drewN ?_ _) | (with_reducible refine Below.trans ?_ (Below.mono (by with_reducible assumption) ?_)) | go_size | (dsimp only; omega)))) (Nat.le_refl _)))).mono ?_
  rintro e w4 ⟨rfl, hb4⟩
  rw [← HTS.out]
  have hy4 := bsize hb4
  try simp at hy4
  go_wp2
  go_ret
  exact ⟨rfl, by (repeat' (first | (with_reducible exact Below.refl _ _) | (with_reducible refine Below.setCell ?_ ?_ _) | (with_reducible refine Below.alloc ?_ ?_ _) | (with_reducible refine Below.drew ?_) | (with_reducible refine Below.drewN ?_ _) | (with_reducible refine Below.trans ?_ (Below.mono (by with_reducible assumption) ?_)) | go_size | (dsimp only; omega)))⟩
end Go.Proofs.YteoddpdjhkbaiaaDoor
