/- The law FnCells returns true where the library's listed variables read as their text lays them. -/
import Derived.Test.YteoddpdjhkbaiaaDoorKc
import Derived.Test.YteoddpdjhkbaiaaDoorYc
import Derived.Test.YteoddpdjhkbaiaaDoorR3
import Derived.Lib.QuietBelow
import Derived.BigQuiet
set_option linter.unusedSimpArgs false
set_option linter.unusedVariables false
set_option maxRecDepth 100000
namespace Go.Proofs.YteoddpdjhkbaiaaDoor
open Go.RowKit

set_option maxHeartbeats 1000000 in
theorem spec_DrawCell (A : Option Addr) (n c : Nat) (w : World) (h : RdB w w.heap.size A n) :
    Calls Tryd.prog 32 #[.slice A n c] w fun e w' => ∃ x : C, cOk x.s x.a x.b = true ∧ e = .returned (.agg #[.int .i64 x.s, .int .i64 x.a, .int .i64 x.b]) ∧ Below w.heap.size w w' := by
  have H := Lib.hid (h.below ((Below.refl _ _).alloc (Nat.le_refl _) (.cells #[.int .i64 0, .int .i64 0, .int .i64 0] 40)))
  clear h
  go_enter Tryd.func32, Tryd.ntmps32
  go_wp2_with fail
  refine (spec_l01New w.heap.size _ _ _ _ (by simp) H.out).mono ?_
  rintro e w0 ⟨g, rfl, hg, hc, hb⟩
  have hsz0 := hb.size
  simp only [World.size_alloc] at hg hsz0
  obtain ⟨kc0, kf0, _⟩ := bcell hb (b := w.heap.size) (by simp)
  have HC := Lib.hid hc
  have HB := Lib.hid (show Below w.heap.size w w0 from ((Below.refl _ _).alloc (Nat.le_refl _) _).trans (hb.mono (by simp)))
  clear hc hb
  go_wp2_with fail
  refine (spec_l02Cell _ _ _ _ _ _ HC.out).mono ?_
  rintro e w4 ⟨q, hq, rfl, hc4, hg4⟩
  have HQ := Lib.hid hq
  have HB4 := Lib.hid (HB.out.grown hg4 HB.out.size (fun k e => by cases e; omega))
  obtain ⟨kc, kf⟩ := cellG hg4 (b := w.heap.size) (by omega) (by omega)
  have c0 : w4.cell? ⟨w.heap.size, 0, none⟩ = some (.int .i64 0) := (kc 0).trans ((kc0 0).trans (by rw [World.cell?_alloc_new]; rfl))
  have c1 : w4.cell? ⟨w.heap.size, 1, none⟩ = some (.int .i64 0) := (kc 1).trans ((kc0 1).trans (by rw [World.cell?_alloc_new]; rfl))
  have c2 : w4.cell? ⟨w.heap.size, 2, none⟩ = some (.int .i64 0) := (kc 2).trans ((kc0 2).trans (by rw [World.cell?_alloc_new]; rfl))
  have cf : ∀ o, w4.frozen? ⟨w.heap.size, o, none⟩ = false := fun o => (kf o).trans ((kf0 o).trans (by simp [go_sem]))
  clear kc kf kc0 kf0 hq hc4 hg4
  go_wp2
  refine bodyPost_ret (v := .agg #[.int .i64 q.s, .int .i64 q.a, .int .i64 q.b]) (by simp [results, Tryd.results32, go_sem, *]; try rfl) rfl ?_
  refine ⟨q, HQ.out, rfl, ?_⟩
  (repeat' (first | with_reducible exact HB4.out | with_reducible refine Below.setCell ?_ ?_ _ | (dsimp only; omega)))

set_option maxHeartbeats 400000 in
theorem laws_btoi_t (w : World) : Calls Tryd.prog 34 #[.bool true] w fun e w' => e = .returned (.int .i64 1) ∧ w' = w := by
  go_enter Tryd.func34, Tryd.ntmps34
  go_wp2
  go_ret
  exact ⟨rfl, rfl⟩
set_option maxHeartbeats 400000 in
theorem laws_btoi_f (w : World) : Calls Tryd.prog 34 #[.bool false] w fun e w' => e = .returned (.int .i64 0) ∧ w' = w := by
  go_enter Tryd.func34, Tryd.ntmps34
  go_wp2
  go_ret
  exact ⟨rfl, rfl⟩
theorem color_at {s a b k : Int} (h : cOk s a b = true) (h0 : 0 ≤ k) (h1 : k ≤ 3) : colorC s a b k = if k = 0 ∨ (k = 1 ∧ s = 1) ∨ (k = 3 ∧ s = 2) then a else b := by
  unfold colorC; rw [h, inB_t h0 h1]; rfl
theorem split_ok {s a b : Int} (h : cOk s a b = true) : splitC s a b = ⟨s, a, b⟩ := by
  obtain ⟨s0, s1, a0, a1, b0, b1, hi⟩ := cOk_t h
  unfold splitC
  by_cases hab : a = b
  · rw [if_pos hab]
    obtain rfl : s = 0 := hi.2 hab
    subst hab
    unfold wholeC
    rw [inB_t a0 a1]; rfl
  · rw [if_neg hab, h, if_pos rfl]
theorem whole_ok {a : Int} (h0 : 0 ≤ a) (h1 : a ≤ 5) : wholeC a = ⟨0, a, a⟩ := by unfold wholeC; rw [inB_t h0 h1]; rfl
theorem ctx_sz0 {a b : Int} (h : cOk 0 a b = true) : (ctx 0 a b).size = 1 := by
  obtain ⟨-, -, a0, a1, b0, b1, -⟩ := cOk_t h
  rw [ctx_0 h, itoa_one a0 a1]
theorem ctx_sz1 {a b : Int} (h : cOk 1 a b = true) : (ctx 1 a b).size = 3 := by
  obtain ⟨-, -, a0, a1, b0, b1, -⟩ := cOk_t h
  rw [ctx_1 h, app_size, app_size, itoa_one a0 a1, itoa_one b0 b1]; rfl
theorem ctx_sz2 {a b : Int} (h : cOk 2 a b = true) : (ctx 2 a b).size = 3 := by
  obtain ⟨-, -, a0, a1, b0, b1, -⟩ := cOk_t h
  rw [ctx_2 h, app_size, app_size, itoa_one a0 a1, itoa_one b0 b1]; rfl
theorem itoa_dig {k : Nat} (h : k < 10) : itoaS (k : Int) = bstr [UInt8.ofNat (48 + k)] := by
  unfold itoaS Lib.itoa
  rw [if_neg (by omega), Int.toNat_natCast, Lib.decDigits, dif_pos h]; rfl
theorem ctx_two : ctx 1 2 1 = ⟨#[50, 47, 49]⟩ := by
  rw [ctx_1 (by decide), show (2 : Int) = ((2 : Nat) : Int) from rfl, show (1 : Int) = ((1 : Nat) : Int) from rfl, itoa_dig (by omega), itoa_dig (by omega)]
  apply ByteArray.ext
  rfl

theorem impl_SplitCell_ok {s a b : Int} (h : cOk s a b = true) (w : World) :
    Calls Tryd.prog 35 #[.int .i64 s, .int .i64 a, .int .i64 b] w fun e w' => e = .returned (.agg #[.int .i64 s, .int .i64 a, .int .i64 b]) ∧ Below w.heap.size w w' := by
  have h2 := impl_SplitCell s a b w
  rw [split_ok h] at h2
  exact h2
theorem impl_CellOk_ok {s a b : Int} (h : cOk s a b = true) (w : World) :
    Calls Tryd.prog 36 #[.agg #[.int .i64 s, .int .i64 a, .int .i64 b]] w fun e w' => e = .returned (.bool true) ∧ Below w.heap.size w w' := by
  have h2 := impl_CellOk s a b w
  rw [h] at h2
  exact h2
theorem impl_WholeCell_ok {a : Int} (h0 : 0 ≤ a) (h1 : a ≤ 5) (w : World) :
    Calls Tryd.prog 37 #[.int .i64 a] w fun e w' => e = .returned (.agg #[.int .i64 0, .int .i64 a, .int .i64 a]) ∧ Below w.heap.size w w' := by
  have h2 := impl_WholeCell a w
  rw [whole_ok h0 h1] at h2
  exact h2
set_option maxRecDepth 100000 in
set_option maxHeartbeats 4000000 in
theorem walk_FnCells (A : Option Addr) (n c : Nat) (w : World) (h : ArgB w A n) (ht : Pow w) :
    Calls Tryd.prog 10 #[.slice A n c] w fun e w' => e = .returned (.bool true) ∧ Below w.heap.size w w' := by
  have HA := Lib.hid h
  have HT := Lib.hid ht
  clear h ht
  by_cases hn : 1048576 < n
  · have E1 := Lib.hid (show decide (1048576 < n) = true by simpa using hn)
    go_enter Tryd.func10, Tryd.ntmps10
    go_wp2_with fail
    refine (laws_big _ _ _ _ HA.out.1).mono ?_
    rintro e w' ⟨rfl, rfl⟩
    rw [E1.out]
    go_wp2
    go_ret
    exact ⟨rfl, Below.refl _ _⟩
  · have E1 := Lib.hid (show decide (1048576 < n) = false by simpa using hn)
    go_enter Tryd.func10, Tryd.ntmps10
    go_wp2_with fail
    refine (laws_big _ _ _ _ HA.out.1).mono ?_
    rintro e w' ⟨rfl, rfl⟩
    rw [E1.out]
    go_wp2_with fail
    refine (spec_DrawCell _ _ _ _ (HA.out.2 (by omega))).mono ?_
    rintro e w1 ⟨⟨s, a, b⟩, hx, rfl, hb1⟩
    have HB1 := Lib.hid hb1
    have hy1 := hb1.size
    clear hb1
    dsimp only at hx
    have HK := Lib.hid hx
    obtain ⟨s0, s1, a0, a1, b0, b1, hi⟩ := cOk_t hx
    have HI := Lib.hid hi
    have q0 := color_at (k := 0) hx (by omega) (by omega)
    have q1 := color_at (k := 1) hx (by omega) (by omega)
    have q2 := color_at (k := 2) hx (by omega) (by omega)
    have q3 := color_at (k := 3) hx (by omega) (by omega)
    have Q0 := Lib.hid q0; have Q1 := Lib.hid q1; have Q2 := Lib.hid q2; have Q3 := Lib.hid q3
    clear q0 q1 q2 q3 hx hi
    go_wp2_with fail
    go_region_held3 (fun w' => w'.cell? ⟨w1.heap.size, 0, none⟩ = some (.int .i64 s) ∧ w'.cell? ⟨w1.heap.size, 1, none⟩ = some (.int .i64 a) ∧ w'.cell? ⟨w1.heap.size, 2, none⟩ = some (.int .i64 b)) (go_keep) (first
      | (go_at_call 33; (with_reducible refine (impl_ColorAt _ _ _ _ _).mono ?_); rintro e w2 ⟨rfl, hb2⟩; have hy2 := bsize hb2; (try simp at hy2); obtain ⟨hc2, hf2, hz2⟩ := bcell hb2 (b := w1.heap.size) (by go_size))
      | fail)
    all_goals
      rename_i hh
      have hB1 := HB1.out
      have HBW := Lib.hid (show Below w.heap.size w w2 by (repeat' (first | (with_reducible exact Below.refl _ _) | (with_reducible refine Below.setCell ?_ ?_ _) | (with_reducible refine Below.alloc ?_ ?_ _) | (with_reducible refine Below.drew ?_) | (with_reducible refine Below.drewN ?_ _) | (with_reducible refine Below.trans ?_ (Below.mono (by with_reducible assumption) ?_)) | go_size | (dsimp only; omega))))
      have hwz : w1.heap.size < w2.heap.size := by omega
      clear hB1
    rcases (show s = 0 ∨ s = 1 ∨ s = 2 by omega) with rfl | rfl | rfl
    · obtain rfl : b = a := (HI.out.1 rfl).symm
      have r0 : colorC 0 b b 0 = b := by rw [Q0.out]; simp
      have r1 : colorC 0 b b 1 = b := by rw [Q1.out]; simp
      have r2 : colorC 0 b b 2 = b := by rw [Q2.out]; simp
      have r3 : colorC 0 b b 3 = b := by rw [Q3.out]; simp
      simp only [r0, r1, r2, r3] at hh ⊢
      clear r0 r1 r2 r3 Q0 Q1 Q2 Q3 HI
      have d0 : (w2.alloc (.cells #[.int .i64 b, .int .i64 b, .int .i64 b, .int .i64 b] 3)).cell? ⟨w2.heap.size, 0, none⟩ = some (.int .i64 b) := by rw [World.cell?_alloc_new]; rfl
      have d1 : (w2.alloc (.cells #[.int .i64 b, .int .i64 b, .int .i64 b, .int .i64 b] 3)).cell? ⟨w2.heap.size, 1, none⟩ = some (.int .i64 b) := by rw [World.cell?_alloc_new]; rfl
      have d2 : (w2.alloc (.cells #[.int .i64 b, .int .i64 b, .int .i64 b, .int .i64 b] 3)).cell? ⟨w2.heap.size, 2, none⟩ = some (.int .i64 b) := by rw [World.cell?_alloc_new]; rfl
      have d3 : (w2.alloc (.cells #[.int .i64 b, .int .i64 b, .int .i64 b, .int .i64 b] 3)).cell? ⟨w2.heap.size, 3, none⟩ = some (.int .i64 b) := by rw [World.cell?_alloc_new]; rfl
      have hG : w2.heap.size < (w2.alloc (.cells #[.int .i64 b, .int .i64 b, .int .i64 b, .int .i64 b] 3)).heap.size := by simp
      have hX : w1.heap.size < w2.heap.size := by omega
      have HB5 := Lib.hid (HBW.out.alloc HBW.out.size (.cells #[.int .i64 b, .int .i64 b, .int .i64 b, .int .i64 b] 3))
      obtain ⟨x0, x1, x2⟩ := hh
      generalize w2.alloc (.cells #[.int .i64 b, .int .i64 b, .int .i64 b, .int .i64 b] 3) = W5 at *
      clear HBW
      have X0 := Lib.hid x0; have X1 := Lib.hid x1; have X2 := Lib.hid x2; have D0 := Lib.hid d0; have D1 := Lib.hid d1; have D2 := Lib.hid d2; have D3 := Lib.hid d3
      clear x0 x1 x2 d0 d1 d2 d3
      go_wp2_with fail
      go_loopw [5, 6] (fun v i wr => ((i = .int .i64 0 ∧ v = .int .i64 0) ∨ (i = .int .i64 1 ∧ v = .int .i64 1) ∨ (i = .int .i64 2 ∧ v = .int .i64 2) ∨ (i = .int .i64 3 ∧ v = .int .i64 3) ∨ (i = .int .i64 4 ∧ v = .int .i64 4)) ∧ Hid (Below W5.heap.size W5 wr)) (fun _ i _ => 4 - (intOf i).toNat)
      case atStart => exact ⟨.inl ⟨rfl, rfl⟩, Below.refl _ _⟩
      case round =>
        obtain ⟨hv, hb⟩ := hrel
        have x0 : wr.cell? ⟨w1.heap.size, 0, none⟩ = some (.int .i64 0) := (hb.out.cell (p := ⟨w1.heap.size, 0, none⟩) (by dsimp only; omega)).trans X0.out
        have x1 : wr.cell? ⟨w1.heap.size, 1, none⟩ = some (.int .i64 b) := (hb.out.cell (p := ⟨w1.heap.size, 1, none⟩) (by dsimp only; omega)).trans X1.out
        have x2 : wr.cell? ⟨w1.heap.size, 2, none⟩ = some (.int .i64 b) := (hb.out.cell (p := ⟨w1.heap.size, 2, none⟩) (by dsimp only; omega)).trans X2.out
        have d0 : wr.cell? ⟨w2.heap.size, 0, none⟩ = some (.int .i64 b) := (hb.out.cell (p := ⟨w2.heap.size, 0, none⟩) (by dsimp only; omega)).trans D0.out
        have d1 : wr.cell? ⟨w2.heap.size, 1, none⟩ = some (.int .i64 b) := (hb.out.cell (p := ⟨w2.heap.size, 1, none⟩) (by dsimp only; omega)).trans D1.out
        have d2 : wr.cell? ⟨w2.heap.size, 2, none⟩ = some (.int .i64 b) := (hb.out.cell (p := ⟨w2.heap.size, 2, none⟩) (by dsimp only; omega)).trans D2.out
        have d3 : wr.cell? ⟨w2.heap.size, 3, none⟩ = some (.int .i64 b) := (hb.out.cell (p := ⟨w2.heap.size, 3, none⟩) (by dsimp only; omega)).trans D3.out
        rcases hv with ⟨rfl, rfl⟩ | ⟨rfl, rfl⟩ | ⟨rfl, rfl⟩ | ⟨rfl, rfl⟩ | ⟨rfl, rfl⟩
        · go_wp2_with fail
          go_quiet ((go_at_call 34; exact Calls.quiet_of_same (laws_btoi_t _)))
          go_wp2_with fail
          go_quiet (fail)
          go_wp2
          go_roundw
          case rel => exact ⟨.inr (.inl ⟨rfl, rfl⟩), hb.out.drewN _⟩
          case measure => simp [intOf]
        · go_wp2_with fail
          go_quiet ((go_at_call 34; exact Calls.quiet_of_same (laws_btoi_t _)))
          go_wp2_with fail
          go_quiet (fail)
          go_wp2
          go_roundw
          case rel => exact ⟨.inr (.inr (.inl ⟨rfl, rfl⟩)), hb.out.drewN _⟩
          case measure => simp [intOf]
        · go_wp2_with fail
          go_quiet ((go_at_call 34; exact Calls.quiet_of_same (laws_btoi_t _)))
          go_wp2_with fail
          go_quiet (fail)
          go_wp2
          go_roundw
          case rel => exact ⟨.inr (.inr (.inr (.inl ⟨rfl, rfl⟩))), hb.out.drewN _⟩
          case measure => simp [intOf]
        · go_wp2_with fail
          go_quiet ((go_at_call 34; exact Calls.quiet_of_same (laws_btoi_t _)))
          go_wp2_with fail
          go_quiet (fail)
          go_wp2
          go_roundw
          case rel => exact ⟨.inr (.inr (.inr (.inr ⟨rfl, rfl⟩))), hb.out.drewN _⟩
          case measure => simp [intOf]
        · have HY := Lib.hid (HB5.out.trans (hb.out.mono HB5.out.size))
          have hyr := hb.out.size
          have z1 := ctx_sz0 HK.out
          have hct := ctx_two
          go_wp2_with fail
          refine (impl_SplitCell_ok HK.out _).mono ?_
          rintro e w6 ⟨rfl, hb6⟩
          have hy6 := bsize hb6
          obtain ⟨hc6, hf6, hz6⟩ := bcell hb6 (b := w1.heap.size) (by omega)
          obtain ⟨hd6, hg6, hw6⟩ := bcell hb6 (b := w2.heap.size) (by omega)
          have hY6 := HY.out.trans (hb6.mono HY.out.size)
          go_wp2_with fail
          refine (impl_CellText _ _ _ _ (Lib.hid (HT.out.below (B := w.heap.size) (by (repeat' (first | (with_reducible exact Below.refl _ _) | (with_reducible refine Below.setCell ?_ ?_ _) | (with_reducible refine Below.alloc ?_ ?_ _) | (with_reducible refine Below.drew ?_) | (with_reducible refine Below.drewN ?_ _) | (with_reducible refine Below.trans ?_ (Below.mono (by with_reducible assumption) ?_)) | go_size | (dsimp only; omega)))) (Nat.le_refl _)))).mono ?_
          rintro e w7 ⟨rfl, hb7⟩
          have hy7 := bsize hb7
          try simp at hy7
          obtain ⟨hc7, hf7, hz7⟩ := bcell hb7 (b := w1.heap.size) (by go_size)
          obtain ⟨hd7, hg7, hw7⟩ := bcell hb7 (b := w2.heap.size) (by go_size)
          obtain ⟨he7, hh7, hv7⟩ := bcell hb7 (b := w6.heap.size) (by go_size)
          have HW7 := Lib.hid (show Below w.heap.size w w7 by (repeat' (first | (with_reducible exact Below.refl _ _) | (with_reducible refine Below.setCell ?_ ?_ _) | (with_reducible refine Below.alloc ?_ ?_ _) | (with_reducible refine Below.drew ?_) | (with_reducible refine Below.drewN ?_ _) | (with_reducible refine Below.trans ?_ (Below.mono (by with_reducible assumption) ?_)) | go_size | (dsimp only; omega))))
          have m_x0 : ∀ d os, (Sort.grow (redrawn w7 d) os).cell? ⟨w1.heap.size, 0, none⟩ = some (.int .i64 0) := fun d os => cell_regrown ((hc7 0).trans ((World.cell?_alloc_lt _ _ _ (by go_size)).trans ((hc6 0).trans x0))) d os
          have m_x1 : ∀ d os, (Sort.grow (redrawn w7 d) os).cell? ⟨w1.heap.size, 1, none⟩ = some (.int .i64 b) := fun d os => cell_regrown ((hc7 1).trans ((World.cell?_alloc_lt _ _ _ (by go_size)).trans ((hc6 1).trans x1))) d os
          have m_x2 : ∀ d os, (Sort.grow (redrawn w7 d) os).cell? ⟨w1.heap.size, 2, none⟩ = some (.int .i64 b) := fun d os => cell_regrown ((hc7 2).trans ((World.cell?_alloc_lt _ _ _ (by go_size)).trans ((hc6 2).trans x2))) d os
          have m_g0 : ∀ d os, (Sort.grow (redrawn w7 d) os).cell? ⟨w2.heap.size, 0, none⟩ = some (.int .i64 b) := fun d os => cell_regrown ((hd7 0).trans ((World.cell?_alloc_lt _ _ _ (by go_size)).trans ((hd6 0).trans d0))) d os
          have m_g2 : ∀ d os, (Sort.grow (redrawn w7 d) os).cell? ⟨w2.heap.size, 2, none⟩ = some (.int .i64 b) := fun d os => cell_regrown ((hd7 2).trans ((World.cell?_alloc_lt _ _ _ (by go_size)).trans ((hd6 2).trans d2))) d os
          have m_y0 : ∀ d os, (Sort.grow (redrawn w7 d) os).cell? ⟨w6.heap.size, 0, none⟩ = some (.int .i64 0) := fun d os => cell_regrown ((he7 0).trans (by rw [World.cell?_alloc_new]; rfl)) d os
          have m_y1 : ∀ d os, (Sort.grow (redrawn w7 d) os).cell? ⟨w6.heap.size, 1, none⟩ = some (.int .i64 b) := fun d os => cell_regrown ((he7 1).trans (by rw [World.cell?_alloc_new]; rfl)) d os
          have m_y2 : ∀ d os, (Sort.grow (redrawn w7 d) os).cell? ⟨w6.heap.size, 2, none⟩ = some (.int .i64 b) := fun d os => cell_regrown ((he7 2).trans (by rw [World.cell?_alloc_new]; rfl)) d os
          clear hc6 hf6 hd6 hg6 hc7 hf7 hd7 hg7 he7 hh7 hb6 hb7 hY6 x0 x1 x2 d0 d1 d2 d3
          go_wp2_with fail
          simp only [List.append_eq, List.cons_append, List.nil_append]
          refine wp_region_quiet_below (by kernel_rfl) (by kernel_rfl) ?_
          repeat (first | go_big_quiet_step (first | (go_at_call 36; exact Calls.regrown_of (impl_CellOk_ok HK.out _)) | (go_at_call 37; exact Calls.regrown_of (impl_WholeCell_ok a0 a1 _)) | (go_at_call 26; exact Calls.regrown_of (impl_CellText _ _ _ _ (Lib.hid (HT.out.below (B := w.heap.size) (HW7.out.trans ((below_regrown w7 _ _).mono HW7.out.size)) (Nat.le_refl _)))))) | quiet_step (first | (go_at_call 36; exact Calls.regrown_of (impl_CellOk_ok HK.out _)) | (go_at_call 37; exact Calls.regrown_of (impl_WholeCell_ok a0 a1 _)) | (go_at_call 26; exact Calls.regrown_of (impl_CellText _ _ _ _ (Lib.hid (HT.out.below (B := w.heap.size) (HW7.out.trans ((below_regrown w7 _ _).mono HW7.out.size)) (Nat.le_refl _)))))))
          refine wpQuiet_nil ?_
          intro _ hw'
          obtain ⟨⟨dq, osq⟩, hw''⟩ := hw'
          subst hw''
          have HW8 := Lib.hid (HW7.out.trans ((below_regrown w7 dq osq).mono HW7.out.size))
          go_wp2
          go_ret
          exact ⟨rfl, HW8.out⟩
    · have hab : ¬ a = b := fun e => by have := HI.out.2 e; omega
      have qab : (a == b) = false := by rw [beq_eq_false_iff_ne]; exact hab
      have qba : (b == a) = false := by rw [beq_eq_false_iff_ne]; exact fun e => hab e.symm
      have nab : (a != b) = true := by rw [bne_iff_ne]; exact hab
      have nba : (b != a) = true := by rw [bne_iff_ne]; exact fun e => hab e.symm
      clear hab
      have r0 : colorC 1 a b 0 = a := by rw [Q0.out]; simp
      have r1 : colorC 1 a b 1 = a := by rw [Q1.out]; simp
      have r2 : colorC 1 a b 2 = b := by rw [Q2.out]; simp
      have r3 : colorC 1 a b 3 = b := by rw [Q3.out]; simp
      simp only [r0, r1, r2, r3] at hh ⊢
      clear r0 r1 r2 r3 Q0 Q1 Q2 Q3 HI
      have d0 : (w2.alloc (.cells #[.int .i64 a, .int .i64 a, .int .i64 b, .int .i64 b] 3)).cell? ⟨w2.heap.size, 0, none⟩ = some (.int .i64 a) := by rw [World.cell?_alloc_new]; rfl
      have d1 : (w2.alloc (.cells #[.int .i64 a, .int .i64 a, .int .i64 b, .int .i64 b] 3)).cell? ⟨w2.heap.size, 1, none⟩ = some (.int .i64 a) := by rw [World.cell?_alloc_new]; rfl
      have d2 : (w2.alloc (.cells #[.int .i64 a, .int .i64 a, .int .i64 b, .int .i64 b] 3)).cell? ⟨w2.heap.size, 2, none⟩ = some (.int .i64 b) := by rw [World.cell?_alloc_new]; rfl
      have d3 : (w2.alloc (.cells #[.int .i64 a, .int .i64 a, .int .i64 b, .int .i64 b] 3)).cell? ⟨w2.heap.size, 3, none⟩ = some (.int .i64 b) := by rw [World.cell?_alloc_new]; rfl
      have hG : w2.heap.size < (w2.alloc (.cells #[.int .i64 a, .int .i64 a, .int .i64 b, .int .i64 b] 3)).heap.size := by simp
      have hX : w1.heap.size < w2.heap.size := by omega
      have HB5 := Lib.hid (HBW.out.alloc HBW.out.size (.cells #[.int .i64 a, .int .i64 a, .int .i64 b, .int .i64 b] 3))
      obtain ⟨x0, x1, x2⟩ := hh
      generalize w2.alloc (.cells #[.int .i64 a, .int .i64 a, .int .i64 b, .int .i64 b] 3) = W5 at *
      clear HBW
      have X0 := Lib.hid x0; have X1 := Lib.hid x1; have X2 := Lib.hid x2; have D0 := Lib.hid d0; have D1 := Lib.hid d1; have D2 := Lib.hid d2; have D3 := Lib.hid d3
      clear x0 x1 x2 d0 d1 d2 d3
      go_wp2_with fail
      go_loopw [5, 6] (fun v i wr => ((i = .int .i64 0 ∧ v = .int .i64 0) ∨ (i = .int .i64 1 ∧ v = .int .i64 1) ∨ (i = .int .i64 2 ∧ v = .int .i64 1) ∨ (i = .int .i64 3 ∧ v = .int .i64 2) ∨ (i = .int .i64 4 ∧ v = .int .i64 2)) ∧ Hid (Below W5.heap.size W5 wr)) (fun _ i _ => 4 - (intOf i).toNat)
      case atStart => exact ⟨.inl ⟨rfl, rfl⟩, Below.refl _ _⟩
      case round =>
        obtain ⟨hv, hb⟩ := hrel
        have x0 : wr.cell? ⟨w1.heap.size, 0, none⟩ = some (.int .i64 1) := (hb.out.cell (p := ⟨w1.heap.size, 0, none⟩) (by dsimp only; omega)).trans X0.out
        have x1 : wr.cell? ⟨w1.heap.size, 1, none⟩ = some (.int .i64 a) := (hb.out.cell (p := ⟨w1.heap.size, 1, none⟩) (by dsimp only; omega)).trans X1.out
        have x2 : wr.cell? ⟨w1.heap.size, 2, none⟩ = some (.int .i64 b) := (hb.out.cell (p := ⟨w1.heap.size, 2, none⟩) (by dsimp only; omega)).trans X2.out
        have d0 : wr.cell? ⟨w2.heap.size, 0, none⟩ = some (.int .i64 a) := (hb.out.cell (p := ⟨w2.heap.size, 0, none⟩) (by dsimp only; omega)).trans D0.out
        have d1 : wr.cell? ⟨w2.heap.size, 1, none⟩ = some (.int .i64 a) := (hb.out.cell (p := ⟨w2.heap.size, 1, none⟩) (by dsimp only; omega)).trans D1.out
        have d2 : wr.cell? ⟨w2.heap.size, 2, none⟩ = some (.int .i64 b) := (hb.out.cell (p := ⟨w2.heap.size, 2, none⟩) (by dsimp only; omega)).trans D2.out
        have d3 : wr.cell? ⟨w2.heap.size, 3, none⟩ = some (.int .i64 b) := (hb.out.cell (p := ⟨w2.heap.size, 3, none⟩) (by dsimp only; omega)).trans D3.out
        rcases hv with ⟨rfl, rfl⟩ | ⟨rfl, rfl⟩ | ⟨rfl, rfl⟩ | ⟨rfl, rfl⟩ | ⟨rfl, rfl⟩
        · go_wp2_with fail
          go_quiet ((go_at_call 34; exact Calls.quiet_of_same (laws_btoi_t _)))
          go_wp2_with fail
          go_quiet (fail)
          go_wp2
          go_roundw
          case rel => exact ⟨.inr (.inl ⟨rfl, rfl⟩), hb.out.drewN _⟩
          case measure => simp [intOf]
        · go_wp2_with fail
          go_quiet ((go_at_call 34; exact Calls.quiet_of_same (laws_btoi_f _)))
          go_wp2_with fail
          go_quiet (fail)
          go_wp2
          go_roundw
          case rel => exact ⟨.inr (.inr (.inl ⟨rfl, rfl⟩)), hb.out.drewN _⟩
          case measure => simp [intOf]
        · go_wp2_with fail
          go_quiet ((go_at_call 34; exact Calls.quiet_of_same (laws_btoi_t _)))
          go_wp2_with fail
          go_quiet (fail)
          go_wp2
          go_roundw
          case rel => exact ⟨.inr (.inr (.inr (.inl ⟨rfl, rfl⟩))), hb.out.drewN _⟩
          case measure => simp [intOf]
        · go_wp2_with fail
          go_quiet ((go_at_call 34; exact Calls.quiet_of_same (laws_btoi_f _)))
          go_wp2_with fail
          go_quiet (fail)
          go_wp2
          go_roundw
          case rel => exact ⟨.inr (.inr (.inr (.inr ⟨rfl, rfl⟩))), hb.out.drewN _⟩
          case measure => simp [intOf]
        · have HY := Lib.hid (HB5.out.trans (hb.out.mono HB5.out.size))
          have hyr := hb.out.size
          have z1 := ctx_sz1 HK.out
          have hct := ctx_two
          go_wp2_with fail
          refine (impl_SplitCell_ok HK.out _).mono ?_
          rintro e w6 ⟨rfl, hb6⟩
          have hy6 := bsize hb6
          obtain ⟨hc6, hf6, hz6⟩ := bcell hb6 (b := w1.heap.size) (by omega)
          obtain ⟨hd6, hg6, hw6⟩ := bcell hb6 (b := w2.heap.size) (by omega)
          have hY6 := HY.out.trans (hb6.mono HY.out.size)
          go_wp2_with fail
          refine (impl_CellText _ _ _ _ (Lib.hid (HT.out.below (B := w.heap.size) (by (repeat' (first | (with_reducible exact Below.refl _ _) | (with_reducible refine Below.setCell ?_ ?_ _) | (with_reducible refine Below.alloc ?_ ?_ _) | (with_reducible refine Below.drew ?_) | (with_reducible refine Below.drewN ?_ _) | (with_reducible refine Below.trans ?_ (Below.mono (by with_reducible assumption) ?_)) | go_size | (dsimp only; omega)))) (Nat.le_refl _)))).mono ?_
          rintro e w7 ⟨rfl, hb7⟩
          have hy7 := bsize hb7
          try simp at hy7
          obtain ⟨hc7, hf7, hz7⟩ := bcell hb7 (b := w1.heap.size) (by go_size)
          obtain ⟨hd7, hg7, hw7⟩ := bcell hb7 (b := w2.heap.size) (by go_size)
          obtain ⟨he7, hh7, hv7⟩ := bcell hb7 (b := w6.heap.size) (by go_size)
          have HW7 := Lib.hid (show Below w.heap.size w w7 by (repeat' (first | (with_reducible exact Below.refl _ _) | (with_reducible refine Below.setCell ?_ ?_ _) | (with_reducible refine Below.alloc ?_ ?_ _) | (with_reducible refine Below.drew ?_) | (with_reducible refine Below.drewN ?_ _) | (with_reducible refine Below.trans ?_ (Below.mono (by with_reducible assumption) ?_)) | go_size | (dsimp only; omega))))
          have m_x0 : ∀ d os, (Sort.grow (redrawn w7 d) os).cell? ⟨w1.heap.size, 0, none⟩ = some (.int .i64 1) := fun d os => cell_regrown ((hc7 0).trans ((World.cell?_alloc_lt _ _ _ (by go_size)).trans ((hc6 0).trans x0))) d os
          have m_x1 : ∀ d os, (Sort.grow (redrawn w7 d) os).cell? ⟨w1.heap.size, 1, none⟩ = some (.int .i64 a) := fun d os => cell_regrown ((hc7 1).trans ((World.cell?_alloc_lt _ _ _ (by go_size)).trans ((hc6 1).trans x1))) d os
          have m_x2 : ∀ d os, (Sort.grow (redrawn w7 d) os).cell? ⟨w1.heap.size, 2, none⟩ = some (.int .i64 b) := fun d os => cell_regrown ((hc7 2).trans ((World.cell?_alloc_lt _ _ _ (by go_size)).trans ((hc6 2).trans x2))) d os
          have m_g0 : ∀ d os, (Sort.grow (redrawn w7 d) os).cell? ⟨w2.heap.size, 0, none⟩ = some (.int .i64 a) := fun d os => cell_regrown ((hd7 0).trans ((World.cell?_alloc_lt _ _ _ (by go_size)).trans ((hd6 0).trans d0))) d os
          have m_g2 : ∀ d os, (Sort.grow (redrawn w7 d) os).cell? ⟨w2.heap.size, 2, none⟩ = some (.int .i64 b) := fun d os => cell_regrown ((hd7 2).trans ((World.cell?_alloc_lt _ _ _ (by go_size)).trans ((hd6 2).trans d2))) d os
          have m_y0 : ∀ d os, (Sort.grow (redrawn w7 d) os).cell? ⟨w6.heap.size, 0, none⟩ = some (.int .i64 1) := fun d os => cell_regrown ((he7 0).trans (by rw [World.cell?_alloc_new]; rfl)) d os
          have m_y1 : ∀ d os, (Sort.grow (redrawn w7 d) os).cell? ⟨w6.heap.size, 1, none⟩ = some (.int .i64 a) := fun d os => cell_regrown ((he7 1).trans (by rw [World.cell?_alloc_new]; rfl)) d os
          have m_y2 : ∀ d os, (Sort.grow (redrawn w7 d) os).cell? ⟨w6.heap.size, 2, none⟩ = some (.int .i64 b) := fun d os => cell_regrown ((he7 2).trans (by rw [World.cell?_alloc_new]; rfl)) d os
          clear hc6 hf6 hd6 hg6 hc7 hf7 hd7 hg7 he7 hh7 hb6 hb7 hY6 x0 x1 x2 d0 d1 d2 d3
          go_wp2_with fail
          simp only [List.append_eq, List.cons_append, List.nil_append]
          refine wp_region_quiet_below (by kernel_rfl) (by kernel_rfl) ?_
          repeat (first | go_big_quiet_step (first | (go_at_call 36; exact Calls.regrown_of (impl_CellOk_ok HK.out _)) | (go_at_call 37; exact Calls.regrown_of (impl_WholeCell_ok a0 a1 _)) | (go_at_call 26; exact Calls.regrown_of (impl_CellText _ _ _ _ (Lib.hid (HT.out.below (B := w.heap.size) (HW7.out.trans ((below_regrown w7 _ _).mono HW7.out.size)) (Nat.le_refl _)))))) | quiet_step (first | (go_at_call 36; exact Calls.regrown_of (impl_CellOk_ok HK.out _)) | (go_at_call 37; exact Calls.regrown_of (impl_WholeCell_ok a0 a1 _)) | (go_at_call 26; exact Calls.regrown_of (impl_CellText _ _ _ _ (Lib.hid (HT.out.below (B := w.heap.size) (HW7.out.trans ((below_regrown w7 _ _).mono HW7.out.size)) (Nat.le_refl _)))))))
          refine wpQuiet_nil ?_
          intro _ hw'
          obtain ⟨⟨dq, osq⟩, hw''⟩ := hw'
          subst hw''
          have HW8 := Lib.hid (HW7.out.trans ((below_regrown w7 dq osq).mono HW7.out.size))
          go_wp2
          go_ret
          exact ⟨rfl, HW8.out⟩
    · have hab : ¬ a = b := fun e => by have := HI.out.2 e; omega
      have qab : (a == b) = false := by rw [beq_eq_false_iff_ne]; exact hab
      have qba : (b == a) = false := by rw [beq_eq_false_iff_ne]; exact fun e => hab e.symm
      have nab : (a != b) = true := by rw [bne_iff_ne]; exact hab
      have nba : (b != a) = true := by rw [bne_iff_ne]; exact fun e => hab e.symm
      clear hab
      have r0 : colorC 2 a b 0 = a := by rw [Q0.out]; simp
      have r1 : colorC 2 a b 1 = b := by rw [Q1.out]; simp
      have r2 : colorC 2 a b 2 = b := by rw [Q2.out]; simp
      have r3 : colorC 2 a b 3 = a := by rw [Q3.out]; simp
      simp only [r0, r1, r2, r3] at hh ⊢
      clear r0 r1 r2 r3 Q0 Q1 Q2 Q3 HI
      have d0 : (w2.alloc (.cells #[.int .i64 a, .int .i64 b, .int .i64 b, .int .i64 a] 3)).cell? ⟨w2.heap.size, 0, none⟩ = some (.int .i64 a) := by rw [World.cell?_alloc_new]; rfl
      have d1 : (w2.alloc (.cells #[.int .i64 a, .int .i64 b, .int .i64 b, .int .i64 a] 3)).cell? ⟨w2.heap.size, 1, none⟩ = some (.int .i64 b) := by rw [World.cell?_alloc_new]; rfl
      have d2 : (w2.alloc (.cells #[.int .i64 a, .int .i64 b, .int .i64 b, .int .i64 a] 3)).cell? ⟨w2.heap.size, 2, none⟩ = some (.int .i64 b) := by rw [World.cell?_alloc_new]; rfl
      have d3 : (w2.alloc (.cells #[.int .i64 a, .int .i64 b, .int .i64 b, .int .i64 a] 3)).cell? ⟨w2.heap.size, 3, none⟩ = some (.int .i64 a) := by rw [World.cell?_alloc_new]; rfl
      have hG : w2.heap.size < (w2.alloc (.cells #[.int .i64 a, .int .i64 b, .int .i64 b, .int .i64 a] 3)).heap.size := by simp
      have hX : w1.heap.size < w2.heap.size := by omega
      have HB5 := Lib.hid (HBW.out.alloc HBW.out.size (.cells #[.int .i64 a, .int .i64 b, .int .i64 b, .int .i64 a] 3))
      obtain ⟨x0, x1, x2⟩ := hh
      generalize w2.alloc (.cells #[.int .i64 a, .int .i64 b, .int .i64 b, .int .i64 a] 3) = W5 at *
      clear HBW
      have X0 := Lib.hid x0; have X1 := Lib.hid x1; have X2 := Lib.hid x2; have D0 := Lib.hid d0; have D1 := Lib.hid d1; have D2 := Lib.hid d2; have D3 := Lib.hid d3
      clear x0 x1 x2 d0 d1 d2 d3
      go_wp2_with fail
      go_loopw [5, 6] (fun v i wr => ((i = .int .i64 0 ∧ v = .int .i64 0) ∨ (i = .int .i64 1 ∧ v = .int .i64 0) ∨ (i = .int .i64 2 ∧ v = .int .i64 1) ∨ (i = .int .i64 3 ∧ v = .int .i64 1) ∨ (i = .int .i64 4 ∧ v = .int .i64 2)) ∧ Hid (Below W5.heap.size W5 wr)) (fun _ i _ => 4 - (intOf i).toNat)
      case atStart => exact ⟨.inl ⟨rfl, rfl⟩, Below.refl _ _⟩
      case round =>
        obtain ⟨hv, hb⟩ := hrel
        have x0 : wr.cell? ⟨w1.heap.size, 0, none⟩ = some (.int .i64 2) := (hb.out.cell (p := ⟨w1.heap.size, 0, none⟩) (by dsimp only; omega)).trans X0.out
        have x1 : wr.cell? ⟨w1.heap.size, 1, none⟩ = some (.int .i64 a) := (hb.out.cell (p := ⟨w1.heap.size, 1, none⟩) (by dsimp only; omega)).trans X1.out
        have x2 : wr.cell? ⟨w1.heap.size, 2, none⟩ = some (.int .i64 b) := (hb.out.cell (p := ⟨w1.heap.size, 2, none⟩) (by dsimp only; omega)).trans X2.out
        have d0 : wr.cell? ⟨w2.heap.size, 0, none⟩ = some (.int .i64 a) := (hb.out.cell (p := ⟨w2.heap.size, 0, none⟩) (by dsimp only; omega)).trans D0.out
        have d1 : wr.cell? ⟨w2.heap.size, 1, none⟩ = some (.int .i64 b) := (hb.out.cell (p := ⟨w2.heap.size, 1, none⟩) (by dsimp only; omega)).trans D1.out
        have d2 : wr.cell? ⟨w2.heap.size, 2, none⟩ = some (.int .i64 b) := (hb.out.cell (p := ⟨w2.heap.size, 2, none⟩) (by dsimp only; omega)).trans D2.out
        have d3 : wr.cell? ⟨w2.heap.size, 3, none⟩ = some (.int .i64 a) := (hb.out.cell (p := ⟨w2.heap.size, 3, none⟩) (by dsimp only; omega)).trans D3.out
        rcases hv with ⟨rfl, rfl⟩ | ⟨rfl, rfl⟩ | ⟨rfl, rfl⟩ | ⟨rfl, rfl⟩ | ⟨rfl, rfl⟩
        · go_wp2_with fail
          go_quiet ((go_at_call 34; exact Calls.quiet_of_same (laws_btoi_f _)))
          go_wp2_with fail
          go_quiet (fail)
          go_wp2
          go_roundw
          case rel => exact ⟨.inr (.inl ⟨rfl, rfl⟩), hb.out.drewN _⟩
          case measure => simp [intOf]
        · go_wp2_with fail
          go_quiet ((go_at_call 34; exact Calls.quiet_of_same (laws_btoi_t _)))
          go_wp2_with fail
          go_quiet (fail)
          go_wp2
          go_roundw
          case rel => exact ⟨.inr (.inr (.inl ⟨rfl, rfl⟩)), hb.out.drewN _⟩
          case measure => simp [intOf]
        · go_wp2_with fail
          go_quiet ((go_at_call 34; exact Calls.quiet_of_same (laws_btoi_f _)))
          go_wp2_with fail
          go_quiet (fail)
          go_wp2
          go_roundw
          case rel => exact ⟨.inr (.inr (.inr (.inl ⟨rfl, rfl⟩))), hb.out.drewN _⟩
          case measure => simp [intOf]
        · go_wp2_with fail
          go_quiet ((go_at_call 34; exact Calls.quiet_of_same (laws_btoi_t _)))
          go_wp2_with fail
          go_quiet (fail)
          go_wp2
          go_roundw
          case rel => exact ⟨.inr (.inr (.inr (.inr ⟨rfl, rfl⟩))), hb.out.drewN _⟩
          case measure => simp [intOf]
        · have HY := Lib.hid (HB5.out.trans (hb.out.mono HB5.out.size))
          have hyr := hb.out.size
          have z1 := ctx_sz2 HK.out
          have hct := ctx_two
          go_wp2_with fail
          refine (impl_SplitCell_ok HK.out _).mono ?_
          rintro e w6 ⟨rfl, hb6⟩
          have hy6 := bsize hb6
          obtain ⟨hc6, hf6, hz6⟩ := bcell hb6 (b := w1.heap.size) (by omega)
          obtain ⟨hd6, hg6, hw6⟩ := bcell hb6 (b := w2.heap.size) (by omega)
          have hY6 := HY.out.trans (hb6.mono HY.out.size)
          go_wp2_with fail
          refine (impl_CellText _ _ _ _ (Lib.hid (HT.out.below (B := w.heap.size) (by (repeat' (first | (with_reducible exact Below.refl _ _) | (with_reducible refine Below.setCell ?_ ?_ _) | (with_reducible refine Below.alloc ?_ ?_ _) | (with_reducible refine Below.drew ?_) | (with_reducible refine Below.drewN ?_ _) | (with_reducible refine Below.trans ?_ (Below.mono (by with_reducible assumption) ?_)) | go_size | (dsimp only; omega)))) (Nat.le_refl _)))).mono ?_
          rintro e w7 ⟨rfl, hb7⟩
          have hy7 := bsize hb7
          try simp at hy7
          obtain ⟨hc7, hf7, hz7⟩ := bcell hb7 (b := w1.heap.size) (by go_size)
          obtain ⟨hd7, hg7, hw7⟩ := bcell hb7 (b := w2.heap.size) (by go_size)
          obtain ⟨he7, hh7, hv7⟩ := bcell hb7 (b := w6.heap.size) (by go_size)
          have HW7 := Lib.hid (show Below w.heap.size w w7 by (repeat' (first | (with_reducible exact Below.refl _ _) | (with_reducible refine Below.setCell ?_ ?_ _) | (with_reducible refine Below.alloc ?_ ?_ _) | (with_reducible refine Below.drew ?_) | (with_reducible refine Below.drewN ?_ _) | (with_reducible refine Below.trans ?_ (Below.mono (by with_reducible assumption) ?_)) | go_size | (dsimp only; omega))))
          have m_x0 : ∀ d os, (Sort.grow (redrawn w7 d) os).cell? ⟨w1.heap.size, 0, none⟩ = some (.int .i64 2) := fun d os => cell_regrown ((hc7 0).trans ((World.cell?_alloc_lt _ _ _ (by go_size)).trans ((hc6 0).trans x0))) d os
          have m_x1 : ∀ d os, (Sort.grow (redrawn w7 d) os).cell? ⟨w1.heap.size, 1, none⟩ = some (.int .i64 a) := fun d os => cell_regrown ((hc7 1).trans ((World.cell?_alloc_lt _ _ _ (by go_size)).trans ((hc6 1).trans x1))) d os
          have m_x2 : ∀ d os, (Sort.grow (redrawn w7 d) os).cell? ⟨w1.heap.size, 2, none⟩ = some (.int .i64 b) := fun d os => cell_regrown ((hc7 2).trans ((World.cell?_alloc_lt _ _ _ (by go_size)).trans ((hc6 2).trans x2))) d os
          have m_g0 : ∀ d os, (Sort.grow (redrawn w7 d) os).cell? ⟨w2.heap.size, 0, none⟩ = some (.int .i64 a) := fun d os => cell_regrown ((hd7 0).trans ((World.cell?_alloc_lt _ _ _ (by go_size)).trans ((hd6 0).trans d0))) d os
          have m_g2 : ∀ d os, (Sort.grow (redrawn w7 d) os).cell? ⟨w2.heap.size, 2, none⟩ = some (.int .i64 b) := fun d os => cell_regrown ((hd7 2).trans ((World.cell?_alloc_lt _ _ _ (by go_size)).trans ((hd6 2).trans d2))) d os
          have m_y0 : ∀ d os, (Sort.grow (redrawn w7 d) os).cell? ⟨w6.heap.size, 0, none⟩ = some (.int .i64 2) := fun d os => cell_regrown ((he7 0).trans (by rw [World.cell?_alloc_new]; rfl)) d os
          have m_y1 : ∀ d os, (Sort.grow (redrawn w7 d) os).cell? ⟨w6.heap.size, 1, none⟩ = some (.int .i64 a) := fun d os => cell_regrown ((he7 1).trans (by rw [World.cell?_alloc_new]; rfl)) d os
          have m_y2 : ∀ d os, (Sort.grow (redrawn w7 d) os).cell? ⟨w6.heap.size, 2, none⟩ = some (.int .i64 b) := fun d os => cell_regrown ((he7 2).trans (by rw [World.cell?_alloc_new]; rfl)) d os
          clear hc6 hf6 hd6 hg6 hc7 hf7 hd7 hg7 he7 hh7 hb6 hb7 hY6 x0 x1 x2 d0 d1 d2 d3
          go_wp2_with fail
          simp only [List.append_eq, List.cons_append, List.nil_append]
          refine wp_region_quiet_below (by kernel_rfl) (by kernel_rfl) ?_
          repeat (first | go_big_quiet_step (first | (go_at_call 36; exact Calls.regrown_of (impl_CellOk_ok HK.out _)) | (go_at_call 37; exact Calls.regrown_of (impl_WholeCell_ok a0 a1 _)) | (go_at_call 26; exact Calls.regrown_of (impl_CellText _ _ _ _ (Lib.hid (HT.out.below (B := w.heap.size) (HW7.out.trans ((below_regrown w7 _ _).mono HW7.out.size)) (Nat.le_refl _)))))) | quiet_step (first | (go_at_call 36; exact Calls.regrown_of (impl_CellOk_ok HK.out _)) | (go_at_call 37; exact Calls.regrown_of (impl_WholeCell_ok a0 a1 _)) | (go_at_call 26; exact Calls.regrown_of (impl_CellText _ _ _ _ (Lib.hid (HT.out.below (B := w.heap.size) (HW7.out.trans ((below_regrown w7 _ _).mono HW7.out.size)) (Nat.le_refl _)))))))
          refine wpQuiet_nil ?_
          intro _ hw'
          obtain ⟨⟨dq, osq⟩, hw''⟩ := hw'
          subst hw''
          have HW8 := Lib.hid (HW7.out.trans ((below_regrown w7 dq osq).mono HW7.out.size))
          go_wp2
          go_ret
          exact ⟨rfl, HW8.out⟩
end Go.Proofs.YteoddpdjhkbaiaaDoor
