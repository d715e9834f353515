/- Walks of the functions on blocks, both sides. -/
import Derived.Test.YtlcllpgbpjdofaaC
import Derived.Test.YtlcllpgbpjdofaaR0
set_option linter.unusedSimpArgs false
set_option linter.unusedVariables false
set_option maxRecDepth 100000
namespace Go.Proofs.Ytlcllpgbpjdofaa
open Go.RowKit

theorem box_cell {w wr : World} {arr : Array Value} {t : TypeId} {N : Nat} (hN : w.heap.size < N) (h : Below N (w.alloc (.cells arr t)) wr) (o : Nat) : wr.cell? ⟨w.heap.size, o, none⟩ = arr[o]? := by
  rw [h.cell (p := ⟨w.heap.size, o, none⟩) hN, World.cell?_alloc_new]

/-- a block is one -/
def allOkC (cs : List C) : Bool := cs.all (fun c => cOk c.s c.a c.b)
def bOk (z : Int) (cs : List C) : Bool := inB z 1 4 && (((cs.length : Int) == z * z) && allOkC cs)
theorem allOkC_f {cs : List C} {k : Nat} (hk : k < cs.length) (h : cOk (cith cs k).s (cith cs k).a (cith cs k).b = false) : allOkC cs = false := by
  unfold allOkC
  rw [List.all_eq_false]
  exact ⟨cs[k], List.getElem_mem hk, by rw [cith_get hk] at h; simp [h]⟩
theorem allOkC_t {cs : List C} (h : ∀ k, k < cs.length → cOk (cith cs k).s (cith cs k).a (cith cs k).b = true) : allOkC cs = true := by
  unfold allOkC
  rw [List.all_eq_true]
  intro x hx
  obtain ⟨k, hk, rfl⟩ := List.getElem_of_mem hx
  have := h k hk
  rwa [cith_get hk] at this
theorem allOkC_at {cs : List C} (h : allOkC cs = true) {k : Nat} (hk : k < cs.length) : cOk (cith cs k).s (cith cs k).a (cith cs k).b = true := by
  unfold allOkC at h
  rw [List.all_eq_true] at h
  rw [cith_get hk]; exact h _ (List.getElem_mem hk)
theorem sq_wrap {z : Int} (h1 : 1 ≤ z) (h2 : z ≤ 4) : wrap64 (z * z) = z * z := by
  have : z = 1 ∨ z = 2 ∨ z = 3 ∨ z = 4 := by omega
  rcases this with rfl | rfl | rfl | rfl <;> exact IntWalk.wrap64_in _ (by omega)
theorem bOk_size {z : Int} {cs : List C} (h : bOk z cs = true) : 1 ≤ z ∧ z ≤ 4 ∧ (cs.length : Int) = z * z ∧ allOkC cs = true := by
  simp only [bOk, Bool.and_eq_true, beq_iff_eq, inB, decide_eq_true_eq] at h
  exact ⟨h.1.1, h.1.2, h.2.1, h.2.2⟩

set_option maxHeartbeats 1000000 in
theorem spec_BlockOk (z : Int) (A : Option Addr) (n c : Nat) (xs : List C) (w : World) (h : RdC w w.heap.size A n xs) :
    Calls Try.prog 73 #[.agg #[.int .i64 z, .slice A n c]] w fun e w' => e = .returned (.bool (bOk z xs)) ∧ Below w.heap.size w w' := by
  have hs := lt2
  have hle := h.le
  have H := Lib.hid h
  clear h
  by_cases hz : inB z 1 4 = true
  · have hz' := hz
    simp only [inB, decide_eq_true_eq] at hz'
    obtain ⟨hz1, hz2⟩ := hz'
    by_cases hn : (n : Int) = z * z
    · have HN := Lib.hid hn
      have HZ := Lib.hid hz
      have hq : ((n : Int) != wrap64 (z * z)) = false := by rw [sq_wrap hz1 hz2, hn]; simp
      clear hn
      go_enter Try.func73, Try.ntmps73
      go_wp2_with (go_at_call 110; refine (spec_l01In _ _ _ _).mono ?_; rintro e w' ⟨rfl, rfl⟩)
      clear hq hz
      go_loopw [3] (fun i wr => ∃ k : Nat, k ≤ n ∧ i = .int .i64 k ∧ Hid (∀ j, j < k → cOk (cith xs j).s (cith xs j).a (cith xs j).b = true) ∧ Hid (Below (w.heap.size + 1) (w.alloc (.cells #[.int .i64 z, .slice A n c] 42)) wr)) (fun i _ => n - (intOf i).toNat)
      case atStart => exact ⟨0, Nat.zero_le _, rfl, fun j hj => absurd hj (by omega), Below.refl _ _⟩
      case round =>
        obtain ⟨k, hk, rfl, hp, hb⟩ := hrel
        have p0 := box_cell (by omega) hb.out 0
        have p1 := box_cell (by omega) hb.out 1
        have hy := hb.out.size
        simp only [World.size_alloc] at hy
        have HW := Lib.hid (((Below.refl w.heap.size w).alloc (Nat.le_refl _) (.cells #[.int .i64 z, .slice A n c] 42)).trans (hb.out.mono (by omega)))
        by_cases hlt : k < n
        · obtain ⟨g, off, rfl, hc0, hc1, hc2⟩ := (H.out.below HW.out).at_ hlt
          by_cases hin : cOk (cith xs k).s (cith xs k).a (cith xs k).b = true
          · go_wp2_with (go_at_call 111; refine (spec_CellOk _ _ _ _).mono ?_; rintro e w2 ⟨rfl, hb2⟩; have HB2 := Lib.hid hb2; clear hb2)
            go_roundw
            case rel => exact ⟨k + 1, by omega, by go_num, step_all hp.out hin, (hb.out).trans (HB2.out.mono (by omega))⟩
            case measure => simp [intOf]; omega
          · have hin' : cOk (cith xs k).s (cith xs k).a (cith xs k).b = false := by simpa using hin
            clear hin
            go_wp2_with (go_at_call 111; refine (spec_CellOk _ _ _ _).mono ?_; rintro e w2 ⟨rfl, hb2⟩; have HB2 := Lib.hid hb2; clear hb2)
            go_ret
            refine ⟨ret_bool ?_, (HW.out).trans (HB2.out.mono (by omega))⟩
            rw [bOk, allOkC_f (by rw [H.out.1]; exact hlt) hin']; simp
        · go_wp2
          go_ret
          refine ⟨ret_bool ?_, HW.out⟩
          rw [bOk, HZ.out, allOkC_t (fun j hj => hp.out j (by rw [H.out.1] at hj; omega)), H.out.1, HN.out]; simp
    · have HN := Lib.hid hn
      have hq : ((n : Int) != wrap64 (z * z)) = true := by rw [sq_wrap hz1 hz2]; simpa using hn
      clear hn
      go_enter Try.func73, Try.ntmps73
      go_wp2_with (go_at_call 110; refine (spec_l01In _ _ _ _).mono ?_; rintro e w' ⟨rfl, rfl⟩)
      go_ret
      refine ⟨ret_bool ?_, by go_grown⟩
      have e : ((xs.length : Int) == z * z) = false := by rw [H.out.1]; simpa using HN.out
      rw [bOk, e]; simp
  · have hz' : inB z 1 4 = false := by simpa using hz
    clear hz
    go_enter Try.func73, Try.ntmps73
    go_wp2_with (go_at_call 110; refine (spec_l01In _ _ _ _).mono ?_; rintro e w' ⟨rfl, rfl⟩)
    go_ret
    refine ⟨ret_bool ?_, by go_grown⟩
    rw [bOk, hz']; rfl

set_option maxHeartbeats 1000000 in
theorem impl_BlockOk (z : Int) (A : Option Addr) (n c : Nat) (xs : List C) (w : World) (h : RdC w w.heap.size A n xs) :
    Calls Try.prog 72 #[.agg #[.int .i64 z, .slice A n c]] w fun e w' => e = .returned (.bool (bOk z xs)) ∧ Below w.heap.size w w' := by
  have hs := lt2
  have hle := h.le
  have H := Lib.hid h
  clear h
  by_cases hz : inB z 1 4 = true
  · have hz' := hz
    simp only [inB, decide_eq_true_eq] at hz'
    obtain ⟨hz1, hz2⟩ := hz'
    by_cases hn : (n : Int) = z * z
    · have HN := Lib.hid hn
      have HZ := Lib.hid hz
      have hq : ((n : Int) != wrap64 (z * z)) = false := by rw [sq_wrap hz1 hz2, hn]; simp
      clear hn
      go_enter Try.func72, Try.ntmps72
      go_wp2_with (go_at_call 68; refine (impl_within _ _ _ _).mono ?_; rintro e w' ⟨rfl, rfl⟩)
      clear hq hz
      go_loopw [23] (fun i wr => ∃ k : Nat, k ≤ n ∧ i = .int .i64 k ∧ Hid (∀ j, j < k → cOk (cith xs j).s (cith xs j).a (cith xs j).b = true) ∧ Hid (Below (w.heap.size + 1) (w.alloc (.cells #[.int .i64 z, .slice A n c] 42)) wr)) (fun i _ => n - (intOf i).toNat)
      case atStart => exact ⟨0, Nat.zero_le _, rfl, fun j hj => absurd hj (by omega), Below.refl _ _⟩
      case round =>
        obtain ⟨k, hk, rfl, hp, hb⟩ := hrel
        have p0 := box_cell (by omega) hb.out 0
        have p1 := box_cell (by omega) hb.out 1
        have hy := hb.out.size
        simp only [World.size_alloc] at hy
        have HW := Lib.hid (((Below.refl w.heap.size w).alloc (Nat.le_refl _) (.cells #[.int .i64 z, .slice A n c] 42)).trans (hb.out.mono (by omega)))
        by_cases hlt : k < n
        · obtain ⟨g, off, rfl, hc0, hc1, hc2⟩ := (H.out.below HW.out).at_ hlt
          by_cases hin : cOk (cith xs k).s (cith xs k).a (cith xs k).b = true
          · go_wp2_with (go_at_call 75; refine (impl_CellOk _ _ _ _).mono ?_; rintro e w2 ⟨rfl, hb2⟩; have HB2 := Lib.hid hb2; clear hb2)
            go_roundw
            case rel => exact ⟨k + 1, by omega, by go_num, step_all hp.out hin, (hb.out.alloc (by omega) _).trans (HB2.out.mono (by simp; omega))⟩
            case measure => simp [intOf]; omega
          · have hin' : cOk (cith xs k).s (cith xs k).a (cith xs k).b = false := by simpa using hin
            clear hin
            go_wp2_with (go_at_call 75; refine (impl_CellOk _ _ _ _).mono ?_; rintro e w2 ⟨rfl, hb2⟩; have HB2 := Lib.hid hb2; clear hb2)
            go_ret
            refine ⟨ret_bool ?_, (HW.out.alloc (by omega) _).trans (HB2.out.mono (by simp; omega))⟩
            rw [bOk, allOkC_f (by rw [H.out.1]; exact hlt) hin']; simp
        · go_wp2
          go_ret
          refine ⟨ret_bool ?_, HW.out⟩
          rw [bOk, HZ.out, allOkC_t (fun j hj => hp.out j (by rw [H.out.1] at hj; omega)), H.out.1, HN.out]; simp
    · have HN := Lib.hid hn
      have hq : ((n : Int) != wrap64 (z * z)) = true := by rw [sq_wrap hz1 hz2]; simpa using hn
      clear hn
      go_enter Try.func72, Try.ntmps72
      go_wp2_with (go_at_call 68; refine (impl_within _ _ _ _).mono ?_; rintro e w' ⟨rfl, rfl⟩)
      go_ret
      refine ⟨ret_bool ?_, by go_grown⟩
      have e : ((xs.length : Int) == z * z) = false := by rw [H.out.1]; simpa using HN.out
      rw [bOk, e]; simp
  · have hz' : inB z 1 4 = false := by simpa using hz
    clear hz
    go_enter Try.func72, Try.ntmps72
    go_wp2_with (go_at_call 68; refine (impl_within _ _ _ _).mono ?_; rintro e w' ⟨rfl, rfl⟩)
    go_ret
    refine ⟨ret_bool ?_, by go_grown⟩
    rw [bOk, hz']; rfl


def sameB (z : Int) (xs : List C) (z' : Int) (ys : List C) : Bool := decide (z = z') && (decide (xs.length = ys.length) && (List.range xs.length).all (fun k => decide ((cith xs k).s = (cith ys k).s ∧ (cith xs k).a = (cith ys k).a ∧ (cith xs k).b = (cith ys k).b)))
theorem sameB_f {z z' : Int} {xs ys : List C} {k : Nat} (hk : k < xs.length) (h : ¬ ((cith xs k).s = (cith ys k).s ∧ (cith xs k).a = (cith ys k).a ∧ (cith xs k).b = (cith ys k).b)) : sameB z xs z' ys = false := by
  have e : (List.range xs.length).all (fun k => decide ((cith xs k).s = (cith ys k).s ∧ (cith xs k).a = (cith ys k).a ∧ (cith xs k).b = (cith ys k).b)) = false := by
    rw [List.all_eq_false]
    exact ⟨k, by simpa using hk, by rw [decide_eq_false h]; simp⟩
  rw [sameB, e]; simp
theorem sameB_t {z z' : Int} {xs ys : List C} (hz : z = z') (hl : xs.length = ys.length) (h : ∀ k, k < xs.length → ((cith xs k).s = (cith ys k).s ∧ (cith xs k).a = (cith ys k).a ∧ (cith xs k).b = (cith ys k).b)) : sameB z xs z' ys = true := by
  have e : (List.range xs.length).all (fun k => decide ((cith xs k).s = (cith ys k).s ∧ (cith xs k).a = (cith ys k).a ∧ (cith xs k).b = (cith ys k).b)) = true := by
    rw [List.all_eq_true]
    intro k hk
    exact decide_eq_true (h k (by simpa using hk))
  rw [sameB, e, decide_eq_true hz, decide_eq_true hl]; rfl



def isPl (z : Int) (xs : List C) (x y : Int) : Bool := bOk z xs && (inB x 0 (z - 1) && inB y 0 (z - 1))
def cellAtB (z : Int) (xs : List C) (x y : Int) : C := if isPl z xs x y then cith xs (y * z + x).toNat else ⟨0, 0, 0⟩
theorem isPl_t {z x y : Int} {xs : List C} (h : isPl z xs x y = true) : bOk z xs = true ∧ 0 ≤ x ∧ x ≤ z - 1 ∧ 0 ≤ y ∧ y ≤ z - 1 := by
  simp only [isPl, Bool.and_eq_true, inB, decide_eq_true_eq] at h
  exact ⟨h.1, h.2.1.1, h.2.1.2, h.2.2.1, h.2.2.2⟩
theorem mul_le16 {y z : Int} (h1 : 0 ≤ y) (h2 : y ≤ z - 1) (h4 : z ≤ 4) : 0 ≤ y * z ∧ y * z ≤ z * z - z ∧ z * z ≤ 16 := by
  have hz : z = 1 ∨ z = 2 ∨ z = 3 ∨ z = 4 ∨ z ≤ 0 := by omega
  rcases hz with rfl | rfl | rfl | rfl | hz <;> first | omega | (exfalso; omega)
theorem isPl_idx {z x y : Int} {xs : List C} {n : Nat} (h : isPl z xs x y = true) (hn : xs.length = n) : 0 ≤ y * z + x ∧ y * z + x < n ∧ y * z ≤ 16 ∧ 0 ≤ y * z := by
  obtain ⟨hb, hx0, hx1, hy0, hy1⟩ := isPl_t h
  obtain ⟨hz1, hz2, hl, _⟩ := bOk_size hb
  obtain ⟨m1, m2, m3⟩ := mul_le16 hy0 hy1 hz2
  rw [hn] at hl
  omega
set_option maxHeartbeats 1000000 in
theorem impl_isPlace (z : Int) (A : Option Addr) (n c : Nat) (xs : List C) (x y : Int) (w : World) (h : RdC w w.heap.size A n xs) (hz : I64 z) :
    Calls Try.prog 113 #[.agg #[.int .i64 z, .slice A n c], .int .i64 x, .int .i64 y] w fun e w' => e = .returned (.bool (isPl z xs x y)) ∧ Below w.heap.size w w' := by
  have hs := lt2
  have H := Lib.hid h
  clear h
  by_cases hb : bOk z xs = true
  · have HB := Lib.hid (bOk_size hb)
    have hz1 := HB.out.1
    have hz2 := HB.out.2.1
    go_enter Try.func113, Try.ntmps113
    go_wp2_with (first
      | (go_at_call 72; refine (impl_BlockOk _ _ _ _ _ _ (H.out.below' (by go_grown) (by go_size))).mono ?_; rintro e w1 ⟨rfl, hb1⟩; obtain ⟨hc1, hf1, hz1⟩ := bcell hb1 (b := w.heap.size) (by go_size))
      | (go_at_call 68; refine (impl_within _ _ _ _).mono ?_; rintro e w' ⟨rfl, rfl⟩))
    all_goals (go_ret; refine ⟨ret_bool ?_, ?_⟩)
    all_goals first | (with_reducible show Below _ _ _; (repeat' (first | (with_reducible exact Below.refl _ _) | (with_reducible refine Below.setCell ?_ ?_ _) | (with_reducible refine Below.alloc ?_ ?_ _) | (with_reducible refine Below.drew ?_) | (with_reducible refine Below.drewN ?_ _) | (with_reducible refine Below.trans ?_ (Below.mono (by with_reducible assumption) ?_)) | go_size | (dsimp only; omega)))) | (go_light; simp_all [isPl]; done)
  · have hb' : bOk z xs = false := by simpa using hb
    clear hb
    go_enter Try.func113, Try.ntmps113
    go_wp2_with (go_at_call 72; refine (impl_BlockOk _ _ _ _ _ _ (H.out.below' (by go_grown) (by go_size))).mono ?_; rintro e w1 ⟨rfl, hb1⟩)
    go_ret
    refine ⟨ret_bool ?_, ?_⟩
    · rw [isPl, hb']; rfl
    · (repeat' (first | (with_reducible exact Below.refl _ _) | (with_reducible refine Below.setCell ?_ ?_ _) | (with_reducible refine Below.alloc ?_ ?_ _) | (with_reducible refine Below.drew ?_) | (with_reducible refine Below.drewN ?_ _) | (with_reducible refine Below.trans ?_ (Below.mono (by with_reducible assumption) ?_)) | go_size | (dsimp only; omega)))

end Go.Proofs.Ytlcllpgbpjdofaa
