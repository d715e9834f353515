/- InverseOf and IsClosed: walks of both sides and of the laws. No condition. -/
import Derived.Test.YtaohhfnpjkjdiaaQ
import Derived.Test.YtaohhfnpjkjdiaaW2
set_option linter.unusedSimpArgs false
set_option linter.unusedVariables false
namespace Go.Proofs.Ytaohhfnpjkjdiaa
open Go.RowKit

def invZ (k : Int) : Int := match (List.range 8).find? (fun (m : Nat) => prodZ k m == 0) with | some m => (m : Int) | none => -1
theorem invZ_hit {k : Int} {m : Nat} (hm : m < 8) (h1 : ∀ j, j < m → prodZ k j ≠ 0) (h2 : prodZ k m = 0) : invZ k = m := by
  unfold invZ
  have e : (List.range 8).find? (fun (m : Nat) => prodZ k m == 0) = some m := by
    rw [List.find?_range_eq_some]
    refine ⟨by simpa using h2, by simpa using hm, fun j hj => ?_⟩
    simpa using h1 j hj
  rw [e]
theorem invZ_none {k : Int} (h1 : ∀ j, j < 8 → prodZ k (j : Nat) ≠ 0) : invZ k = -1 := by
  unfold invZ
  have e : (List.range 8).find? (fun (m : Nat) => prodZ k m == 0) = none := by
    rw [List.find?_range_eq_none]
    intro j hj
    simpa using h1 j hj
  rw [e]

set_option maxHeartbeats 400000 in
theorem spec_InverseOf (k : Int) (w : World) :
    Calls Try.prog 47 #[.int .i64 k] w fun e w' => e = .returned (.int .i64 (invZ k)) ∧ w = w' := by
  go_enter Try.func47, Try.ntmps47
  go_wp2
  go_loop [3] (fun i => ∃ m : Nat, m ≤ 8 ∧ i = .int .i64 m ∧ Hid (∀ j : Nat, j < m → prodZ k j ≠ 0)) (fun i => 8 - (intOf i).toNat)
  case atStart => exact ⟨0, by omega, rfl, fun j hj => absurd hj (by omega)⟩
  case round =>
    obtain ⟨m, hm, rfl, hp⟩ := hrel
    by_cases hlt : m < 8
    · by_cases hz : prodZ k m = 0
      · have HZ := Lib.hid hz
        have hq : (prodZ k m == 0) = true := by simpa using hz
        clear hz
        go_wp2_with (go_at_call 69; refine (spec_ProductOf _ _ _).mono ?_; rintro e w' ⟨rfl, rfl⟩)
        go_ret
        exact ⟨ret_int (invZ_hit hlt hp.out HZ.out).symm, rfl⟩
      · have HZ := Lib.hid hz
        have hq : (prodZ k m == 0) = false := by simpa using hz
        clear hz
        go_wp2_with (go_at_call 69; refine (spec_ProductOf _ _ _).mono ?_; rintro e w' ⟨rfl, rfl⟩)
        go_round
        case rel => exact ⟨m + 1, by omega, by go_num, step_all (P := fun j => prodZ k (j : Nat) ≠ 0) hp.out HZ.out⟩
        case measure => simp [intOf]; omega
    · go_wp2
      go_ret
      exact ⟨ret_int (invZ_none (fun j hj => hp.out j (by omega))).symm, rfl⟩

set_option maxHeartbeats 400000 in
theorem impl_InverseOf (k : Int) (w : World) :
    Calls Try.prog 48 #[.int .i64 k] w fun e w' => e = .returned (.int .i64 (invZ k)) ∧ w = w' := by
  go_enter Try.func48, Try.ntmps48
  go_wp2
  go_loop [4] (fun i => ∃ m : Nat, m ≤ 8 ∧ i = .int .i64 m ∧ Hid (∀ j : Nat, j < m → prodZ k j ≠ 0)) (fun i => 8 - (intOf i).toNat)
  case atStart => exact ⟨0, by omega, rfl, fun j hj => absurd hj (by omega)⟩
  case round =>
    obtain ⟨m, hm, rfl, hp⟩ := hrel
    by_cases hlt : m < 8
    · by_cases hz : prodZ k m = 0
      · have HZ := Lib.hid hz
        have hq : (prodZ k m == 0) = true := by simpa using hz
        clear hz
        go_wp2_with (go_at_call 70; refine (impl_ProductOf _ _ _).mono ?_; rintro e w' ⟨rfl, rfl⟩)
        go_ret
        exact ⟨ret_int (invZ_hit hlt hp.out HZ.out).symm, rfl⟩
      · have HZ := Lib.hid hz
        have hq : (prodZ k m == 0) = false := by simpa using hz
        clear hz
        go_wp2_with (go_at_call 70; refine (impl_ProductOf _ _ _).mono ?_; rintro e w' ⟨rfl, rfl⟩)
        go_round
        case rel => exact ⟨m + 1, by omega, by go_num, step_all (P := fun j => prodZ k (j : Nat) ≠ 0) hp.out HZ.out⟩
        case measure => simp [intOf]; omega
    · go_wp2
      go_ret
      exact ⟨ret_int (invZ_none (fun j hj => hp.out j (by omega))).symm, rfl⟩

set_option maxHeartbeats 1000000 in
theorem walk_FnExactInverseOf (k : Int) (w : World) (_ : I64 k) :
    Calls Try.prog 14 #[.int .i64 k] w fun e w' => e = .returned (.bool true) ∧ Below w.heap.size w w' := by
  have HW := Below.refl w.heap.size w
  have hs := lt2
  go_enter Try.func14, Try.ntmps14
  go_wp2_with fail
  refine (spec_InverseOf _ _).mono ?_
  rintro e w' ⟨rfl, rfl⟩
  go_wp2_with fail
  refine (impl_InverseOf _ _).mono ?_
  rintro e w' ⟨rfl, rfl⟩
  go_wp2
  go_ret
  exact ⟨rfl, HW⟩


def idxI (xs : List Int) (y : Int) : Int := match (List.range xs.length).find? (fun (m : Nat) => ith xs m == y) with | some m => (m : Int) | none => -1
theorem idxI_hit {xs : List Int} {y : Int} {m : Nat} (hm : m < xs.length) (h1 : ∀ j, j < m → ith xs j ≠ y) (h2 : ith xs m = y) : idxI xs y = m := by
  unfold idxI
  have e : (List.range xs.length).find? (fun (m : Nat) => ith xs m == y) = some m := by
    rw [List.find?_range_eq_some]
    refine ⟨by simpa using h2, by simpa using hm, fun j hj => ?_⟩
    simpa using h1 j hj
  rw [e]
theorem idxI_none {xs : List Int} {y : Int} (h1 : ∀ j, j < xs.length → ith xs j ≠ y) : idxI xs y = -1 := by
  unfold idxI
  have e : (List.range xs.length).find? (fun (m : Nat) => ith xs m == y) = none := by
    rw [List.find?_range_eq_none]
    intro j hj
    simpa using h1 j hj
  rw [e]
theorem idxI_neg {xs : List Int} {y : Int} : idxI xs y < 0 ↔ ∀ j, j < xs.length → ith xs j ≠ y := by
  constructor
  · intro h j hj e
    unfold idxI at h
    cases hf : (List.range xs.length).find? (fun (m : Nat) => ith xs m == y) with
    | none =>
      rw [List.find?_range_eq_none] at hf
      have := hf j hj
      simp at this
      exact this e
    | some m => rw [hf] at h; simp at h; omega
  · intro h; rw [idxI_none h]; omega
set_option maxHeartbeats 400000 in
theorem impl_indexOf (A : Option Addr) (n c : Nat) (xs : List Int) (y : Int) (w : World) (h : RdI w w.heap.size A n xs) :
    Calls Try.prog 72 #[.slice A n c, .int .i64 y] w fun e w' => e = .returned (.int .i64 (idxI xs y)) ∧ w = w' := by
  have hle := h.le
  have H := Lib.hid h
  clear h
  go_enter Try.func72, Try.ntmps72
  go_wp2
  go_loop [9] (fun i => ∃ k : Nat, k ≤ n ∧ i = .int .i64 k ∧ Hid (∀ j, j < k → ith xs j ≠ y)) (fun i => n - (intOf i).toNat)
  case atStart => exact ⟨0, Nat.zero_le _, rfl, fun j hj => absurd hj (by omega)⟩
  case round =>
    obtain ⟨k, hk, rfl, hp⟩ := hrel
    by_cases hlt : k < n
    · obtain ⟨g, off, rfl, hc⟩ := H.out.at_ hlt
      by_cases hz : ith xs k = y
      · have HZ := Lib.hid hz
        have hq : (ith xs k == y) = true := by simpa using hz
        clear hz
        go_wp2
        go_ret
        exact ⟨ret_int (idxI_hit (by rw [H.out.1]; exact hlt) hp.out HZ.out).symm, rfl⟩
      · have HZ := Lib.hid hz
        have hq : (ith xs k == y) = false := by simpa using hz
        clear hz
        go_wp2
        go_round
        case rel => exact ⟨k + 1, by omega, by go_num, step_all hp.out HZ.out⟩
        case measure => simp [intOf]; omega
    · go_wp2
      go_ret
      exact ⟨ret_int (idxI_none (fun j hj => hp.out j (by rw [H.out.1] at hj; omega))).symm, rfl⟩

def rowOk (xs : List Int) (i : Nat) : Bool := (List.range xs.length).all (fun k => decide (0 ≤ idxI xs (prodZ (ith xs i) (ith xs k))))
def allOk (xs : List Int) : Bool := (List.range xs.length).all (fun i => rowOk xs i)
def closedI (xs : List Int) : Bool := strictI xs 0 7 && (decide (0 ≤ idxI xs 0) && allOk xs)
theorem rowOk_f {xs : List Int} {i k : Nat} (hk : k < xs.length) (h : idxI xs (prodZ (ith xs i) (ith xs k)) < 0) : rowOk xs i = false := by
  unfold rowOk; rw [List.all_eq_false]; exact ⟨k, by simpa using hk, by simp; omega⟩
theorem allOk_f {xs : List Int} {i : Nat} (hi : i < xs.length) (h : rowOk xs i = false) : allOk xs = false := by
  unfold allOk; rw [List.all_eq_false]; exact ⟨i, by simpa using hi, by simp [h]⟩
theorem rowOk_t {xs : List Int} {i : Nat} (h : ∀ k, k < xs.length → 0 ≤ idxI xs (prodZ (ith xs i) (ith xs k))) : rowOk xs i = true := by
  unfold rowOk; rw [List.all_eq_true]; intro k hk; simpa using h k (by simpa using hk)
theorem allOk_t {xs : List Int} (h : ∀ i, i < xs.length → rowOk xs i = true) : allOk xs = true := by
  unfold allOk; rw [List.all_eq_true]; intro k hk; exact h k (by simpa using hk)

set_option maxHeartbeats 400000 in
theorem impl_IsClosed (A : Option Addr) (n c : Nat) (xs : List Int) (w : World) (h : RdI w w.heap.size A n xs) :
    Calls Try.prog 51 #[.slice A n c] w fun e w' => e = .returned (.bool (closedI xs)) ∧ Below w.heap.size w w' := by
  have hle := h.le
  have H := Lib.hid h
  clear h
  by_cases hst : strictI xs 0 7 = true
  · by_cases h0 : idxI xs 0 < 0
    · go_enter Try.func51, Try.ntmps51
      go_wp2_with (first
        | (go_at_call 71; refine (impl_isStrict _ _ _ _ _ _ _ H.out).mono ?_; rintro e w1 ⟨rfl, hb1⟩)
        | (go_at_call 72; refine (impl_indexOf _ _ _ _ _ _ (H.out.next hb1)).mono ?_; rintro e w' ⟨rfl, rfl⟩))
      go_ret
      refine ⟨ret_bool ?_, hb1⟩
      rw [closedI, show decide (0 ≤ idxI xs 0) = false from by simp; omega]; simp
    · go_enter Try.func51, Try.ntmps51
      go_wp2_with (first
        | (go_at_call 71; refine (impl_isStrict _ _ _ _ _ _ _ H.out).mono ?_; rintro e w1 ⟨rfl, hb1⟩)
        | (go_at_call 72; refine (impl_indexOf _ _ _ _ _ _ (H.out.next hb1)).mono ?_; rintro e w' ⟨rfl, rfl⟩))
      have H1 := Lib.hid (H.out.next hb1)
      go_loop [17] (fun i => ∃ k : Nat, k ≤ n ∧ i = .int .i64 k ∧ Hid (∀ j, j < k → rowOk xs j = true)) (fun i => n - (intOf i).toNat)
      case atStart => exact ⟨0, Nat.zero_le _, rfl, fun j hj => absurd hj (by omega)⟩
      case round =>
        obtain ⟨k, hk, rfl, hp⟩ := hrel
        by_cases hlt : k < n
        · obtain ⟨g, off, rfl, hc⟩ := H1.out.at_ hlt
          go_wp2
          go_loop [23] (fun i => ∃ m : Nat, m ≤ n ∧ i = .int .i64 m ∧ Hid (∀ j, j < m → 0 ≤ idxI xs (prodZ (ith xs k) (ith xs j)))) (fun i => n - (intOf i).toNat)
          case atStart => exact ⟨0, Nat.zero_le _, rfl, fun j hj => absurd hj (by omega)⟩
          case round =>
            obtain ⟨m, hm, rfl, hp2⟩ := hrel
            by_cases hlt2 : m < n
            · obtain ⟨g', off', e', hc'⟩ := H1.out.at_ hlt2
              simp only [Option.some.injEq, Addr.mk.injEq, and_true] at e'
              obtain ⟨rfl, rfl⟩ := e'
              by_cases hz : idxI xs (prodZ (ith xs k) (ith xs m)) < 0
              · go_wp2_with (first
                  | (go_at_call 70; refine (impl_ProductOf _ _ _).mono ?_; rintro e w' ⟨rfl, rfl⟩)
                  | (go_at_call 72; refine (impl_indexOf _ _ _ _ _ _ H1.out).mono ?_; rintro e w' ⟨rfl, rfl⟩))
                go_ret
                refine ⟨ret_bool ?_, hb1⟩
                rw [closedI, allOk_f (by rw [H.out.1]; exact hlt) (rowOk_f (by rw [H.out.1]; exact hlt2) hz)]; simp
              · go_wp2_with (first
                  | (go_at_call 70; refine (impl_ProductOf _ _ _).mono ?_; rintro e w' ⟨rfl, rfl⟩)
                  | (go_at_call 72; refine (impl_indexOf _ _ _ _ _ _ H1.out).mono ?_; rintro e w' ⟨rfl, rfl⟩))
                go_round
                case rel => exact ⟨m + 1, by omega, by go_num, step_all hp2.out (by omega)⟩
                case measure => simp [intOf]; omega
            · go_wp2
              go_round
              case rel =>
                obtain rfl : m = n := by omega
                exact ⟨k + 1, by omega, by go_num, step_all hp.out (rowOk_t (fun j hj => hp2.out j (by rw [H.out.1] at hj; exact hj)))⟩
              case measure => simp [intOf]; omega
        · go_wp2
          go_ret
          refine ⟨ret_bool ?_, hb1⟩
          rw [closedI, allOk_t (fun j hj => hp.out j (by rw [H.out.1] at hj; omega)), hst, show decide (0 ≤ idxI xs 0) = true from by simp; omega]; simp
  · have hst' : strictI xs 0 7 = false := by simpa using hst
    clear hst
    go_enter Try.func51, Try.ntmps51
    go_wp2_with (go_at_call 71; refine (impl_isStrict _ _ _ _ _ _ _ H.out).mono ?_; rintro e w1 ⟨rfl, hb1⟩)
    go_ret
    exact ⟨ret_bool (by rw [closedI, hst']; rfl), hb1⟩

/-- a row of eight bools of the call's own -/
def OwnB (w : World) (B g : Nat) (bs : List Bool) : Prop := bs.length = 8 ∧ w.ownsRow B 4 1 (.slice (some ⟨g, 0, none⟩) 8 8) 8 (bs.map Value.bool)
def bth (bs : List Bool) (k : Nat) : Bool := bs.getD k false
theorem bth_get {bs : List Bool} {k : Nat} (h : k < bs.length) : bth bs k = bs[k] := by simp [bth, List.getD, List.getElem?_eq_getElem h]
theorem OwnB.cellAt {w : World} {B g : Nat} {bs : List Bool} (h : OwnB w B g bs) {k : Nat} (hk : k < 8) : w.cell? ⟨g, k, none⟩ = some (.bool (bth bs k)) := by
  have := World.ownsRow.cellAt h.2 k (by omega)
  rw [this, List.getElem?_map, List.getElem?_eq_getElem (by rw [h.1]; exact hk), bth_get (by rw [h.1]; exact hk)]; rfl
theorem OwnB.frozenAt {w : World} {B g : Nat} {bs : List Bool} (h : OwnB w B g bs) (k : Nat) : w.frozen? ⟨g, k, none⟩ = false := World.ownsRow.frozenAt h.2 k
theorem OwnB.store {w : World} {B g : Nat} {bs : List Bool} (h : OwnB w B g bs) (k : Nat) (x : Bool) : OwnB (w.setCell ⟨g, k, none⟩ (.bool x)) B g (bs.set k x) := by
  refine ⟨by rw [List.length_set]; exact h.1, ?_⟩
  rw [List.map_set]
  exact (World.ownsRow.stored h.2 k (.bool x)).1
theorem OwnB.lt {w : World} {B g : Nat} {bs : List Bool} (h : OwnB w B g bs) : B ≤ g := (h.2.lt g rfl).1
theorem bool_info : (Try.prog.info? 4).map (fun i => (i.zero, i.size, i.bytes)) = some (some (.bool false), 1, 1) := by kernel_rfl
theorem OwnB.made {w w1 : World} (h : w1.ownsRow w.heap.size 4 1 (.slice (some ⟨w.heap.size, 0, none⟩) 8 8) 8 (madeCells (Value.bool false).cells (8 * 1)).toList) :
    OwnB w1 w.heap.size w.heap.size (List.replicate 8 false) := by
  refine ⟨rfl, ?_⟩
  have e : (madeCells (Value.bool false).cells (8 * 1)).toList = (List.replicate 8 false).map Value.bool := toList_madeCells_one _ 8
  rwa [e] at h
theorem bth_set_self {bs : List Bool} {k : Nat} {x : Bool} (h : k < bs.length) : bth (bs.set k x) k = x := by simp [bth, List.getD, h]
theorem bth_set_other {bs : List Bool} {k j : Nat} {x : Bool} (h : j ≠ k) : bth (bs.set k x) j = bth bs j := by simp [bth, List.getD, List.getElem?_set_ne (Ne.symm h)]

/-- which of 0 .. 7 stand among the first k numbers -/
def Seen (xs : List Int) (bs : List Bool) (k : Nat) : Prop := ∀ v : Nat, v < 8 → (bth bs v = true ↔ ∃ j, j < k ∧ ith xs j = (v : Int))
theorem Seen.start (xs : List Int) : Seen xs (List.replicate 8 false) 0 := by
  intro v hv
  constructor
  · intro h
    have e : bth (List.replicate 8 false) v = false := by rw [bth_get (by simpa using hv)]; exact List.getElem_replicate _
    rw [e] at h; cases h
  · rintro ⟨j, hj, _⟩; omega
theorem Seen.step {xs : List Int} {bs : List Bool} {k q : Nat} (hl : bs.length = 8) (h : Seen xs bs k) (hq : ith xs k = (q : Int)) (hq8 : q < 8) : Seen xs (bs.set q true) (k + 1) := by
  intro v hv
  by_cases e : v = q
  · subst e
    rw [bth_set_self (by omega)]
    exact ⟨fun _ => ⟨k, by omega, hq⟩, fun _ => rfl⟩
  · rw [bth_set_other e, h v hv]
    constructor
    · rintro ⟨j, hj, e1⟩; exact ⟨j, by omega, e1⟩
    · rintro ⟨j, hj, e1⟩
      rcases Nat.lt_or_ge j k with h1 | h1
      · exact ⟨j, h1, e1⟩
      · obtain rfl : j = k := by omega
        omega
theorem Seen.idx {xs : List Int} {bs : List Bool} (h : Seen xs bs xs.length) {v : Nat} (hv : v < 8) : bth bs v = decide (0 ≤ idxI xs (v : Int)) := by
  rw [Bool.eq_iff_iff, decide_eq_true_eq, h v hv]
  constructor
  · rintro ⟨j, hj, e⟩
    rcases Int.lt_or_le (idxI xs (v : Int)) 0 with h1 | h1
    · exact absurd e (idxI_neg.1 h1 j hj)
    · exact h1
  · intro h1
    rcases Classical.em (∃ j, j < xs.length ∧ ith xs j = (v : Int)) with h2 | h2
    · exact h2
    · have : idxI xs (v : Int) < 0 := idxI_neg.2 (fun j hj e => h2 ⟨j, hj, e⟩)
      omega
theorem prodZ_in {i k : Int} (hi : 0 ≤ i ∧ i ≤ 7) (hk : 0 ≤ k ∧ k ≤ 7) : 0 ≤ prodZ i k ∧ prodZ i k ≤ 7 := by
  unfold prodZ
  rw [inB_t hi.1 hi.2, inB_t hk.1 hk.2]
  simp only [Bool.and_self, if_true]
  split
  · omega
  · split
    · omega
    · split <;> omega

set_option maxHeartbeats 1000000 in
theorem spec_IsClosed (A : Option Addr) (n c : Nat) (xs : List Int) (w : World) (h : RdI w w.heap.size A n xs) :
    Calls Try.prog 49 #[.slice A n c] w fun e w' => e = .returned (.bool (closedI xs)) ∧ Below w.heap.size w w' := by
  obtain ⟨i0, hi, hz0, hz1, hz2⟩ := info_parts bool_info
  have HI := Lib.hid hi; have HZ0 := Lib.hid hz0; have HZ1 := Lib.hid hz1; have HZ2 := Lib.hid hz2
  clear hi hz0 hz1 hz2
  have hle := h.le
  have H := Lib.hid h
  clear h
  go_enter Try.func49, Try.ntmps49
  go_wp2_with (at_make; refine wpList_make_full _ rfl _ _ _ rfl w.heap.size 4 i0 (.bool false) 1 Try.underlying76 HI.out HZ0.out HZ1.out .i64 .i64 8 8 8 rfl rfl rfl rfl (by rw [HZ2.out]; omega) (by unfold maxLen; omega) (Nat.le_refl _) ?_; intro w1 hown1 hg1; have HO := Lib.hid (OwnB.made hown1); have HB := Lib.hid ((Below.refl w.heap.size w).grown hg1 (Nat.le_refl _) (by intro k hk; cases hk)); clear hown1 hg1)
  go_loopw [4] (fun i wr => ∃ (k : Nat) (bs : List Bool), k ≤ n ∧ i = .int .i64 k ∧ Hid (OwnB wr w.heap.size w.heap.size bs) ∧ Hid (Seen xs bs k) ∧ Hid (∀ j, j < k → inB (ith xs j) 0 7 = true) ∧ Hid (∀ j, j < k → j = 0 ∨ ith xs (j - 1) < ith xs j) ∧ Hid (Below w.heap.size w wr)) (fun i _ => n - (intOf i).toNat)
  case atStart => exact ⟨0, _, Nat.zero_le _, rfl, HO, Seen.start xs, fun j hj => absurd hj (by omega), fun j hj => absurd hj (by omega), HB⟩
  case round =>
    obtain ⟨k, bs, hk, rfl, ho, hse, hin, has, hb⟩ := hrel
    obtain ⟨wo, rfl⟩ : ∃ wo : World, wo = wr := ⟨_, rfl⟩
    by_cases hlt : k < n
    · obtain ⟨g, off, rfl, hc⟩ := (H.out.below hb.out).at_ hlt
      have h1 : (0 : Int) ≤ (k : Int) := by omega
      have h2 : (k : Int) < (n : Int) := by omega
      by_cases hr : inB (ith xs k) 0 7 = true
      · have hr' := hr
        simp [inB] at hr'
        obtain ⟨q, hq⟩ := Int.eq_ofNat_of_zero_le hr'.1
        have hq8 : q < 8 := by omega
        have HQ := Lib.hid hq
        have HR := Lib.hid hr
        rw [hq] at hc hr
        clear hr' hq
        have hc2 := ho.out.cellAt hq8
        have hf2 := ho.out.frozenAt q
        have hq0 : (0 : Int) ≤ (q : Int) := by omega
        cases k with
        | zero =>
          have h0 : decide ((0 : Int) < ((0 : Nat) : Int)) = false := by decide
          simp only [Nat.add_zero] at hc
          go_wp2
          go_quiet ((go_at_call 57; exact quiet_left (spec_l01In _ _ _ _)))
          go_wp2
          go_roundw
          case rel =>
            exact ⟨1, bs.set q true, by omega, by go_num, ho.out.store q true, hse.out.step ho.out.1 HQ.out hq8, step_all (k := 0) (fun j hj => absurd hj (by omega)) HR.out, fun j hj => .inl (by omega), (hb.out.drewN _).setCell (Nat.le_refl _) _⟩
          case measure => simp [intOf]; omega
        | succ j =>
          obtain ⟨g', off', e', hc'⟩ := (H.out.below hb.out).at_ (show j < n by omega)
          simp only [Option.some.injEq, Addr.mk.injEq, and_true] at e'
          obtain ⟨rfl, rfl⟩ := e'
          clear h1 h2
          have h1 : (0 : Int) ≤ (j : Int) + 1 := by omega
          have h2 : (j : Int) + 1 < (n : Int) := by omega
          have h3 : (0 : Int) ≤ (j : Int) := by omega
          have h4 : (j : Int) < (n : Int) := by omega
          have hd : decide ((0 : Int) < (j : Int) + 1) = true := decide_eq_true (by omega)
          by_cases hlt2 : ith xs j < (q : Int)
          · have HL := Lib.hid hlt2
            have hq2 : decide ((q : Int) ≤ ith xs j) = false := by simp; omega
            clear hlt2
            go_wp2
            have hs1 : IntKind.i64.wrap ((j : Int) + 1 - 1) = (j : Int) := by rw [IntWalk.i64_in _ (by omega)]; omega
            go_quiet ((go_at_call 57; exact quiet_left (spec_l01In _ _ _ _)))
            clear hs1
            go_wp2
            go_roundw
            case rel =>
              exact ⟨j + 1 + 1, bs.set q true, by omega, by go_num, ho.out.store q true, hse.out.step ho.out.1 HQ.out hq8, step_all hin.out HR.out, step_all has.out (.inr (by rw [HQ.out]; exact HL.out)), (hb.out.drewN _).setCell (Nat.le_refl _) _⟩
            case measure => simp [intOf]; omega
          · have HL := Lib.hid hlt2
            have hq2 : decide ((q : Int) ≤ ith xs j) = true := by simp; omega
            clear hlt2
            go_wp2
            have hs1 : IntKind.i64.wrap ((j : Int) + 1 - 1) = (j : Int) := by rw [IntWalk.i64_in _ (by omega)]; omega
            go_quiet ((go_at_call 57; exact quiet_left (spec_l01In _ _ _ _)))
            clear hs1
            go_wp2
            go_ret
            refine ⟨ret_bool ?_, hb.out.drewN _⟩
            rw [closedI, strictI, ascB_f (j := j) (by rw [H.out.1]; exact hlt) (by have := HL.out; rw [HQ.out]; omega)]; rfl
      · have hr' : inB (ith xs k) 0 7 = false := by simpa using hr
        clear hr
        go_wp2
        go_quiet ((go_at_call 57; exact quiet_left (spec_l01In _ _ _ _)))
        go_wp2
        go_ret
        refine ⟨ret_bool ?_, hb.out.drewN _⟩
        rw [closedI, strictI, allIn_f (by rw [H.out.1]; exact hlt) hr']; simp
    · have ek : k = n := by omega
      have EK := Lib.hid ek
      clear ek
      have HS := Lib.hid (show Seen xs bs xs.length by rw [H.out.1, ← EK.out]; exact hse.out)
      have HI := Lib.hid (show ∀ j, j < n → 0 ≤ ith xs j ∧ ith xs j ≤ 7 from fun j hj => by have := hin.out j (by rw [EK.out]; exact hj); simpa [inB] using this)
      have HT := Lib.hid (show strictI xs 0 7 = true by rw [strictI, ascB_t (fun k' hk' => has.out k' (by rw [EK.out]; rw [H.out.1] at hk'; exact hk')), allIn_t (fun k' hk' => hin.out k' (by rw [EK.out]; rw [H.out.1] at hk'; exact hk'))]; rfl)
      go_wp2
      go_loopw [5] (fun i wr => ∃ k : Nat, k ≤ n ∧ i = .int .i64 k ∧ Hid (∀ j, j < k → rowOk xs j = true) ∧ Hid (∃ m, wr = wo.drewN m)) (fun i _ => n - (intOf i).toNat)
      case atStart => exact ⟨0, Nat.zero_le _, rfl, fun j hj => absurd hj (by omega), ⟨0, rfl⟩⟩
      case round =>
        obtain ⟨a, ha, rfl, hp, hm⟩ := hrel
        obtain ⟨m, rfl⟩ := hm.out
        clear hm
        by_cases hlt1 : a < n
        · go_wp2
          go_loopw [6] (fun i wr => ∃ k : Nat, k ≤ n ∧ i = .int .i64 k ∧ Hid (∀ j, j < k → 0 ≤ idxI xs (prodZ (ith xs a) (ith xs j))) ∧ Hid (∃ m, wr = wo.drewN m)) (fun i _ => n - (intOf i).toNat)
          case atStart => exact ⟨0, Nat.zero_le _, rfl, fun j hj => absurd hj (by omega), ⟨m, rfl⟩⟩
          case round =>
            obtain ⟨b, hb2, rfl, hp2, hm2⟩ := hrel
            obtain ⟨m2, rfl⟩ := hm2.out
            clear hm2
            by_cases hlt2 : b < n
            · obtain ⟨g, off, rfl, hc⟩ := (H.out.below hb.out).at_ hlt1
              obtain ⟨g', off', e', hc'⟩ := (H.out.below hb.out).at_ hlt2
              simp only [Option.some.injEq, Addr.mk.injEq, and_true] at e'
              obtain ⟨rfl, rfl⟩ := e'
              have h1 : (0 : Int) ≤ (a : Int) := by omega
              have h2 : (a : Int) < (n : Int) := by omega
              have h3 : (0 : Int) ≤ (b : Int) := by omega
              have h4 : (b : Int) < (n : Int) := by omega
              have hpr := prodZ_in (HI.out a hlt1) (HI.out b hlt2)
              obtain ⟨q, hq⟩ := Int.eq_ofNat_of_zero_le hpr.1
              have hq8 : q < 8 := by omega
              have HQ := Lib.hid hq
              have hc3 := ho.out.cellAt hq8
              have hq0 : (0 : Int) ≤ prodZ (ith xs a) (ith xs b) := hpr.1
              have hq1 : prodZ (ith xs a) (ith xs b) < 8 := by omega
              have hqn : (prodZ (ith xs a) (ith xs b)).toNat = q := by rw [hq]; rfl
              clear hq hpr
              by_cases hbt : bth bs q = true
              · go_wp2
                go_quiet ((go_at_call 69; exact quiet_add_left (spec_ProductOf _ _ _)))
                go_wp2
                go_roundw
                case rel =>
                  exact ⟨b + 1, by omega, by go_num, step_all hp2.out (by have e := Seen.idx HS.out hq8; rw [hbt] at e; rw [HQ.out]; exact of_decide_eq_true e.symm), ⟨_, rfl⟩⟩
                case measure => simp [intOf]; omega
              · have hbf : bth bs q = false := by simpa using hbt
                clear hbt
                go_wp2
                go_quiet ((go_at_call 69; exact quiet_add_left (spec_ProductOf _ _ _)))
                go_wp2
                go_ret
                refine ⟨ret_bool ?_, (hb.out.drewN _).drewN _⟩
                have e := Seen.idx HS.out hq8
                rw [hbf] at e
                have e2 := of_decide_eq_false e.symm
                rw [closedI, allOk_f (by rw [H.out.1]; exact hlt1) (rowOk_f (by rw [H.out.1]; exact hlt2) (by rw [HQ.out]; omega))]; simp
            · go_wp2
              go_roundw
              case rel =>
                obtain rfl : b = n := by omega
                exact ⟨a + 1, by omega, by go_num, step_all hp.out (rowOk_t (fun j hj => hp2.out j (by rw [H.out.1] at hj; exact hj))), ⟨_, rfl⟩⟩
              case measure => simp [intOf]; omega
        · have hc0 := ho.out.cellAt (k := 0) (by omega)
          go_wp2
          go_ret
          refine ⟨ret_bool ?_, hb.out.drewN _⟩
          rw [closedI, HT.out, allOk_t (fun j hj => hp.out j (by rw [H.out.1] at hj; omega)), Seen.idx HS.out (v := 0) (by omega)]; simp

set_option maxHeartbeats 1000000 in
theorem walk_FnExactIsClosed_small (A : Option Addr) (n c : Nat) (xs : List Int) (w : World) (h : RdI w w.heap.size A n xs) (hn : n ≤ 1048576) :
    Calls Try.prog 15 #[.slice A n c] w fun e w' => e = .returned (.bool true) ∧ Below w.heap.size w w' := by
  have a_x := h
  have HW := Below.refl w.heap.size w
  have hs := lt2
  go_enter Try.func15, Try.ntmps15
  go_wp2_with fail
  refine (laws_toIntS _ _ _ _ _ (a_x.more (by omega))).mono ?_
  rintro e w1 ⟨g_p, rfl, f_p, hb1⟩
  have hy1 := hb1.size
  replace a_x := a_x.below (hb1.mono (by omega))
  replace HW := HW.trans (hb1.mono (by omega))
  have l_p := Lib.hid f_p.lt
  go_wp2_with fail
  refine (spec_IsClosed _ _ _ _ _ f_p.rd).mono ?_
  rintro e w2 ⟨rfl, hb2⟩
  have hy2 := hb2.size
  replace f_p := f_p.next hb2
  replace a_x := a_x.below (hb2.mono (by omega))
  replace HW := HW.trans (hb2.mono (by omega))
  go_wp2_with fail
  refine (laws_toIntS _ _ _ _ _ (a_x.more (by omega))).mono ?_
  rintro e w3 ⟨g_x0, rfl, f_x0, hb3⟩
  have hy3 := hb3.size
  replace f_p := f_p.next hb3
  replace a_x := a_x.below (hb3.mono (by omega))
  replace HW := HW.trans (hb3.mono (by omega))
  have l_x0 := Lib.hid f_x0.lt
  go_wp2_with fail
  refine (impl_IsClosed _ _ _ _ _ f_x0.rd).mono ?_
  rintro e w4 ⟨rfl, hb4⟩
  have hy4 := hb4.size
  replace f_p := f_p.next hb4
  replace f_x0 := f_x0.next hb4
  replace a_x := a_x.below (hb4.mono (by omega))
  replace HW := HW.trans (hb4.mono (by omega))
  go_wp2_with fail
  refine (laws_toIntS _ _ _ _ _ (a_x.more (by omega))).mono ?_
  rintro e w5 ⟨g_q, rfl, f_q, hb5⟩
  have hy5 := hb5.size
  replace f_p := f_p.next hb5
  replace f_x0 := f_x0.next hb5
  replace a_x := a_x.below (hb5.mono (by omega))
  replace HW := HW.trans (hb5.mono (by omega))
  have l_q := Lib.hid f_q.lt
  go_wp2_with fail
  refine (laws_eqIntS_self _ _ _ _ _ _ _ _ f_x0.rd f_q.rd).mono ?_
  rintro e w6 ⟨rfl, hb6⟩
  have hy6 := hb6.size
  replace f_p := f_p.next hb6
  replace f_x0 := f_x0.next hb6
  replace f_q := f_q.next hb6
  replace a_x := a_x.below (hb6.mono (by omega))
  replace HW := HW.trans (hb6.mono (by omega))
  go_wp2
  go_ret
  exact ⟨rfl, HW⟩

set_option maxHeartbeats 400000 in
theorem walk_FnExactIsClosed_big (A : Option Addr) (n c : Nat) (xs : List Int) (w : World) (hb : 1048576 < n) (hm : n ≤ 9223372036854775807) :
    Calls Try.prog 15 #[.slice A n c] w fun e w' => e = .returned (.bool true) ∧ Below w.heap.size w w' := by
  go_enter Try.func15, Try.ntmps15
  go_wp2
  go_ret
  exact ⟨rfl, Below.refl _ _⟩

theorem walk_FnExactIsClosed (A : Option Addr) (n c : Nat) (xs : List Int) (w : World) (h : ArgI w A n xs) :
    Calls Try.prog 15 #[.slice A n c] w fun e w' => e = .returned (.bool true) ∧ Below w.heap.size w w' := by
  by_cases hb : n ≤ 1048576
  · exact walk_FnExactIsClosed_small A n c xs w (h.2 (by omega)) hb
  · exact walk_FnExactIsClosed_big A n c xs w (by omega) (by have := h.1; unfold maxLen at this; omega)

end Go.Proofs.Ytaohhfnpjkjdiaa
