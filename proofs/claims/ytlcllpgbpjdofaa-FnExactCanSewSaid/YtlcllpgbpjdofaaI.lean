/- Slices of ints: what it means that one reads as a list; walks of the laws' helpers and of the list functions. Lists of at most 2097152 numbers. -/
import Derived.Test.YtlcllpgbpjdofaaW1
import Derived.LoopTactic
import Derived.Lib.Hide
set_option linter.unusedSimpArgs false
set_option linter.unusedVariables false
namespace Go.Proofs.Ytlcllpgbpjdofaa
open Go.RowKit

/-- element k (0 behind the end) -/
def ith (xs : List Int) (k : Nat) : Int := xs.getD k 0
theorem ith_get {xs : List Int} {k : Nat} (h : k < xs.length) : ith xs k = xs[k] := by simp [ith, List.getD, List.getElem?_eq_getElem h]

/-- the slice value '.slice A n c' reads as the list xs, in blocks below B -/
def RdI (w : World) (B : Nat) (A : Option Addr) (n : Nat) (xs : List Int) : Prop :=
  xs.length = n ∧ n ≤ 2097152 ∧ (0 < n → ∃ g off, A = some ⟨g, off, none⟩ ∧ g < B ∧ ∀ k, k < n → w.cell? ⟨g, off + k, none⟩ = some (.int .i64 (ith xs k)))

section
variable {w w' : World} {B B' n : Nat} {A : Option Addr} {xs : List Int}
theorem RdI.le (h : RdI w B A n xs) : n ≤ 2097152 := h.2.1
theorem RdI.at_ (h : RdI w B A n xs) {k : Nat} (hk : k < n) : ∃ g off, A = some ⟨g, off, none⟩ ∧ w.cell? ⟨g, off + k, none⟩ = some (.int .i64 (ith xs k)) := by
  obtain ⟨g, off, e, _, hc⟩ := h.2.2 (by omega)
  exact ⟨g, off, e, hc k hk⟩
theorem RdI.below (h : RdI w B A n xs) (hb : Below B w w') : RdI w' B A n xs :=
  ⟨h.1, h.2.1, fun hn => by
    obtain ⟨g, off, e, hg, hc⟩ := h.2.2 hn
    exact ⟨g, off, e, hg, fun k hk => (hb.cell (p := ⟨g, off + k, none⟩) hg).trans (hc k hk)⟩⟩
theorem RdI.more (h : RdI w B A n xs) (hB : B ≤ B') : RdI w B' A n xs :=
  ⟨h.1, h.2.1, fun hn => by
    obtain ⟨g, off, e, hg, hc⟩ := h.2.2 hn
    exact ⟨g, off, e, by omega, hc⟩⟩
/-- after a call that leaves all old blocks -/
theorem RdI.next (h : RdI w w.heap.size A n xs) (hb : Below w.heap.size w w') : RdI w' w'.heap.size A n xs := (h.below hb).more hb.size
theorem RdI.grown (h : RdI w B A n xs) {row : Option Nat} (hg : w.grownBy w' row) (hB : B ≤ w.heap.size) (hr : ∀ g, row = some g → B ≤ g) : RdI w' B A n xs :=
  ⟨h.1, h.2.1, fun hn => by
    obtain ⟨g, off, e, hlt, hc⟩ := h.2.2 hn
    exact ⟨g, off, e, hlt, fun k hk => (World.cell?_of_block (a := ⟨g, off + k, none⟩) (hg.block g (by omega) (fun e' => by have := hr _ e'.symm; omega))).trans (hc k hk)⟩⟩
end

/-- the slice value '.slice A n c' is a row of the call's own, made at block B or later, and holds xs -/
def OwnI (w : World) (B : Nat) (A : Option Addr) (n c : Nat) (xs : List Int) : Prop :=
  n ≤ 2097152 ∧ w.ownsRow B 3 1 (.slice A n c) n (xs.map (Value.int .i64))

section
variable {w w' : World} {B B' n c : Nat} {A : Option Addr} {xs : List Int}
theorem OwnI.len (h : OwnI w B A n c xs) : xs.length = n := by simpa using h.2.1
theorem OwnI.form (h : OwnI w B A n c xs) (hn : 0 < n) : ∃ g, A = some ⟨g, 0, none⟩ ∧ B ≤ g ∧ g < w.heap.size := by
  rcases h.2.2 with ⟨hv, h0⟩ | ⟨g, cap, cur, hv, hg, hh, _⟩
  · omega
  · injection hv with h1
    refine ⟨g, h1, hg, ?_⟩
    rcases Nat.lt_or_ge g w.heap.size with hlt | hge
    · exact hlt
    · rw [Array.getElem?_eq_none hge] at hh; cases hh
theorem OwnI.rd (h : OwnI w B A n c xs) : RdI w w.heap.size A n xs := by
  refine ⟨h.len, h.1, fun hn => ?_⟩
  obtain ⟨g, rfl, hg, hlt⟩ := h.form hn
  refine ⟨g, 0, rfl, hlt, fun k hk => ?_⟩
  have hc := h.2.cells (g := g) rfl k (.int .i64 (ith xs k)) (by
    have hl := h.len
    rw [List.getElem?_map, List.getElem?_eq_getElem (by omega), ith_get (by omega)]; rfl)
  have he : (⟨g, 0, none⟩ : Addr).add k = ⟨g, 0 + k, none⟩ := by
    unfold Addr.add
    by_cases h0 : k = 0 <;> simp [h0]
  rwa [he] at hc
theorem OwnI.kept {row : Option Nat} (h : OwnI w B A n c xs) (hg : w.grownBy w' row) (hne : (Value.slice A n c).ownBlock = none ∨ (Value.slice A n c).ownBlock ≠ row) : OwnI w' B A n c xs := ⟨h.1, h.2.kept hg hne⟩
theorem _root_.Go.RowKit.Below.drewN {B : Nat} {a w : World} (h : Below B a w) (n : Nat) : Below B a (w.drewN n) := ⟨h.os, h.tape, h.output, h.size, h.block⟩
theorem grown_of_below (hb : Below w.heap.size w w') (row : Option Nat) : w.grownBy w' row := ⟨hb.os, hb.tape, hb.output, hb.size, fun i hi _ => hb.block i hi⟩
theorem OwnI.next (h : OwnI w B A n c xs) (hb : Below w.heap.size w w') : OwnI w' B A n c xs := by
  refine h.kept (grown_of_below hb none) ?_
  rcases hq : (Value.slice A n c).ownBlock with _ | g
  · exact .inl rfl
  · exact .inr (by simp)
theorem OwnI.base (h : OwnI w B A n c xs) (hB : B' ≤ B) : OwnI w B' A n c xs := by
  refine ⟨h.1, h.2.1, ?_⟩
  rcases h.2.2 with h2 | ⟨g, cap, cur, hv, hg, r⟩
  · exact .inl h2
  · exact .inr ⟨g, cap, cur, hv, by omega, r⟩
theorem OwnI.lt (h : OwnI w B A n c xs) : ∀ k, (Value.slice A n c).ownBlock = some k → B ≤ k ∧ k < w.heap.size := h.2.lt
end

theorem int_info : (Try.prog.info? 3).map (fun i => (i.zero, i.size, i.bytes)) = some (some (.int .i64 0), 1, 8) := by kernel_rfl

theorem take_ith (xs : List Int) (k : Nat) (h : k < xs.length) : xs.take (k + 1) = xs.take k ++ [ith xs k] := by
  rw [List.take_succ_eq_append_getElem h, ith_get h]

def allIn (xs : List Int) (a b : Int) : Bool := xs.all (fun x => inB x a b)
theorem allIn_f {xs : List Int} {a b : Int} {k : Nat} (hk : k < xs.length) (h : inB (ith xs k) a b = false) : allIn xs a b = false := by
  unfold allIn
  rw [List.all_eq_false]
  exact ⟨xs[k], List.getElem_mem hk, by rw [ith_get hk] at h; simp [h]⟩
theorem allIn_t {xs : List Int} {a b : Int} (h : ∀ k, k < xs.length → inB (ith xs k) a b = true) : allIn xs a b = true := by
  unfold allIn
  rw [List.all_eq_true]
  intro x hx
  obtain ⟨k, hk, rfl⟩ := List.getElem_of_mem hx
  have := h k hk
  rwa [ith_get hk] at this
theorem step_all {P : Nat → Prop} {k : Nat} (h : ∀ j, j < k → P j) (hk : P k) : ∀ j, j < k + 1 → P j := by
  intro j hj
  rcases Nat.lt_or_ge j k with h1 | h1
  · exact h j h1
  · obtain rfl : j = k := by omega
    exact hk

theorem quiet_left {P : Program} {f : FuncId} {args : Array Value} {w : World} {n : Nat} {v : Value}
    (h : Calls P f args (w.drewN n) fun e w' => e = .returned v ∧ w.drewN n = w') : Calls P f args (w.drewN n) fun e w'' => e = .returned v ∧ ∃ m, w'' = w.drewN m :=
  h.mono fun _ _ ⟨he, hm⟩ => ⟨he, n, hm.symm⟩
theorem quiet_add_left {P : Program} {f : FuncId} {args : Array Value} {w : World} {a n : Nat} {v : Value}
    (h : Calls P f args (w.drewN (a + n)) fun e w' => e = .returned v ∧ w.drewN (a + n) = w') :
    Calls P f args (w.drewN (a + n)) fun e w'' => e = .returned v ∧ ∃ m, w'' = w.drewN (a + m) :=
  h.mono fun _ _ ⟨he, hm⟩ => ⟨he, n, hm.symm⟩

set_option maxHeartbeats 400000 in
theorem impl_allWithin (A : Option Addr) (n c : Nat) (xs : List Int) (a b : Int) (w : World) (h : RdI w w.heap.size A n xs) :
    Calls Try.prog 123 #[.slice A n c, .int .i64 a, .int .i64 b] w fun e w' => e = .returned (.bool (allIn xs a b)) ∧ w = w' := by
  have hle := h.le
  have H := Lib.hid h
  clear h
  go_enter Try.func123, Try.ntmps123
  go_wp2
  go_loop [11] (fun i => ∃ k : Nat, k ≤ n ∧ i = .int .i64 k ∧ Hid (∀ j, j < k → inB (ith xs j) a b = true)) (fun i => n - (intOf i).toNat)
  case atStart => exact ⟨0, Nat.zero_le _, rfl, fun j hj => absurd hj (by omega)⟩
  case round =>
    obtain ⟨k, hk, rfl, hp⟩ := hrel
    by_cases hlt : k < n
    · obtain ⟨g, off, rfl, hc⟩ := H.out.at_ hlt
      by_cases hin : inB (ith xs k) a b = true
      · go_wp2_with (go_at_call 68; refine (impl_within _ _ _ _).mono ?_; rintro e w' ⟨rfl, rfl⟩)
        go_round
        case rel => exact ⟨k + 1, by omega, by go_num, step_all hp.out hin⟩
        case measure => simp [intOf]; omega
      · have hin' : inB (ith xs k) a b = false := by simpa using hin
        clear hin
        go_wp2_with (go_at_call 68; refine (impl_within _ _ _ _).mono ?_; rintro e w' ⟨rfl, rfl⟩)
        go_ret
        exact ⟨ret_bool (allIn_f (by rw [H.out.1]; exact hlt) hin').symm, rfl⟩
    · go_wp2
      go_ret
      exact ⟨ret_bool (allIn_t (fun j hj => hp.out j (by rw [H.out.1] at hj; omega))).symm, rfl⟩


theorem ith_set_self {xs : List Int} {k : Nat} {x : Int} (h : k < xs.length) : ith (xs.set k x) k = x := by simp [ith, List.getD, h]
theorem ith_set_other {xs : List Int} {k j : Nat} {x : Int} (h : j ≠ k) : ith (xs.set k x) j = ith xs j := by simp [ith, List.getD, List.getElem?_set_ne (Ne.symm h)]
theorem ext_ith {xs ys : List Int} (hl : xs.length = ys.length) (h : ∀ j, j < xs.length → ith xs j = ith ys j) : xs = ys := by
  apply List.ext_getElem hl
  intro j h1 h2
  have := h j h1
  rwa [ith_get h1, ith_get h2] at this

/-- the numbers k0, k0 + 1, .. -/
def marks (k0 : Int) (n : Nat) : List Int := (List.range n).map (fun (i : Nat) => k0 + (i : Int))
theorem marks_len (k0 : Int) (n : Nat) : (marks k0 n).length = n := by simp [marks]
theorem ith_marks {k0 : Int} {n j : Nat} (h : j < n) : ith (marks k0 n) j = k0 + j := by
  rw [ith_get (by rw [marks_len]; exact h)]; simp [marks]

theorem OwnI.cellAt {w : World} {B n c g : Nat} {xs : List Int} (h : OwnI w B (some ⟨g, 0, none⟩) n c xs) {k : Nat} (hk : k < n) : w.cell? ⟨g, k, none⟩ = some (.int .i64 (ith xs k)) := by
  obtain ⟨g', off, e, hc⟩ := h.rd.at_ hk
  simp only [Option.some.injEq, Addr.mk.injEq, and_true] at e
  obtain ⟨rfl, rfl⟩ := e
  simpa using hc
theorem OwnI.frozenAt {w : World} {B n c g : Nat} {xs : List Int} (h : OwnI w B (some ⟨g, 0, none⟩) n c xs) (hn : 0 < n) (k : Nat) : w.frozen? ⟨g, k, none⟩ = false := by
  have h2 := h.2
  rcases h.2.2 with ⟨hv, h0⟩ | ⟨g', cap, cur, hv, hg, hh, _⟩
  · omega
  · injection hv with h1 h3 h4
    subst h4
    exact World.ownsRow.frozenAt h2 k
theorem OwnI.store {w : World} {B n c g : Nat} {xs : List Int} (h : OwnI w B (some ⟨g, 0, none⟩) n c xs) {k : Nat} (x : Int) :
    OwnI (w.setCell ⟨g, k, none⟩ (.int .i64 x)) B (some ⟨g, 0, none⟩) n c (xs.set k x) ∧ w.grownBy (w.setCell ⟨g, k, none⟩ (.int .i64 x)) (some g) := by
  have h2 := World.ownsRow.stored h.2 k (.int .i64 x)
  exact ⟨⟨h.1, by rw [List.map_set]; exact h2.1⟩, h2.2⟩
theorem grown_tr {a b c : World} {row : Option Nat} (h : a.grownBy b row) (k : b.grownBy c row) : a.grownBy c row :=
  ⟨k.os.trans h.os, k.tape.trans h.tape, k.output.trans h.output, Nat.le_trans h.size k.size, fun i hi hne => (k.block i (Nat.lt_of_lt_of_le hi h.size) hne).trans (h.block i hi hne)⟩
theorem madeI {w w1 : World} {n : Nat} (hn : n ≤ 2097152) (h : w1.ownsRow w.heap.size 3 1 (.slice (some ⟨w.heap.size, 0, none⟩) n n) n (madeCells (Value.int .i64 0).cells (n * 1)).toList) :
    OwnI w1 w.heap.size (some ⟨w.heap.size, 0, none⟩) n n (List.replicate n 0) := by
  refine ⟨hn, ?_⟩
  have e : (madeCells (Value.int .i64 0).cells (n * 1)).toList = (List.replicate n (0 : Int)).map (Value.int .i64) := by
    rw [Nat.mul_one, List.map_replicate]; exact toList_madeCells_one _ n
  rwa [e] at h


def eqI (xs ys : List Int) : Bool := decide (xs = ys)
theorem eqI_self (xs : List Int) : eqI xs xs = true := by simp [eqI]
theorem eqI_f {xs ys : List Int} {k : Nat} (h : ith xs k ≠ ith ys k) : eqI xs ys = false := by
  simp only [eqI, decide_eq_false_iff_not]; rintro rfl; exact h rfl

set_option maxHeartbeats 400000 in
theorem laws_eqIntS (A A' : Option Addr) (n c n' c' : Nat) (xs ys : List Int) (w : World) (h : RdI w w.heap.size A n xs) (h' : RdI w w.heap.size A' n' ys) :
    Calls Try.prog 44 #[.slice A n c, .slice A' n' c'] w fun e w' => e = .returned (.bool (eqI xs ys)) ∧ Below w.heap.size w w' := by
  have hle := h.le
  have hle' := h'.le
  have H := Lib.hid h
  have H' := Lib.hid h'
  clear h h'
  by_cases hn : n = n'
  · subst hn
    have hq : ((n : Int) != (n : Int)) = false := by simp
    go_enter Try.func44, Try.ntmps44
    go_wp2
    clear hq
    go_loopw [5] (fun i wr => ∃ (k : Nat), k ≤ n ∧ i = .int .i64 k ∧ Hid (∀ j, j < k → ith xs j = ith ys j) ∧ Hid (Below w.heap.size w wr)) (fun i _ => n - (intOf i).toNat)
    case atStart => exact ⟨0, Nat.zero_le _, rfl, fun j hj => absurd hj (by omega), Below.refl _ _⟩
    case round =>
      obtain ⟨k, hk, rfl, hp, hb⟩ := hrel
      by_cases hlt : k < n
      · obtain ⟨g, off, rfl, hc⟩ := (H.out.below hb.out).at_ hlt
        obtain ⟨g', off', rfl, hc'⟩ := (H'.out.below hb.out).at_ hlt
        have h0 : (0 : Int) ≤ (k : Int) := by omega
        have h1 : (k : Int) < (n : Int) := by omega
        by_cases he : ith xs k = ith ys k
        · have HE := Lib.hid he
          clear he
          have hq : (ith xs k != ith ys k) = false := by simpa using HE.out
          go_wp2
          go_quiet (fail)
          go_wp2
          go_roundw
          case rel => exact ⟨k + 1, by omega, by go_num, step_all hp.out HE.out, hb.out.drewN _⟩
          case measure => simp [intOf]; omega
        · have HE := Lib.hid he
          clear he
          have hq : (ith xs k != ith ys k) = true := by simpa using HE.out
          go_wp2
          go_quiet (fail)
          go_wp2
          go_ret
          exact ⟨ret_bool (eqI_f HE.out).symm, hb.out.drewN _⟩
      · go_wp2
        go_ret
        have hx := H.out.1
        have hy := H'.out.1
        have e : xs = ys := ext_ith (by omega) (fun j hj => hp.out j (by omega))
        exact ⟨ret_bool (by rw [e, eqI_self]), hb.out⟩
  · have hq : ((n : Int) != (n' : Int)) = true := by simp; omega
    go_enter Try.func44, Try.ntmps44
    go_wp2
    go_ret
    refine ⟨ret_bool ?_, Below.refl _ _⟩
    have hx := H.out.1
    have hy := H'.out.1
    simp only [eqI]
    rw [eq_comm, decide_eq_false_iff_not]
    rintro rfl
    omega

theorem laws_eqIntS_self (A A' : Option Addr) (n c n' c' : Nat) (xs : List Int) (w : World) (h : RdI w w.heap.size A n xs) (h' : RdI w w.heap.size A' n' xs) :
    Calls Try.prog 44 #[.slice A n c, .slice A' n' c'] w fun e w' => e = .returned (.bool true) ∧ Below w.heap.size w w' :=
  (laws_eqIntS A A' n c n' c' xs xs w h h').mono fun _ _ ⟨h1, h2⟩ => ⟨by rw [h1, eqI_self], h2⟩

set_option maxHeartbeats 400000 in
theorem laws_markIntS (A : Option Addr) (n c B : Nat) (xs : List Int) (k0 : Int) (w : World) (h : OwnI w B A n c xs) (hk0 : 0 ≤ k0) (hk1 : k0 ≤ 1000000000000) :
    Calls Try.prog 45 #[.slice A n c, .int .i64 k0] w fun e w' => e = .returned (.int .i64 (k0 + n)) ∧ OwnI w' B A n c (marks k0 n) ∧ w.grownBy w' (Value.slice A n c).ownBlock := by
  have hle := h.1
  have H := Lib.hid h
  clear h
  go_enter Try.func45, Try.ntmps45
  go_wp2
  go_loopw [1, 5] (fun q i wr => ∃ (k : Nat) (ys : List Int), k ≤ n ∧ i = .int .i64 k ∧ q = .int .i64 (k0 + k) ∧ Hid (OwnI wr B A n c ys) ∧ Hid (∀ j, j < k → ith ys j = k0 + j) ∧ Hid (w.grownBy wr (Value.slice A n c).ownBlock)) (fun _ i _ => n - (intOf i).toNat)
  case atStart => exact ⟨0, xs, Nat.zero_le _, rfl, by simp, H, fun j hj => absurd hj (by omega), World.grownBy.refl _ _⟩
  case round =>
    obtain ⟨k, ys, hk, rfl, rfl, ho, hp, hb⟩ := hrel
    by_cases hlt : k < n
    · obtain ⟨g, rfl, _, _⟩ := ho.out.form (by omega)
      have hc2 := ho.out.cellAt hlt
      have hf2 := ho.out.frozenAt (by omega) k
      go_wp2
      go_roundw
      case rel =>
        have hst := ho.out.store (k := k) (k0 + k)
        refine ⟨k + 1, ys.set k (k0 + k), by omega, by go_num, by go_num, hst.1, ?_, grown_tr hb.out hst.2⟩
        have hl := ho.out.len
        intro j hj
        by_cases hjk : j = k
        · subst hjk; exact ith_set_self (by omega)
        · rw [ith_set_other hjk]; exact hp.out j (by omega)
      case measure => simp [intOf]; omega
    · go_wp2
      go_ret
      have hl := ho.out.len
      have e : ys = marks k0 n := ext_ith (by rw [marks_len]; exact hl) (fun j hj => by rw [ith_marks (by omega)]; exact hp.out j (by omega))
      have ek : k = n := by omega
      exact ⟨by rw [ek]; rfl, e ▸ ho.out, hb.out⟩

set_option maxHeartbeats 400000 in
theorem laws_heldIntS (A : Option Addr) (n c : Nat) (k0 : Int) (w : World) (h : RdI w w.heap.size A n (marks k0 n)) (hk0 : 0 ≤ k0) (hk1 : k0 ≤ 1000000000000) :
    Calls Try.prog 46 #[.slice A n c, .int .i64 k0] w fun e w' => e = .returned (.int .i64 (k0 + n)) ∧ w = w' := by
  have hle := h.le
  have H := Lib.hid h
  clear h
  go_enter Try.func46, Try.ntmps46
  go_wp2
  go_loop [1, 5] (fun q i => ∃ (k : Nat), k ≤ n ∧ i = .int .i64 k ∧ q = .int .i64 (k0 + k)) (fun _ i => n - (intOf i).toNat)
  case atStart => exact ⟨0, Nat.zero_le _, rfl, by simp⟩
  case round =>
    obtain ⟨k, hk, rfl, rfl⟩ := hrel
    by_cases hlt : k < n
    · obtain ⟨g, off, rfl, hc⟩ := H.out.at_ hlt
      rw [ith_marks hlt] at hc
      go_wp2
      go_round
      case rel => exact ⟨k + 1, by omega, by go_num, by go_num⟩
      case measure => simp [intOf]; omega
    · go_wp2
      go_ret
      have ek : k = n := by omega
      exact ⟨by rw [ek]; rfl, rfl⟩



end Go.Proofs.Ytlcllpgbpjdofaa
