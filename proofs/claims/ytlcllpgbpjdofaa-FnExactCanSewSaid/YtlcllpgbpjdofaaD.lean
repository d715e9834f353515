/- The cursor over the bytes of a draw: what the reference's draws hand back. No condition. -/
import Derived.Test.YtlcllpgbpjdofaaP
import Derived.Deep.QuietTactic
import Derived.BigQuiet
import Derived.Deep.RegionHeld3
set_option linter.unusedSimpArgs false
set_option linter.unusedVariables false
set_option maxRecDepth 100000
namespace Go.Proofs.Ytlcllpgbpjdofaa
open Go.RowKit

/-- the slice value '.slice A n c' reads as n bytes, in blocks below B -/
def RdB (w : World) (B : Nat) (A : Option Addr) (n : Nat) : Prop :=
  n ≤ 2097152 ∧ (0 < n → ∃ g off, A = some ⟨g, off, none⟩ ∧ g < B ∧ ∀ k, k < n → ∃ v : Int, 0 ≤ v ∧ v < 256 ∧ w.cell? ⟨g, off + k, none⟩ = some (.int .u8 v))

section
variable {w w' : World} {B B' n : Nat} {A : Option Addr}
theorem RdB.le (h : RdB w B A n) : n ≤ 2097152 := h.1
theorem RdB.at_ (h : RdB w B A n) {k : Nat} (hk : k < n) : ∃ g off v, A = some ⟨g, off, none⟩ ∧ (0 : Int) ≤ v ∧ v < 256 ∧ w.cell? ⟨g, off + k, none⟩ = some (.int .u8 v) := by
  obtain ⟨g, off, e, _, hc⟩ := h.2 (by omega)
  obtain ⟨v, h0, h1, h2⟩ := hc k hk
  exact ⟨g, off, v, e, h0, h1, h2⟩
theorem RdB.move (h : RdB w B A n) (hb : ∀ g o, g < B → w'.cell? ⟨g, o, none⟩ = w.cell? ⟨g, o, none⟩) : RdB w' B A n :=
  ⟨h.1, fun hn => by
    obtain ⟨g, off, e, hg, hc⟩ := h.2 hn
    refine ⟨g, off, e, hg, fun k hk => ?_⟩
    obtain ⟨v, h0, h1, h2⟩ := hc k hk
    exact ⟨v, h0, h1, (hb _ _ hg).trans h2⟩⟩
theorem RdB.below (h : RdB w B A n) (hb : Below B w w') : RdB w' B A n := h.move fun g o hg => hb.cell (p := ⟨g, o, none⟩) hg
theorem RdB.more (h : RdB w B A n) (hB : B ≤ B') : RdB w B' A n :=
  ⟨h.1, fun hn => by
    obtain ⟨g, off, e, hg, hc⟩ := h.2 hn
    exact ⟨g, off, e, by omega, hc⟩⟩
theorem RdB.grown (h : RdB w B A n) {row : Option Nat} (hg : w.grownBy w' row) (hB : B ≤ w.heap.size) (hr : ∀ g, row = some g → B ≤ g) : RdB w' B A n :=
  h.move fun g o hlt => World.cell?_of_block (a := ⟨g, o, none⟩) (hg.block g (by omega) (fun e' => by have := hr _ e'.symm; omega))
end

/-- block g holds a cursor over the bytes '.slice A n c' -/
def Cur (w : World) (B g : Nat) (A : Option Addr) (n c : Nat) : Prop :=
  B ≤ g ∧ g < w.heap.size ∧ RdB w B A n ∧ (∀ o, w.frozen? ⟨g, o, none⟩ = false) ∧
    w.cell? ⟨g, 0, none⟩ = some (.slice A n c) ∧ ∃ i h : Int, 0 ≤ i ∧ i ≤ n ∧ w.cell? ⟨g, 1, none⟩ = some (.int .i64 i) ∧ w.cell? ⟨g, 2, none⟩ = some (.int .i64 h)

section
variable {w w' : World} {B g n c : Nat} {A : Option Addr}
theorem Cur.keep (h : Cur w B g A n c) {row : Option Nat} (hg : w.grownBy w' row) (hne : row ≠ some g) (hr : ∀ k, row = some k → B ≤ k) : Cur w' B g A n c := by
  obtain ⟨h1, h2, h3, h4, h5, i, q, h6, h7, h8, h9⟩ := h
  have hb := hg.block g h2 (fun e => hne e.symm)
  exact ⟨h1, Nat.lt_of_lt_of_le h2 hg.size, h3.grown hg (by omega) hr, fun o => (World.frozen?_of_block (a := ⟨g, o, none⟩) hb).trans (h4 o), (World.cell?_of_block (a := ⟨g, 0, none⟩) hb).trans h5, i, q, h6, h7, (World.cell?_of_block (a := ⟨g, 1, none⟩) hb).trans h8, (World.cell?_of_block (a := ⟨g, 2, none⟩) hb).trans h9⟩
theorem Cur.next (h : Cur w B g A n c) (hb : Below w.heap.size w w') : Cur w' B g A n c := h.keep (grown_of_below hb none) (by simp) (fun _ h => by cases h)
end

theorem and_255 (x : Int) : 0 ≤ bits .and .i64 x 255 ∧ bits .and .i64 x 255 ≤ 255 := by
  have h : (BitVec.ofInt 64 x &&& BitVec.ofInt 64 255).toNat ≤ 255 := by
    rw [BitVec.toNat_and]
    exact Nat.le_trans Nat.and_le_right (by decide)
  have e : bits .and .i64 x 255 = IntKind.i64.wrap ((BitVec.ofInt 64 x &&& BitVec.ofInt 64 255).toNat : Int) := rfl
  rw [e, IntWalk.i64_in _ (by omega)]
  omega


section
variable {a w : World} {b : Nat} {row : Option Nat}
theorem gG_refl (w : World) (row : Option Nat) : w.grownBy w row := World.grownBy.refl w row
theorem gG_set (h : a.grownBy w (some b)) (o : Nat) (v : Value) : a.grownBy (w.setCell ⟨b, o, none⟩ v) (some b) := grown_tr h
  ⟨rfl, rfl, rfl, by simp [World.setCell], fun k _ hk => Below.heap_setCell _ _ _ _ (fun e => hk (by simp [e]))⟩
theorem gG_drewN (h : a.grownBy w row) (n : Nat) : a.grownBy (w.drewN n) row := grown_tr h (grown_of_below ((Below.refl _ _).drewN n) row)
theorem gG_drew (h : a.grownBy w row) : a.grownBy w.drew row := grown_tr h (grown_of_below (Below.refl _ _).drew row)
theorem gG_alloc (h : a.grownBy w row) (o : Obj) : a.grownBy (w.alloc o) row := grown_tr h (World.grownBy_alloc w o row)
end
theorem Cur.mk' {w w' : World} {B g n c : Nat} {A : Option Addr} (h : Cur w B g A n c) (hg : w.grownBy w' (some g)) (h0 : w'.cell? ⟨g, 0, none⟩ = some (.slice A n c)) (hf : ∀ o, w'.frozen? ⟨g, o, none⟩ = false) {i q : Int} (hi : 0 ≤ i) (hi' : i ≤ n) (h1 : w'.cell? ⟨g, 1, none⟩ = some (.int .i64 i)) (h2 : w'.cell? ⟨g, 2, none⟩ = some (.int .i64 q)) : Cur w' B g A n c :=
  ⟨h.1, Nat.lt_of_lt_of_le h.2.1 hg.size, h.2.2.1.grown hg (by have := h.1; have := h.2.1; omega) (fun k e => by cases e; exact h.1), hf, h0, i, q, hi, hi', h1, h2⟩

theorem Cur.setH {w : World} {B g n c : Nat} {A : Option Addr} (h : Cur w B g A n c) (v : Int) : Cur (w.setCell ⟨g, 2, none⟩ (.int .i64 v)) B g A n c := by
  have h' := h
  obtain ⟨h1, h2, h3, h4, h5, i, q, h6, h7, h8, h9⟩ := h'
  exact h.mk' (gG_set (gG_refl _ _) _ _) ((World.cell?_setCell_other _ _ _ _ (by simp)).trans h5) (fun o => by simp [go_sem, h4]) h6 h7 ((World.cell?_setCell_other _ _ _ _ (by simp)).trans h8) (World.cell?_setCell_same _ _ _ h9)
theorem Cur.setI {w : World} {B g n c : Nat} {A : Option Addr} (h : Cur w B g A n c) (v : Int) (hv : 0 ≤ v) (hv' : v ≤ n) : Cur (w.setCell ⟨g, 1, none⟩ (.int .i64 v)) B g A n c := by
  have h' := h
  obtain ⟨h1, h2, h3, h4, h5, i, q, h6, h7, h8, h9⟩ := h'
  exact h.mk' (gG_set (gG_refl _ _) _ _) ((World.cell?_setCell_other _ _ _ _ (by simp)).trans h5) (fun o => by simp [go_sem, h4]) hv hv' (World.cell?_setCell_same _ _ _ h8) ((World.cell?_setCell_other _ _ _ _ (by simp)).trans h9)
theorem Cur.drewN {w : World} {B g n c : Nat} {A : Option Addr} (h : Cur w B g A n c) (k : Nat) : Cur (w.drewN k) B g A n c := h.next ((Below.refl _ _).drewN k)

/-- a drawn number: its value lies as P says; the cursor stands on; only the cursor has been written -/
def Drawn (w : World) (B g : Nat) (A : Option Addr) (n c : Nat) (P : Int → Prop) (e : Ending) (w' : World) : Prop := ∃ x : Int, P x ∧ e = .returned (.int .i64 x) ∧ Cur w' B g A n c ∧ w.grownBy w' (some g)

set_option maxHeartbeats 1000000 in
theorem spec_l01Byte (B g : Nat) (A : Option Addr) (n c : Nat) (w : World) (h : Cur w B g A n c) :
    Calls Try.prog 105 #[.pointer (some ⟨g, 0, none⟩)] w (Drawn w B g A n c (fun x => 0 ≤ x ∧ x ≤ 255)) := by
  have HC := Lib.hid h
  obtain ⟨hB, hg, hr, hfz, hc0, i, q, hi0, hi1, hc1, hc2⟩ := h
  have hle := hr.le
  obtain ⟨i, rfl⟩ := Int.eq_ofNat_of_zero_le hi0
  have f0 := hfz 2
  have f1 := hfz 1
  have HF := Lib.hid hfz
  clear hfz
  by_cases hlt : i < n
  · obtain ⟨gb, off, v, rfl, hv0, hv1, hcv⟩ := hr.at_ hlt
    have hgb : gb ≠ g := by
      obtain ⟨gb', off', e, hlt', _⟩ := hr.2 (by omega)
      cases e; omega
    clear hr
    have i1 : (i : Int) < (n : Int) := by omega
    have hcv' : ∀ v', (w.setCell ⟨g, 2, none⟩ v').cell? ⟨gb, off + i, none⟩ = some (.int .u8 v) := fun v' => (World.cell?_setCell_far w _ _ v' (by dsimp only; omega)).trans hcv
    go_enter Try.func105, Try.ntmps105
    go_wp2
    go_quiet (fail)
    go_wp2
    go_quiet (fail)
    go_wp2
    go_quiet (fail)
    go_wp2
    go_ret
    exact ⟨_, and_255 _, rfl, by (repeat' (first | with_reducible exact HC.out | with_reducible refine Cur.setI ?_ _ (by omega) (by omega) | with_reducible refine Cur.setH ?_ _ | with_reducible refine Cur.drewN ?_ _)), by (repeat' (first | exact gG_refl _ _ | with_reducible assumption | refine gG_set ?_ _ _ | refine gG_drewN ?_ _ | refine gG_drew ?_ | refine gG_alloc ?_ _))⟩
  · have i1 : ¬ (i : Int) < (n : Int) := by omega
    go_enter Try.func105, Try.ntmps105
    go_wp2
    go_quiet (fail)
    go_wp2
    go_quiet (fail)
    go_wp2
    go_ret
    exact ⟨_, and_255 _, rfl, by (repeat' (first | with_reducible exact HC.out | with_reducible refine Cur.setI ?_ _ (by omega) (by omega) | with_reducible refine Cur.setH ?_ _ | with_reducible refine Cur.drewN ?_ _)), by (repeat' (first | exact gG_refl _ _ | with_reducible assumption | refine gG_set ?_ _ _ | refine gG_drewN ?_ _ | refine gG_drew ?_ | refine gG_alloc ?_ _))⟩

/-- one cursor step behind another -/
theorem Drawn.next {w w1 : World} {B g n c : Nat} {A : Option Addr} {P : Int → Prop} {e : Ending} {w' : World} (hg : w.grownBy w1 (some g)) (h : Drawn w1 B g A n c P e w') : Drawn w B g A n c P e w' := by
  obtain ⟨x, h1, h2, h3, h4⟩ := h
  exact ⟨x, h1, h2, h3, grown_tr hg h4⟩

def I64q (x : Int) : Prop := -9223372036854775808 ≤ x ∧ x ≤ 9223372036854775807
def belowP (m x : Int) : Prop := (m ≤ 0 → x = 0) ∧ (0 < m → 0 ≤ x ∧ x < m)
set_option maxHeartbeats 1000000 in
theorem spec_l01Below (B g : Nat) (A : Option Addr) (n c : Nat) (m : Int) (w : World) (h : Cur w B g A n c) :
    Calls Try.prog 65 #[.pointer (some ⟨g, 0, none⟩), .int .i64 m] w (Drawn w B g A n c (belowP m)) := by
  have HC := Lib.hid h
  clear h
  by_cases h0 : m ≤ 0
  · go_enter Try.func65, Try.ntmps65
    go_wp2
    go_ret
    exact ⟨0, ⟨fun _ => rfl, fun h => absurd h0 (by omega)⟩, rfl, HC.out, gG_refl _ _⟩
  by_cases h1 : m ≤ 256
  · have h0' : 0 < m := by omega
    go_enter Try.func65, Try.ntmps65
    go_wp2_with fail
    refine (spec_l01Byte _ _ _ _ _ _ HC.out).mono ?_
    rintro e w1 ⟨x, ⟨hx0, hx1⟩, rfl, hc1, hg1⟩
    have H1 := Lib.hid hc1
    clear hc1
    go_wp2
    go_ret
    exact ⟨x % m, ⟨fun h => absurd h (by omega), fun _ => ⟨Int.emod_nonneg _ (by omega), Int.emod_lt_of_pos _ (by omega)⟩⟩, rfl, H1.out, hg1⟩
  · have h0' : 0 < m := by omega
    go_enter Try.func65, Try.ntmps65
    go_wp2_with fail
    refine (spec_l01Byte _ _ _ _ _ _ HC.out).mono ?_
    rintro e w1 ⟨x, ⟨hx0, hx1⟩, rfl, hc1, hg1⟩
    have H1 := Lib.hid hc1
    have G1 := Lib.hid hg1
    clear hc1 hg1
    go_wp2_with fail
    refine (spec_l01Byte _ _ _ _ _ _ H1.out).mono ?_
    rintro e w2 ⟨y, ⟨hy0, hy1⟩, rfl, hc2, hg2⟩
    have H2 := Lib.hid hc2
    have G2 := Lib.hid (grown_tr G1.out hg2)
    clear hc2 hg2
    go_wp2_with fail
    refine (spec_l01Byte _ _ _ _ _ _ H2.out).mono ?_
    rintro e w3 ⟨z, ⟨hz0, hz1⟩, rfl, hc3, hg3⟩
    have H3 := Lib.hid hc3
    have G3 := Lib.hid (grown_tr G2.out hg3)
    clear hc3 hg3
    go_wp2_with fail
    refine (spec_l01Byte _ _ _ _ _ _ H3.out).mono ?_
    rintro e w4 ⟨u, ⟨hu0, hu1⟩, rfl, hc4, hg4⟩
    have H4 := Lib.hid hc4
    have G4 := Lib.hid (grown_tr G3.out hg4)
    clear hc4 hg4
    go_wp2
    go_ret
    refine ⟨(x * 16777216 + y * 65536 + z * 256 + u) % m, ⟨fun h => absurd h (by omega), fun _ => ⟨Int.emod_nonneg _ (by omega), Int.emod_lt_of_pos _ (by omega)⟩⟩, rfl, H4.out, G4.out⟩

def DrawnB (w : World) (B g : Nat) (A : Option Addr) (n c : Nat) (e : Ending) (w' : World) : Prop := ∃ b : Bool, e = .returned (.bool b) ∧ Cur w' B g A n c ∧ w.grownBy w' (some g)
set_option maxHeartbeats 1000000 in
theorem spec_l01Once (B g : Nat) (A : Option Addr) (n c : Nat) (m : Int) (w : World) (h : Cur w B g A n c) :
    Calls Try.prog 63 #[.pointer (some ⟨g, 0, none⟩), .int .i64 m] w (DrawnB w B g A n c) := by
  have HC := Lib.hid h
  clear h
  go_enter Try.func63, Try.ntmps63
  go_wp2_with fail
  refine (spec_l01Below _ _ _ _ _ _ _ HC.out).mono ?_
  rintro e w1 ⟨x, hx, rfl, hc1, hg1⟩
  have H1 := Lib.hid hc1
  have G1 := Lib.hid hg1
  clear hc1 hg1 hx
  go_wp2
  go_ret
  exact ⟨_, rfl, H1.out, G1.out⟩

set_option maxHeartbeats 1000000 in
theorem spec_l01PickInt (B g : Nat) (A : Option Addr) (n c : Nat) (G off m k0 : Nat) (w : World) (h : Cur w B g A n c) (hne : G ≠ g) (hG : G < w.heap.size) (hm0 : 0 < m) (hm1 : m ≤ 256) (hc : ∀ k, k < m → ∃ v, w.cell? ⟨G, off + k, none⟩ = some (.int .i64 v)) :
    Calls Try.prog 104 #[.pointer (some ⟨g, 0, none⟩), .slice (some ⟨G, off, none⟩) m k0] w (Drawn w B g A n c (fun x => ∃ k, k < m ∧ w.cell? ⟨G, off + k, none⟩ = some (.int .i64 x))) := by
  have HC := Lib.hid h
  have H := Lib.hid hc
  clear h hc
  go_enter Try.func104, Try.ntmps104
  go_wp2_with fail
  refine (spec_l01Below _ _ _ _ _ _ _ HC.out).mono ?_
  rintro e w1 ⟨x, hx, rfl, hc1, hg1⟩
  have H1 := Lib.hid hc1
  have G1 := Lib.hid hg1
  clear hc1 hg1
  obtain ⟨hx0, hx1⟩ := hx.2 (by omega)
  clear hx
  obtain ⟨k, rfl⟩ := Int.eq_ofNat_of_zero_le hx0
  obtain ⟨v, hv⟩ := H.out k (by omega)
  have hv1 : w1.cell? ⟨G, off + k, none⟩ = some (.int .i64 v) := (World.cell?_of_block (a := ⟨G, off + k, none⟩) (G1.out.block G hG (fun e => hne (by cases e; rfl)))).trans hv
  have HV := Lib.hid hv
  clear hv
  go_wp2
  go_ret
  exact ⟨v, ⟨k, by omega, HV.out⟩, rfl, H1.out, G1.out⟩

/-- a cursor that has just been made -/
def NewCur (w : World) (B : Nat) (A : Option Addr) (n c : Nat) (e : Ending) (w' : World) : Prop := ∃ g, e = .returned (.pointer (some ⟨g, 0, none⟩)) ∧ w.heap.size ≤ g ∧ Cur w' B g A n c ∧ Below w.heap.size w w'
theorem NewCur.mk {w : World} {B n c : Nat} {A : Option Addr} (hB : B ≤ w.heap.size) (h : RdB w B A n) (q : Int) (T : TypeId) : NewCur w B A n c (.returned (.pointer (some ⟨w.heap.size, 0, none⟩))) (w.alloc (.cells #[.slice A n c, .int .i64 0, .int .i64 q] T)) :=
  ⟨w.heap.size, rfl, Nat.le_refl _, ⟨hB, by simp, (h.below ((Below.refl _ _).alloc hB _)), fun o => by simp [go_sem], by simp [go_sem], 0, q, by omega, by omega, by simp [go_sem], by simp [go_sem]⟩, (Below.refl _ _).alloc (Nat.le_refl _) _⟩
set_option maxHeartbeats 1000000 in
theorem spec_l01New (B : Nat) (A : Option Addr) (n c : Nat) (w : World) (hB : B ≤ w.heap.size) (h : RdB w B A n) :
    Calls Try.prog 62 #[.slice A n c] w (NewCur w B A n c) := by
  have hle := h.le
  have H := Lib.hid h
  clear h
  go_enter Try.func62, Try.ntmps62
  go_wp2
  go_loop [3, 4] (fun v i => ∃ (k : Nat) (q : Int), k ≤ n ∧ i = .int .i64 k ∧ v = .int .i64 q) (fun _ i => n - (intOf i).toNat)
  case atStart => exact ⟨0, _, Nat.zero_le _, rfl, rfl⟩
  case round =>
    obtain ⟨k, q, hk, rfl, rfl⟩ := hrel
    by_cases hlt : k < n ∧ k < 4000
    · obtain ⟨hlt, hl4⟩ := hlt
      obtain ⟨gb, off, v, rfl, hv0, hv1, hcv⟩ := H.out.at_ hlt
      have i1 : (k : Int) < (n : Int) := by omega
      have i2 : (k : Int) < 4000 := by omega
      go_wp2
      go_round
      case rel => exact ⟨k + 1, _, by omega, by go_num, rfl⟩
      case measure => simp [intOf]; omega
    · by_cases h1 : k < n
      · have i1 : (k : Int) < (n : Int) := by omega
        have i2 : ¬ (k : Int) < 4000 := by omega
        clear hlt
        go_wp2
        go_ret
        exact NewCur.mk hB H.out _ _
      · have i1 : ¬ (k : Int) < (n : Int) := by omega
        clear hlt
        go_wp2
        go_ret
        exact NewCur.mk hB H.out _ _
end Go.Proofs.Ytlcllpgbpjdofaa
