/- Walks of TurnLayout, both sides. No condition. -/
import Derived.Test.YtlcllpgbpjdofaaSe
import Derived.Test.YtlcllpgbpjdofaaSa
set_option linter.unusedSimpArgs false
set_option linter.unusedVariables false
set_option maxRecDepth 100000
namespace Go.Proofs.Ytlcllpgbpjdofaa
open Go.RowKit

theorem bcellG {W w1 : World} {row : Option Nat} (hg : W.grownBy w1 row) {b : Nat} (h : b < W.heap.size) (hne : row = some b → False) : (∀ o, w1.cell? ⟨b, o, none⟩ = W.cell? ⟨b, o, none⟩) ∧ (∀ o, w1.frozen? ⟨b, o, none⟩ = W.frozen? ⟨b, o, none⟩) ∧ b < w1.heap.size :=
  ⟨fun o => World.cell?_of_block (a := ⟨b, o, none⟩) (hg.block b h (fun e => hne e.symm)), fun o => World.frozen?_of_block (a := ⟨b, o, none⟩) (hg.block b h (fun e => hne e.symm)), Nat.lt_of_lt_of_le h hg.size⟩
/-- one patch is appended -/
theorem wpList_pushP (w0 : World) (q : Pt) {cs : Array Value} {ops : Array Oper} {rest : List Oper} {o : Oper} {a : Act} {Q : Exit → Act → World → Prop} (hgd : o.guard = none) (s x : Operand)
    (ho : o.op = .call { callee := .builtin .append, args := #[s, x], argTypes := #[27, 27] }) (hcs : cs.toList = q.vals)
    (B : Nat) (A : Option Addr) (n c : Nat) (xs : List Pt) (hs : a.eval s = .slice A n c) (hown : OwnP w0 B A n c xs)
    {N : Nat} (hx : a.eval x = .slice (some ⟨N, 0, none⟩) 1 1) (hN : w0.heap.size = N) (hn : n + 1 ≤ 2097152) (hbase : B ≤ w0.heap.size)
    (hK : ∀ g' c' w', OwnP w' B (some ⟨g', 0, none⟩) (n + 1) c' (xs ++ [q]) → w0.grownBy w' (Value.slice A n c).ownBlock → ((Value.slice A n c).ownBlock = some g' ∨ w0.heap.size ≤ g') →
      wpList Try.prog ops Q rest (a.put o.dst (.slice (some ⟨g', 0, none⟩) (n + 1) c')) w') : wpList Try.prog ops Q (o :: rest) a (w0.alloc (.cells cs 34)) := by
  subst hN
  obtain ⟨i0, hi, hz0, hz1, hz2⟩ := info_parts patch_info
  refine wpList_pushG Pt.len w0 q cs hgd s x _ ho B 34 i0 (.agg #[.int .i64 0, .int .i64 0, .int .i64 0, .int .i64 0, .int .i64 0]) 40 Try.underlying27 hi hz0 hz1 hz2 (by omega) rfl (by omega) hcs ?_ A n c xs hs hown hx hn hbase hK
  intro u hu
  simp [Pt.vals] at hu
  rcases hu with rfl | rfl | rfl | rfl | rfl <;> rfl

def turnPt (y : Int) (p : Pt) : Pt := ⟨y - p.y - p.h, p.x, p.h, p.w, p.c⟩
def turnTo (y : Int) (ps : List Pt) (k : Nat) : List Pt := (ps.take k).map (turnPt y)
theorem turnTo_succ {y : Int} {ps : List Pt} {k : Nat} (h : k < ps.length) : turnTo y ps (k + 1) = turnTo y ps k ++ [turnPt y (pith ps k)] := by
  unfold turnTo
  rw [List.take_succ_eq_append_getElem h, List.map_append, pith_get h]; rfl
/-- the turned layout: its sides and its patches -/
noncomputable def turnZ (z y : Int) (ps : List Pt) : Int := if layB z y ps = true then y else 0
noncomputable def turnY (z y : Int) (ps : List Pt) : Int := if layB z y ps = true then z else 0
noncomputable def turnL (z y : Int) (ps : List Pt) : List Pt := if layB z y ps = true then turnTo y ps ps.length else []

set_option maxRecDepth 100000 in
set_option maxHeartbeats 2000000 in
theorem impl_TurnLayout_no (z y : Int) (A : Option Addr) (n c : Nat) (ps : List Pt) (w : World) (h : RdP w w.heap.size A n ps) (hbk : layB z y ps = false) :
    Calls Try.prog 18 #[.agg #[.int .i64 z, .int .i64 y, .slice A n c]] w fun e w' => ∃ A' n' c', e = .returned (.agg #[.int .i64 (turnZ z y ps), .int .i64 (turnY z y ps), .slice A' n' c']) ∧ OwnP w' w.heap.size A' n' c' (turnL z y ps) ∧ Below w.heap.size w w' := by
  have hs := lt2
  have E1 := Lib.hid (show turnZ z y ps = 0 from if_neg (by rw [hbk]; simp))
  have E2 := Lib.hid (show turnY z y ps = 0 from if_neg (by rw [hbk]; simp))
  have E3 := Lib.hid (show turnL z y ps = [] from if_neg (by rw [hbk]; simp))
  have hle := h.le
  have H := Lib.hid h
  clear h
  go_enter Try.func18, Try.ntmps18
  go_wp2_with (go_at_call 19; refine (impl_LayoutOk _ _ _ _ _ _ _ (H.out.below' (by (repeat' (first | (with_reducible exact Below.refl _ _) | (with_reducible refine Below.setCell ?_ ?_ _) | (with_reducible refine Below.alloc ?_ ?_ _) | (with_reducible refine Below.drew ?_) | (with_reducible refine Below.drewN ?_ _) | (with_reducible refine Below.trans ?_ (Below.mono (by with_reducible assumption) ?_)) | go_size | (dsimp only; omega)))) (by go_size))).mono ?_; rintro e w1 ⟨rfl, hb1⟩; have hx1 := bsize hb1; (try simp at hx1); obtain ⟨hc1, hf1, hz1⟩ := bcell hb1 (b := w.heap.size) (by go_size); obtain ⟨hd1, hg1, hy1⟩ := bcell hb1 (b := w.heap.size + 1) (by go_size))
  refine bodyPost_ret (by simp [results, Try.results18, go_sem, *]; try rfl) rfl ?_
  refine ⟨none, 0, 0, by rw [E1.out, E2.out], by rw [E3.out]; exact OwnG.nil_, ?_⟩
  (repeat' (first | (with_reducible exact Below.refl _ _) | (with_reducible refine Below.setCell ?_ ?_ _) | (with_reducible refine Below.alloc ?_ ?_ _) | (with_reducible refine Below.drew ?_) | (with_reducible refine Below.drewN ?_ _) | (with_reducible refine Below.trans ?_ (Below.mono (by with_reducible assumption) ?_)) | go_size | (dsimp only; omega)))
set_option maxRecDepth 100000 in
set_option maxHeartbeats 2000000 in
theorem impl_TurnLayout_yes (z y : Int) (A : Option Addr) (n c : Nat) (ps : List Pt) (w : World) (h : RdP w w.heap.size A n ps) (hbk : layB z y ps = true) :
    Calls Try.prog 18 #[.agg #[.int .i64 z, .int .i64 y, .slice A n c]] w fun e w' => ∃ A' n' c', e = .returned (.agg #[.int .i64 (turnZ z y ps), .int .i64 (turnY z y ps), .slice A' n' c']) ∧ OwnP w' w.heap.size A' n' c' (turnL z y ps) ∧ Below w.heap.size w w' := by
  have hs := lt2
  have E1 := Lib.hid (show turnZ z y ps = y from if_pos hbk)
  have E2 := Lib.hid (show turnY z y ps = z from if_pos hbk)
  have E3 := Lib.hid (show turnL z y ps = turnTo y ps ps.length from if_pos hbk)
  obtain ⟨hz1', hz2', hq1', hq2', hn1', hn2'⟩ := dimOk_t (layB_p hbk).1
  have hle := h.le
  have HL := Lib.hid h.1
  have HA := Lib.hid (layB_p hbk).2.1
  have H := Lib.hid h
  rw [h.1] at hn1' hn2'
  clear h
  go_enter Try.func18, Try.ntmps18
  go_wp2_with (go_at_call 19; refine (impl_LayoutOk _ _ _ _ _ _ _ (H.out.below' (by (repeat' (first | (with_reducible exact Below.refl _ _) | (with_reducible refine Below.setCell ?_ ?_ _) | (with_reducible refine Below.alloc ?_ ?_ _) | (with_reducible refine Below.drew ?_) | (with_reducible refine Below.drewN ?_ _) | (with_reducible refine Below.trans ?_ (Below.mono (by with_reducible assumption) ?_)) | go_size | (dsimp only; omega)))) (by go_size))).mono ?_; rintro e w1 ⟨rfl, hb1⟩; have hx1 := bsize hb1; (try simp at hx1); obtain ⟨hc1, hf1, hz1⟩ := bcell hb1 (b := w.heap.size) (by go_size); obtain ⟨hd1, hg1, hy1⟩ := bcell hb1 (b := w.heap.size + 1) (by go_size))
  have HW := Lib.hid (show Below w.heap.size w w1 by (repeat' (first | (with_reducible exact Below.refl _ _) | (with_reducible refine Below.setCell ?_ ?_ _) | (with_reducible refine Below.alloc ?_ ?_ _) | (with_reducible refine Below.drew ?_) | (with_reducible refine Below.drewN ?_ _) | (with_reducible refine Below.trans ?_ (Below.mono (by with_reducible assumption) ?_)) | go_size | (dsimp only; omega))))
  have hxw : w.heap.size + 1 + 1 ≤ w1.heap.size := by omega
  have l0 : w1.cell? ⟨w.heap.size, 0, none⟩ = some (.int .i64 z) := (hc1 0).trans (by rw [World.cell?_alloc_lt _ _ _ (by go_size), World.cell?_alloc_new]; rfl)
  have l1 : w1.cell? ⟨w.heap.size, 1, none⟩ = some (.int .i64 y) := (hc1 1).trans (by rw [World.cell?_alloc_lt _ _ _ (by go_size), World.cell?_alloc_new]; rfl)
  have l2 : w1.cell? ⟨w.heap.size, 2, none⟩ = some (.slice A n c) := (hc1 2).trans (by rw [World.cell?_alloc_lt _ _ _ (by go_size), World.cell?_alloc_new]; rfl)
  have r0 : w1.cell? ⟨w.heap.size + 1, 0, none⟩ = some (.int .i64 0) := (hd1 0).trans (by simp [go_sem])
  have r1 : w1.cell? ⟨w.heap.size + 1, 1, none⟩ = some (.int .i64 0) := (hd1 1).trans (by simp [go_sem])
  have r2 : w1.cell? ⟨w.heap.size + 1, 2, none⟩ = some (.slice none 0 0) := (hd1 2).trans (by simp [go_sem])
  have rf : ∀ o, w1.frozen? ⟨w.heap.size + 1, o, none⟩ = false := fun o => (hg1 o).trans (by simp [go_sem])
  clear hb1 hc1 hf1 hd1 hg1
  go_loopw [18] (fun i wr => ∃ (k c' : Nat) (A' : Option Addr), k ≤ n ∧ i = .int .i64 k ∧ w1.heap.size < wr.heap.size ∧ Hid (wr.cell? ⟨w1.heap.size, 0, none⟩ = some (.int .i64 y) ∧ wr.cell? ⟨w1.heap.size, 1, none⟩ = some (.int .i64 z) ∧ wr.cell? ⟨w1.heap.size, 2, none⟩ = some (.slice A' k c') ∧ ∀ o, wr.frozen? ⟨w1.heap.size, o, none⟩ = false) ∧ Hid (OwnP wr (w1.heap.size + 1) A' k c' (turnTo y ps k)) ∧ Hid (Below w1.heap.size w1 wr)) (fun i _ => n - (intOf i).toNat)
  case atStart => exact ⟨0, 0, none, by omega, rfl, by simp, ⟨by rw [World.cell?_alloc_new]; rfl, by rw [World.cell?_alloc_new]; rfl, by rw [World.cell?_alloc_new]; rfl, fun o => by simp [go_sem]⟩, OwnG.nil_, (Below.refl _ _).alloc (Nat.le_refl _) _⟩
  case round =>
    obtain ⟨k, c', A', hk, rfl, hwr, hbx, ho, hb⟩ := hrel
    obtain ⟨u0, u1, u2, uf⟩ := hbx.out
    have hy := hb.out.size
    have p0 : wr.cell? ⟨w.heap.size, 0, none⟩ = some (.int .i64 z) := (hb.out.cell (p := ⟨w.heap.size, 0, none⟩) (by dsimp only; omega)).trans l0
    have p1 : wr.cell? ⟨w.heap.size, 1, none⟩ = some (.int .i64 y) := (hb.out.cell (p := ⟨w.heap.size, 1, none⟩) (by dsimp only; omega)).trans l1
    have p2 : wr.cell? ⟨w.heap.size, 2, none⟩ = some (.slice A n c) := (hb.out.cell (p := ⟨w.heap.size, 2, none⟩) (by dsimp only; omega)).trans l2
    have HRD := Lib.hid (H.out.below' (HW.out.trans (hb.out.mono (by omega))) (show w.heap.size ≤ wr.heap.size by omega))
    have hzr : w.heap.size < wr.heap.size := by omega
    by_cases hlt : k < n
    · obtain ⟨g, off, rfl, d0, d1, d2, d3, d4⟩ := RdP.at5 HRD.out hlt
      obtain ⟨a1, a2, a3, a4, a5, a6, _, _⟩ := okPt_t (HA.out k (by rw [HL.out]; exact hlt))
      have HS := Lib.hid (turnTo_succ (y := y) (ps := ps) (k := k) (by rw [HL.out]; exact hlt))
      go_wp2_with (at_builtin; refine wpList_pushP _ (turnPt y (pith ps k)) rfl _ _ rfl rfl (w1.heap.size + 1) _ _ _ _ rfl (ho.out.next (by (repeat' (first | (with_reducible exact Below.refl _ _) | (with_reducible refine Below.setCell ?_ ?_ _) | (with_reducible refine Below.alloc ?_ ?_ _) | (with_reducible refine Below.drew ?_) | (with_reducible refine Below.drewN ?_ _) | (with_reducible refine Below.trans ?_ (Below.mono (by with_reducible assumption) ?_)) | go_size | (dsimp only; omega))))) rfl (by simp) (by omega) (by go_size) ?_; intro g4 c4 w4 ho4 hg4 _; have HO4 := Lib.hid ho4; obtain ⟨kc, kf, kz⟩ := bcellG hg4 (b := w1.heap.size) (by go_size) (fun e2 => by have := (ho.out.lt _ e2).1; omega); have kc0 : w4.cell? ⟨w1.heap.size, 0, none⟩ = some (.int .i64 y) := (kc 0).trans ((World.cell?_alloc_lt _ _ _ (by go_size)).trans u0); have kc1 : w4.cell? ⟨w1.heap.size, 1, none⟩ = some (.int .i64 z) := (kc 1).trans ((World.cell?_alloc_lt _ _ _ (by go_size)).trans u1); have kc2 : w4.cell? ⟨w1.heap.size, 2, none⟩ = some (.slice A' k c') := (kc 2).trans ((World.cell?_alloc_lt _ _ _ (by go_size)).trans u2); have kf' : ∀ o, w4.frozen? ⟨w1.heap.size, o, none⟩ = false := (fun o => (kf o).trans ((((Below.refl wr.heap.size wr).alloc (Nat.le_refl _) _).frozen (p := ⟨w1.heap.size, o, none⟩) hwr).trans (uf o))); have HB4 := Lib.hid (((Below.refl w1.heap.size wr).alloc (by omega) _).trans ((ho.out.next (by (repeat' (first | (with_reducible exact Below.refl _ _) | (with_reducible refine Below.setCell ?_ ?_ _) | (with_reducible refine Below.alloc ?_ ?_ _) | (with_reducible refine Below.drew ?_) | (with_reducible refine Below.drewN ?_ _) | (with_reducible refine Below.trans ?_ (Below.mono (by with_reducible assumption) ?_)) | go_size | (dsimp only; omega))))).belowOwn hg4 (by go_size) |>.mono (by omega))); clear ho4 hg4 kc kf)
      go_roundw
      case rel =>
        refine ⟨k + 1, c4, _, by omega, by go_num, by simpa using kz, ⟨(World.cell?_setCell_other _ _ _ _ (by simp)).trans kc0, (World.cell?_setCell_other _ _ _ _ (by simp)).trans kc1, World.cell?_setCell_same _ _ _ kc2, fun o => by rw [World.frozen?_setCell]; exact kf' o⟩, ?_, (hb.out.trans HB4.out).setCell (Nat.le_refl _) _⟩
        rw [HS.out]
        exact HO4.out.set_ (by dsimp only; omega) _
      case measure => simp [intOf]; omega
    · obtain rfl : k = n := by omega
      have R0 := (hb.out.cell (p := ⟨w.heap.size + 1, 0, none⟩) (by dsimp only; omega)).trans r0
      have R1 := (hb.out.cell (p := ⟨w.heap.size + 1, 1, none⟩) (by dsimp only; omega)).trans r1
      have R2 := (hb.out.cell (p := ⟨w.heap.size + 1, 2, none⟩) (by dsimp only; omega)).trans r2
      have RF : ∀ o, wr.frozen? ⟨w.heap.size + 1, o, none⟩ = false := fun o => (hb.out.frozen (p := ⟨w.heap.size + 1, o, none⟩) (by dsimp only; omega)).trans (rf o)
      go_wp2
      refine bodyPost_ret (by simp [results, Try.results18, go_sem, *]; try rfl) rfl ?_
      refine ⟨_, _, _, by rw [E1.out, E2.out], ?_, ?_⟩
      · rw [E3.out, HL.out]
        refine OwnG.base (B := w1.heap.size + 1) ?_ (by omega)
        repeat' (first | exact ho.out | (with_reducible refine OwnG.set_ ?_ ?_ _) | go_size | (dsimp only; omega))
      · have hbo := HW.out.trans (hb.out.mono (by omega))
        (repeat' (first | (with_reducible exact Below.refl _ _) | (with_reducible refine Below.setCell ?_ ?_ _) | (with_reducible refine Below.alloc ?_ ?_ _) | (with_reducible refine Below.drew ?_) | (with_reducible refine Below.drewN ?_ _) | (with_reducible refine Below.trans ?_ (Below.mono (by with_reducible assumption) ?_)) | go_size | (dsimp only; omega)))
theorem impl_TurnLayout (z y : Int) (A : Option Addr) (n c : Nat) (ps : List Pt) (w : World) (h : RdP w w.heap.size A n ps) :
    Calls Try.prog 18 #[.agg #[.int .i64 z, .int .i64 y, .slice A n c]] w fun e w' => ∃ A' n' c', e = .returned (.agg #[.int .i64 (turnZ z y ps), .int .i64 (turnY z y ps), .slice A' n' c']) ∧ OwnP w' w.heap.size A' n' c' (turnL z y ps) ∧ Below w.heap.size w w' := by
  cases hbk : layB z y ps with
  | true => exact impl_TurnLayout_yes z y A n c ps w h hbk
  | false => exact impl_TurnLayout_no z y A n c ps w h hbk


end Go.Proofs.Ytlcllpgbpjdofaa
