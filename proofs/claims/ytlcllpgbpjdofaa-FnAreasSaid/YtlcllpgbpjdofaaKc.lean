/- Cells that the reference's draws make. No condition. -/
import Derived.Test.YtlcllpgbpjdofaaKn
import Derived.Test.YtlcllpgbpjdofaaW1
set_option linter.unusedSimpArgs false
set_option linter.unusedVariables false
set_option maxRecDepth 100000
namespace Go.Proofs.Ytlcllpgbpjdofaa
open Go.RowKit

theorem cellG {W w1 : World} {g b : Nat} (hg : W.grownBy w1 (some g)) (h : b < W.heap.size) (hne : b ≠ g) : (∀ o, w1.cell? ⟨b, o, none⟩ = W.cell? ⟨b, o, none⟩) ∧ (∀ o, w1.frozen? ⟨b, o, none⟩ = W.frozen? ⟨b, o, none⟩) :=
  ⟨fun o => World.cell?_of_block (a := ⟨b, o, none⟩) (hg.block b h (fun e => hne (by cases e; rfl))), fun o => World.frozen?_of_block (a := ⟨b, o, none⟩) (hg.block b h (fun e => hne (by cases e; rfl)))⟩
theorem Cur.other {w : World} {B g n c N : Nat} {A : Option Addr} (h : Cur w B g A n c) (hN : N ≠ g) (hB : B ≤ N) (o : Nat) (v : Value) : Cur (w.setCell ⟨N, o, none⟩ v) B g A n c :=
  h.keep (gG_set (gG_refl _ _) o v) (fun e => hN (by cases e; rfl)) (fun k e => by cases e; exact hB)
theorem gG_other {a w : World} {g N : Nat} (h : a.grownBy w (some g)) (hN : a.heap.size ≤ N) (o : Nat) (v : Value) : a.grownBy (w.setCell ⟨N, o, none⟩ v) (some g) :=
  ⟨h.os, h.tape, h.output, (gG_set (b := N) (gG_refl w (some N)) o v).size |> Nat.le_trans h.size, fun i hi hne => ((gG_set (b := N) (gG_refl w (some N)) o v).block i (Nat.lt_of_lt_of_le hi h.size) (fun e => by cases e; omega)).trans (h.block i hi hne)⟩
theorem gG_below {a w w' : World} {row : Option Nat} (h : a.grownBy w row) (hb : Below w.heap.size w w') : a.grownBy w' row := grown_tr h (grown_of_below hb row)
theorem gG_up {a b w : World} {row : Option Nat} (hab : a.grownBy b row) (h : b.grownBy w row) : a.grownBy w row := grown_tr hab h

theorem splitC_ok {s a b : Int} (h0 : 0 ≤ s) (h1 : s < 3) (h2 : 0 ≤ a) (h3 : a < 3) (h4 : 0 ≤ b) (h5 : b < 3) : cOk (splitC s a b).s (splitC s a b).a (splitC s a b).b = true := by
  unfold splitC
  by_cases hab : a = b
  · rw [if_pos hab]
    unfold wholeC
    rw [show inB a 0 5 = true from inB_t h2 (by omega)]
    simp [cOk, inB]; omega
  · rw [if_neg hab]
    cases hc : cOk s a b with
    | true => rw [if_pos rfl]; exact hc
    | false => rw [if_neg (by simp)]; rfl
/-- a drawn cell; only the cursor has been written -/
def DrawnC (w : World) (B g : Nat) (A : Option Addr) (n c : Nat) (e : Ending) (w' : World) : Prop := ∃ x : C, cOk x.s x.a x.b = true ∧ e = .returned (.agg #[.int .i64 x.s, .int .i64 x.a, .int .i64 x.b]) ∧ Cur w' B g A n c ∧ w.grownBy w' (some g)
set_option maxHeartbeats 1000000 in
theorem spec_l02Cell (B g : Nat) (A : Option Addr) (n c : Nat) (w : World) (h : Cur w B g A n c) :
    Calls Try.prog 109 #[.pointer (some ⟨g, 0, none⟩)] w (DrawnC w B g A n c) := by
  have HC := Lib.hid (h.next ((Below.refl _ _).alloc (Nat.le_refl _) (.cells #[.int .i64 0, .int .i64 0, .int .i64 0] 49)))
  have hgw := h.2.1
  have hBg := h.1
  clear h
  go_enter Try.func109, Try.ntmps109
  go_wp2_with fail
  refine (spec_l01Below _ _ _ _ _ _ _ HC.out).mono ?_
  rintro e w1 ⟨x, p_x, rfl, hc1, hg1⟩
  have H1 := Lib.hid hc1
  have G1 := Lib.hid (hg1)
  clear hc1 hg1
  obtain ⟨l_x, u_x⟩ := p_x.2 (by omega)
  clear p_x
  go_wp2_with fail
  refine (spec_l01Below _ _ _ _ _ _ _ H1.out).mono ?_
  rintro e w2 ⟨y, p_y, rfl, hc2, hg2⟩
  have H2 := Lib.hid hc2
  have G2 := Lib.hid (grown_tr G1.out hg2)
  clear hc2 hg2
  obtain ⟨l_y, u_y⟩ := p_y.2 (by omega)
  clear p_y
  go_wp2_with fail
  refine (spec_l01Below _ _ _ _ _ _ _ H2.out).mono ?_
  rintro e w3 ⟨z, p_z, rfl, hc3, hg3⟩
  have H3 := Lib.hid hc3
  have G3 := Lib.hid (grown_tr G2.out hg3)
  clear hc3 hg3
  obtain ⟨l_z, u_z⟩ := p_z.2 (by omega)
  clear p_z
  obtain ⟨kc, kf⟩ := cellG G3.out (b := w.heap.size) (by simp) (by omega)
  have hsz := G3.out.size
  simp only [World.size_alloc] at hsz
  have HX := Lib.hid (splitC_ok l_x u_x l_y u_y l_z u_z)
  go_wp2_with fail
  refine (spec_SplitCell _ _ _ _).mono ?_
  rintro e w4 ⟨rfl, hb4⟩
  have H4 := Lib.hid (H3.out.next hb4)
  have G4 := Lib.hid (gG_below G3.out hb4)
  obtain ⟨kc4, kf4, kz4⟩ := bcell hb4 (b := w.heap.size) (by omega)
  have c0 : w4.cell? ⟨w.heap.size, 0, none⟩ = some (.int .i64 0) := (kc4 0).trans ((kc 0).trans (by rw [World.cell?_alloc_new]; rfl))
  have c1 : w4.cell? ⟨w.heap.size, 1, none⟩ = some (.int .i64 0) := (kc4 1).trans ((kc 1).trans (by rw [World.cell?_alloc_new]; rfl))
  have c2 : w4.cell? ⟨w.heap.size, 2, none⟩ = some (.int .i64 0) := (kc4 2).trans ((kc 2).trans (by rw [World.cell?_alloc_new]; rfl))
  have cf : ∀ o, w4.frozen? ⟨w.heap.size, o, none⟩ = false := fun o => (kf4 o).trans ((kf o).trans (by simp [go_sem]))
  clear kc kf kc4 kf4 hb4
  obtain ⟨q, hq⟩ : ∃ q, q = splitC x y z := ⟨_, rfl⟩
  rw [← hq] at HX
  simp only [← hq]
  clear hq
  go_wp2
  refine bodyPost_ret (v := .agg #[.int .i64 q.s, .int .i64 q.a, .int .i64 q.b]) (by simp [results, Try.results109, go_sem, *]; try rfl) rfl ?_
  refine ⟨q, HX.out, rfl, ?_, ?_⟩
  · (repeat' (first | with_reducible exact H4.out | refine Cur.other ?_ (by omega) (by omega) _ _))
  · (repeat' (first | with_reducible exact gG_up (gG_alloc (gG_refl w (some g)) _) G4.out | refine gG_other ?_ (Nat.le_refl _) _ _))
end Go.Proofs.Ytlcllpgbpjdofaa
