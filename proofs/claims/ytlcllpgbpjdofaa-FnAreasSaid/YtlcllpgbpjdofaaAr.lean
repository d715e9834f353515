/- The reference's drawn blocks are blocks. No condition. -/
import Derived.Test.YtlcllpgbpjdofaaKc
import Derived.Test.YtlcllpgbpjdofaaD
import Derived.Test.YtlcllpgbpjdofaaPl
import Derived.Test.YtlcllpgbpjdofaaSt
set_option linter.unusedSimpArgs false
set_option linter.unusedVariables false
set_option maxRecDepth 100000
namespace Go.Proofs.Ytlcllpgbpjdofaa
open Go.RowKit

/-- a block's box -/
structure Box2 (w : World) (P : Nat) (z : Int) (A : Option Addr) (n c : Nat) : Prop where
  c0 : w.cell? ⟨P, 0, none⟩ = some (.int .i64 z)
  c1 : w.cell? ⟨P, 1, none⟩ = some (.slice A n c)
  f : ∀ o, w.frozen? ⟨P, o, none⟩ = false
  lt : P < w.heap.size
section
variable {w w' : World} {P n c : Nat} {z : Int} {A : Option Addr} {row : Option Nat}
theorem Box2.grown (h : Box2 w P z A n c) (hg : w.grownBy w' row) (hne : row = some P → False) : Box2 w' P z A n c := by
  obtain ⟨a, b, d⟩ := bcellG' hg h.lt hne
  exact ⟨(a _).trans h.c0, (a _).trans h.c1, fun o => (b o).trans (h.f o), d⟩
theorem Box2.next (h : Box2 w P z A n c) (hb : Below w.heap.size w w') : Box2 w' P z A n c := h.grown (grown_of_below hb none) (fun e => by cases e)
theorem Box2.set_ (h : Box2 w P z A n c) {b : Nat} (hne : b ≠ P) (o : Nat) (v : Value) : Box2 (w.setCell ⟨b, o, none⟩ v) P z A n c := h.grown (gG_set (gG_refl w (some b)) o v) (fun e => hne (by cases e; rfl))
theorem Box2.s1 (h : Box2 w P z A n c) (A' : Option Addr) (n' c' : Nat) : Box2 (w.setCell ⟨P, 1, none⟩ (.slice A' n' c')) P z A' n' c' :=
  ⟨(World.cell?_setCell_other _ _ _ _ (by simp)).trans h.c0, World.cell?_setCell_same _ _ _ h.c1, fun o => by rw [World.frozen?_setCell]; exact h.f o, by simpa using h.lt⟩
theorem Box2.all_ (h : Box2 w P z A n c) (z' : Int) (A' : Option Addr) (n' c' : Nat) : Box2 ((w.setCell ⟨P, 0, none⟩ (.int .i64 z')).setCell ⟨P, 1, none⟩ (.slice A' n' c')) P z' A' n' c' := by
  obtain ⟨h0, h1, hf, hl⟩ := h
  exact ⟨by simp [go_sem, h0, h1], by simp [go_sem, h0, h1], fun o => by simpa [World.frozen?_setCell] using hf o, by simpa using hl⟩
theorem Box2.mk_ (w : World) (z : Int) (A : Option Addr) (n c : Nat) (T : TypeId) : Box2 (w.alloc (.cells #[.int .i64 z, .slice A n c] T)) w.heap.size z A n c :=
  ⟨by rw [World.cell?_alloc_new]; rfl, by rw [World.cell?_alloc_new]; rfl, fun o => by simp [go_sem], by simp⟩
end
section
variable {w w' : World} {A : Option Addr} {n c : Nat} {row : Option Nat}
theorem _root_.Go.Proofs.Ytlcllpgbpjdofaa.Cur.set_ {B g : Nat} (h : Cur w B g A n c) {b : Nat} (hne : b ≠ g) (hB : B ≤ b) (o : Nat) (v : Value) : Cur (w.setCell ⟨b, o, none⟩ v) B g A n c := h.keep (gG_set (gG_refl w (some b)) o v) (fun e => hne (by cases e; rfl)) (fun k e => by cases e; exact hB)
theorem gG_setN {a : World} {g : Nat} (h : a.grownBy w (some g)) {b : Nat} (hB : a.heap.size ≤ b) (o : Nat) (v : Value) : a.grownBy (w.setCell ⟨b, o, none⟩ v) (some g) := by
  have k := gG_set (gG_refl w (some b)) o v
  exact ⟨k.os.trans h.os, k.tape.trans h.tape, k.output.trans h.output, Nat.le_trans h.size k.size, fun i hi hne => (k.block i (Nat.lt_of_lt_of_le hi h.size) (fun e => absurd (Option.some.inj e) (by omega))).trans (h.block i hi hne)⟩
theorem gG_ownN {a : World} {g : Nat} (h : a.grownBy w (some g)) (k : w.grownBy w' row) (hr : ∀ q, row = some q → a.heap.size ≤ q) : a.grownBy w' (some g) :=
  ⟨k.os.trans h.os, k.tape.trans h.tape, k.output.trans h.output, Nat.le_trans h.size k.size, fun i hi hne => (k.block i (Nat.lt_of_lt_of_le hi h.size) (fun e => by have := hr _ e.symm; omega)).trans (h.block i hi hne)⟩
end
theorem wpList_pushC' (w0 : World) (q : C) {cs : Array Value} {ops : Array Oper} {rest : List Oper} {o : Oper} {a : Act} {Q : Exit → Act → World → Prop} (hgd : o.guard = none) (s x : Operand)
    (ho : o.op = .call { callee := .builtin .append, args := #[s, x], argTypes := #[40, 40] }) (hcs : cs.toList = q.vals)
    (B : Nat) (A : Option Addr) (n c : Nat) (xs : List C) (hs : a.eval s = .slice A n c) (hown : OwnC w0 B A n c xs)
    {N : Nat} (hx : a.eval x = .slice (some ⟨N, 0, none⟩) 1 1) (hN : w0.heap.size = N) (hn : n + 1 ≤ 2097152) (hbase : B ≤ w0.heap.size)
    (hK : ∀ g' c' w', OwnC w' B (some ⟨g', 0, none⟩) (n + 1) c' (xs ++ [q]) → w0.grownBy w' (Value.slice A n c).ownBlock → ((Value.slice A n c).ownBlock = some g' ∨ w0.heap.size ≤ g') →
      wpList Try.prog ops Q rest (a.put o.dst (.slice (some ⟨g', 0, none⟩) (n + 1) c')) w') : wpList Try.prog ops Q (o :: rest) a (w0.alloc (.cells cs 49)) := by
  subst hN
  obtain ⟨i0, hi, hz0, hz1, hz2⟩ := info_parts cell_info
  refine wpList_push w0 cs hgd s x _ ho B 49 i0 (.agg #[.int .i64 0, .int .i64 0, .int .i64 0]) 3 24 Try.underlying40 hi hz0 hz1 hz2 rfl (by omega) A n c (xs.flatMap C.vals) hs hown.2.2 hx (by rw [← Array.length_toList, hcs]; rfl) ?_ (by unfold maxLen; omega) (by omega) hbase ?_
  · intro u hu
    rw [hcs] at hu
    simp [C.vals] at hu
    rcases hu with rfl | rfl | rfl <;> rfl
  · intro g' c' w' h2 h3 h4
    refine hK g' c' w' ⟨hn, by rw [List.length_append, hown.2.1]; rfl, ?_⟩ h3 h4
    rw [List.flatMap_append, List.flatMap_cons, List.flatMap_nil, List.append_nil, ← hcs]
    exact h2
theorem allOkC_push {xs : List C} {q : C} (h : allOkC xs = true) (hq : cOk q.s q.a q.b = true) : allOkC (xs ++ [q]) = true := by
  simp only [allOkC, List.all_append, List.all_cons, List.all_nil, Bool.and_true, Bool.and_eq_true] at h ⊢
  exact ⟨h, hq⟩
theorem bOk_mk {z : Nat} {xs : List C} (h1 : 1 ≤ z) (h2 : z ≤ 4) (hl : xs.length = z * z) (h : allOkC xs = true) : bOk (z : Int) xs = true := by
  rw [bOk, inB_t (by omega) (by omega), hl, h]
  simp
theorem star_ok : bOk 3 starL = true := by decide
theorem plain_ok {z : Nat} {a : Int} (h1 : 1 ≤ z) (h2 : z ≤ 4) (h3 : 0 ≤ a) (h4 : a ≤ 5) : plainOk z a = true ∧ plainZ z a = z ∧ bOk (z : Int) (plainL z a) = true := by
  have hp : plainOk z a = true := by rw [plainOk, inB_t (by omega) (by omega), inB_t h3 h4]; rfl
  refine ⟨hp, by rw [plainZ, hp]; rfl, ?_⟩
  rw [plainL, hp, if_pos rfl]
  refine bOk_mk h1 h2 (by simp) ?_
  simp only [allOkC, List.all_eq_true]
  intro c hc
  have e := List.eq_of_mem_replicate hc
  subst e
  unfold wholeC
  rw [inB_t h3 h4, if_pos rfl]
  simp [cOk, inB]; omega
/-- a drawn block: of it, only that it is one is told; of what was there the cursor alone has been written -/
structure DrawnK (w : World) (B g : Nat) (A : Option Addr) (n c : Nat) (e : Ending) (w' : World) : Prop where
  ex : ∃ (z : Int) (A' : Option Addr) (n' c' : Nat) (xs : List C), bOk z xs = true ∧ e = .returned (.agg #[.int .i64 z, .slice A' n' c']) ∧ OwnC w' w.heap.size A' n' c' xs ∧ Cur w' B g A n c ∧ w.grownBy w' (some g)

set_option maxRecDepth 100000 in
set_option maxHeartbeats 8000000 in
theorem spec_l03Block (B g : Nat) (A : Option Addr) (n c : Nat) (w : World) (h : Cur w B g A n c) :
    Calls Try.prog 71 #[.pointer (some ⟨g, 0, none⟩)] w (DrawnK w B g A n c) := by
  have hs := lt2
  have HC := Lib.hid h
  have hgw := h.2.1
  have hBg := h.1
  clear h
  go_enter Try.func71, Try.ntmps71
  go_wp2_with fail
  refine (spec_l01Below _ _ _ _ _ _ _ (HC.out.next ((Below.refl _ _).alloc (Nat.le_refl _) _))).mono ?_
  rintro e w1 ⟨x, px, rfl, hc1, hg1⟩
  have H1 := Lib.hid hc1
  have G1 := Lib.hid (grown_tr (gG_alloc (gG_refl w (some g)) _) hg1)
  have Z1 := Lib.hid ((Box2.mk_ w 0 none 0 0 42).grown hg1 (fun e => absurd (Option.some.inj e) (by omega)))
  have s1 := hg1.size
  simp only [World.size_alloc] at s1
  clear hc1 hg1
  obtain ⟨x_0, x_1⟩ := px.2 (by omega)
  clear px
  by_cases hx0 : x = 0
  · subst hx0
    go_wp2_with fail
    refine (spec_StarBlock _).mono ?_
    rintro e w2 ⟨gs, rfl, ho, hb⟩
    have H2 := Lib.hid (H1.out.next hb)
    have G2 := Lib.hid (gG_below G1.out hb)
    have Z2 := Lib.hid (Z1.out.next hb)
    have O2 := Lib.hid (((ho.set_ (p := ⟨w.heap.size, 0, none⟩) (by dsimp only; omega) (.int .i64 3)).set_ (p := ⟨w.heap.size, 1, none⟩) (by dsimp only; omega) (.slice (some ⟨gs, 0, none⟩) 9 9)).base (B' := w.heap.size) (by omega))
    clear hb ho
    have a0 := Z2.out.c0
    have a1 := Z2.out.c1
    have af := Z2.out.f
    have r0 := (Z2.out.all_ 3 (some ⟨gs, 0, none⟩) 9 9).c0
    have r1 := (Z2.out.all_ 3 (some ⟨gs, 0, none⟩) 9 9).c1
    dsimp only
    repeat (first | go_values | go_skip | go_guarded | go_step | go_upon)
    refine bodyPost_ret (by simp [results, Try.results71, go_sem, r0, r1]; try rfl) rfl ?_
    exact ⟨⟨3, _, 9, 9, starL, star_ok, rfl, O2.out, (H2.out.set_ (by omega) (by omega) _ _).set_ (by omega) (by omega) _ _, gG_setN (gG_setN G2.out (Nat.le_refl _) _ _) (Nat.le_refl _) _ _⟩⟩
  · by_cases hx1 : x = 1
    · subst hx1
      go_wp2_with fail
      refine (spec_l01Below _ _ _ _ _ _ _ H1.out).mono ?_
      rintro e w2 ⟨u, px, rfl, hc2, hg2⟩
      have H2 := Lib.hid hc2
      have G2 := Lib.hid (grown_tr G1.out hg2)
      have Z2 := Lib.hid (Z1.out.grown hg2 (fun e => absurd (Option.some.inj e) (by omega)))
      have s2 := hg2.size
      clear hc2 hg2
      obtain ⟨u_0, u_1⟩ := px.2 (by omega)
      clear px
      go_wp2_with fail
      refine (spec_l01Below _ _ _ _ _ _ _ H2.out).mono ?_
      rintro e w3 ⟨v, px, rfl, hc3, hg3⟩
      have H3 := Lib.hid hc3
      have G3 := Lib.hid (grown_tr G2.out hg3)
      have Z3 := Lib.hid (Z2.out.grown hg3 (fun e => absurd (Option.some.inj e) (by omega)))
      have s3 := hg3.size
      clear hc3 hg3
      obtain ⟨v_0, v_1⟩ := px.2 (by omega)
      clear px
      obtain ⟨U, hU⟩ : ∃ U : Nat, 1 + u = (U : Int) := ⟨(1 + u).toNat, by omega⟩
      have HP := Lib.hid (plain_ok (z := U) (a := v) (by omega) (by omega) v_0 (by omega))
      go_wp2_with fail
      try rw [hU]
      refine (spec_PlainBlock _ _ _).mono ?_
      rintro e w4 ⟨A4, n4, c4, rfl, ho, hb⟩
      rw [HP.out.1, HP.out.2.1]
      have H4 := Lib.hid (H3.out.next hb)
      have G4 := Lib.hid (gG_below G3.out hb)
      have Z4 := Lib.hid (Z3.out.next hb)
      have s4 := hb.size
      have O4 := Lib.hid ho
      clear hb ho
      have H5 := Lib.hid (H4.out.next ((Below.refl _ _).alloc (Nat.le_refl _) (.cells #[.int .i64 U, .slice A4 n4 c4] 42)))
      have G5 := Lib.hid (gG_below G4.out ((Below.refl _ _).alloc (Nat.le_refl _) (.cells #[.int .i64 U, .slice A4 n4 c4] 42)))
      have Z5 := Lib.hid (Z4.out.next ((Below.refl _ _).alloc (Nat.le_refl _) (.cells #[.int .i64 U, .slice A4 n4 c4] 42)))
      have Y5 := Lib.hid (Box2.mk_ w4 U A4 n4 c4 42)
      have O5 := Lib.hid ((((O4.out.next ((Below.refl _ _).alloc (Nat.le_refl _) (.cells #[.int .i64 U, .slice A4 n4 c4] 42))).set_ (p := ⟨w.heap.size, 0, none⟩) (by dsimp only; omega) (.int .i64 U)).set_ (p := ⟨w.heap.size, 1, none⟩) (by dsimp only; omega) (.slice A4 n4 c4)).base (B' := w.heap.size) (by omega))
      have a0 := Z5.out.c0
      have a1 := Z5.out.c1
      have af := Z5.out.f
      have b0 := Y5.out.c0
      have b1 := Y5.out.c1
      have r0 := (Z5.out.all_ U A4 n4 c4).c0
      have r1 := (Z5.out.all_ U A4 n4 c4).c1
      go_upto_region 6 with fail
      repeat (first | go_values | go_skip | go_guarded | go_step | go_upon)
      refine bodyPost_ret (by simp [results, Try.results71, go_sem, r0, r1]; try rfl) rfl ?_
      exact ⟨⟨U, A4, n4, c4, plainL U v, HP.out.2.2, rfl, O5.out, (H5.out.set_ (by omega) (by omega) _ _).set_ (by omega) (by omega) _ _, gG_setN (gG_setN G5.out (Nat.le_refl _) _ _) (Nat.le_refl _) _ _⟩⟩
    · go_wp2_with fail
      refine (spec_l01Below _ _ _ _ _ _ _ H1.out).mono ?_
      rintro e w2 ⟨u, px, rfl, hc2, hg2⟩
      have H2 := Lib.hid hc2
      have G2 := Lib.hid (grown_tr G1.out hg2)
      have Z2 := Lib.hid (Z1.out.grown hg2 (fun e => absurd (Option.some.inj e) (by omega)))
      have s2 := hg2.size
      clear hc2 hg2
      obtain ⟨u_0, u_1⟩ := px.2 (by omega)
      clear px
      obtain ⟨U, hU⟩ : ∃ U : Nat, 1 + u = (U : Int) := ⟨(1 + u).toNat, by omega⟩
      have eU : u = (U : Int) - 1 := by omega
      subst eU
      have hU1 : 1 ≤ U := by omega
      have hU2 : U ≤ 4 := by omega
      have hz16 := zz_le (show U ≤ 4 by omega)
      have hzi : (U : Int) * (U : Int) = ((U * U : Nat) : Int) := by rw [Int.natCast_mul]
      have hz2 : (U : Int) * (U : Int) ≤ 16 := by rw [hzi]; omega
      have hz0 : (0 : Int) ≤ (U : Int) * (U : Int) := by rw [hzi]; omega
      have hw1 : (1 : Int) + ((U : Int) - 1) = (U : Int) := by omega
      have HZI := Lib.hid hzi
      clear hU u_0 u_1 hzi
      have H3 := Lib.hid (H2.out.next ((Below.refl _ _).alloc (Nat.le_refl _) (.cells #[.int .i64 U, .slice none 0 0] 42)))
      have G3 := Lib.hid (gG_below G2.out ((Below.refl _ _).alloc (Nat.le_refl _) (.cells #[.int .i64 U, .slice none 0 0] 42)))
      have Z3 := Lib.hid (Z2.out.next ((Below.refl _ _).alloc (Nat.le_refl _) (.cells #[.int .i64 U, .slice none 0 0] 42)))
      have Y3 := Lib.hid (Box2.mk_ w2 U none 0 0 42)
      go_wp2_with fail
      go_loopw [7] (fun i wr => ∃ (k c' : Nat) (A' : Option Addr) (xs : List C), k ≤ U * U ∧ i = .int .i64 k ∧ w2.heap.size < wr.heap.size ∧ Hid (allOkC xs = true) ∧ Hid (Box2 wr w2.heap.size U A' k c') ∧ Hid (Box2 wr w.heap.size 0 none 0 0) ∧ Hid (OwnC wr (w2.heap.size + 1) A' k c' xs) ∧ Hid (Cur wr B g A n c) ∧ Hid (w.grownBy wr (some g))) (fun i _ => U * U - (intOf i).toNat)
      case atStart => exact ⟨0, 0, none, [], Nat.zero_le _, by simp, by simp, rfl, Y3, Z3, OwnC.nil_, H3, G3⟩
      case round =>
        obtain ⟨k, c', A', xs, hk, rfl, hwr, hal, hb1, hb2, ho, hc, hg⟩ := hrel
        clear H3 G3 Z3 Y3
        have hgs := hg.out.size
        by_cases hlt : k < U * U
        · have d1 : (k : Int) < (U : Int) * (U : Int) := by rw [HZI.out]; omega
          have hk16 : k + 1 ≤ 16 := by omega
          go_wp2_with fail
          refine (spec_l02Cell _ _ _ _ _ _ hc.out).mono ?_
          rintro e w3 ⟨q, hq, rfl, hc3, hg3⟩
          have s3 := hg3.size
          have AL := Lib.hid (allOkC_push hal.out hq)
          have NB1 := Lib.hid ((hb1.out.grown hg3 (fun e => absurd (Option.some.inj e) (by omega))).next ((Below.refl _ _).alloc (Nat.le_refl _) (.cells #[.int .i64 q.s, .int .i64 q.a, .int .i64 q.b] 49)))
          have NB2 := Lib.hid ((hb2.out.grown hg3 (fun e => absurd (Option.some.inj e) (by omega))).next ((Below.refl _ _).alloc (Nat.le_refl _) (.cells #[.int .i64 q.s, .int .i64 q.a, .int .i64 q.b] 49)))
          have NO := Lib.hid ((ho.out.keep hg3 (fun j hj e => by have := (ho.out.lt _ hj).1; have := Option.some.inj e; omega)).next ((Below.refl _ _).alloc (Nat.le_refl _) (.cells #[.int .i64 q.s, .int .i64 q.a, .int .i64 q.b] 49)))
          have NC := Lib.hid (hc3.next ((Below.refl _ _).alloc (Nat.le_refl _) (.cells #[.int .i64 q.s, .int .i64 q.a, .int .i64 q.b] 49)))
          have NG := Lib.hid (gG_below (grown_tr hg.out hg3) ((Below.refl _ _).alloc (Nat.le_refl _) (.cells #[.int .i64 q.s, .int .i64 q.a, .int .i64 q.b] 49)))
          have ltA := Lib.hid ho.out.lt
          clear hc3 hg3 hq
          have b0 := NB1.out.c0
          have b1 := NB1.out.c1
          have bf := NB1.out.f
          have hsz3 : w2.heap.size < w3.heap.size := by omega
          go_wp2_with (at_builtin; refine wpList_pushC' _ q rfl _ _ rfl rfl (w2.heap.size + 1) _ _ _ _ rfl NO.out rfl (by simp) (by omega) (by simp; omega) ?_; intro g5 c5 w6 ho5 hg5 hn5; have O5 := Lib.hid ho5; have sz5 := hg5.size; (try simp at sz5); have M1 := Lib.hid (NB1.out.grown hg5 (fun e => by have := (ltA.out _ e).1; omega)); have M2 := Lib.hid (NB2.out.grown hg5 (fun e => by have := (ltA.out _ e).1; omega)); have MC := Lib.hid (NC.out.keep hg5 (fun e => by have := (ltA.out _ e).1; omega) (fun q e => by have := (ltA.out _ e).1; omega)); have MG := Lib.hid (gG_ownN NG.out hg5 (fun q e => by have := (ltA.out _ e).1; omega)); have r0 := M1.out.c0; have r1 := M1.out.c1; have rf := M1.out.f; have rlt := M1.out.lt; clear ho5 hg5 hn5)
          go_roundw
          case rel => exact ⟨k + 1, c5, some ⟨g5, 0, none⟩, xs ++ [q], by omega, by go_num, by simp; omega, AL, M1.out.s1 _ _ _, M2.out.set_ (by omega) _ _, O5.out.set_ (by dsimp only; omega) _, MC.out.set_ (by omega) (by omega) _ _, gG_setN MG.out (by omega) _ _⟩
          case measure => simp [intOf]; omega
        · have ek : k = U * U := by omega
          have d1 : ¬ (k : Int) < (U : Int) * (U : Int) := by rw [HZI.out]; omega
          have hbk : bOk (U : Int) xs = true := bOk_mk hU1 hU2 (by rw [ho.out.len, ek]) hal.out
          have HBK := Lib.hid hbk
          clear hbk
          subst ek
          have a0 := hb2.out.c0
          have a1 := hb2.out.c1
          have af := hb2.out.f
          have b0 := hb1.out.c0
          have b1 := hb1.out.c1
          have r0 := (hb2.out.all_ U A' (U * U) c').c0
          have r1 := (hb2.out.all_ U A' (U * U) c').c1
          go_upto_region 14 with fail
          repeat (first | go_values | go_skip | go_guarded | go_step | go_upon)
          refine bodyPost_ret (by simp [results, Try.results71, go_sem, r0, r1]; try rfl) rfl ?_
          exact ⟨⟨U, A', U * U, c', xs, HBK.out, rfl, (((ho.out.set_ (by dsimp only; omega) _).set_ (by dsimp only; omega) _).base (by omega)), (hc.out.set_ (by omega) (by omega) _ _).set_ (by omega) (by omega) _ _, gG_setN (gG_setN hg.out (Nat.le_refl _) _ _) (Nat.le_refl _) _ _⟩⟩
set_option maxHeartbeats 1000000 in
theorem spec_DrawBlock (A : Option Addr) (n c : Nat) (w : World) (h : RdB w w.heap.size A n) :
    Calls Try.prog 22 #[.slice A n c] w fun e w' => ∃ (z : Int) (A' : Option Addr) (n' c' : Nat) (xs : List C), bOk z xs = true ∧ e = .returned (.agg #[.int .i64 z, .slice A' n' c']) ∧ OwnC w' w.heap.size A' n' c' xs ∧ Below w.heap.size w w' := by
  have H := Lib.hid h
  clear h
  go_enter Try.func22, Try.ntmps22
  go_wp2_with fail
  refine (spec_l01New w.heap.size _ _ _ _ (by simp) (H.out.below ((Below.refl _ _).alloc (Nat.le_refl _) _))).mono ?_
  rintro e w0 ⟨g, rfl, hg, hc, hb⟩
  have hsz0 := hb.size
  simp only [World.size_alloc] at hg hsz0
  have Z0 := Lib.hid ((Box2.mk_ w 0 none 0 0 42).next hb)
  have HC := Lib.hid hc
  have HB := Lib.hid (((Below.refl w.heap.size w).alloc (Nat.le_refl _) _).trans (hb.mono (by simp)))
  clear hc hb
  go_wp2_with fail
  refine (spec_l03Block _ _ _ _ _ _ HC.out).mono ?_
  rintro e w1 ⟨⟨z, A', n', c', xs, hl, rfl, ho, hc1, hg1⟩⟩
  have HL := Lib.hid hl
  have Z1 := Lib.hid (Z0.out.grown hg1 (fun e => absurd (Option.some.inj e) (by omega)))
  have HO := Lib.hid (((ho.set_ (p := ⟨w.heap.size, 0, none⟩) (by dsimp only; omega) (.int .i64 z)).set_ (p := ⟨w.heap.size, 1, none⟩) (by dsimp only; omega) (.slice A' n' c')).base (B' := w.heap.size) (by omega))
  have HD := Lib.hid (HB.out.grown hg1 HB.out.size (fun k e => by have := Option.some.inj e; omega))
  clear hl ho hc1 hg1
  have a0 := Z1.out.c0
  have a1 := Z1.out.c1
  have af := Z1.out.f
  have r0 := (Z1.out.all_ z A' n' c').c0
  have r1 := (Z1.out.all_ z A' n' c').c1
  dsimp only
  repeat (first | go_values | go_skip | go_guarded | go_step | go_upon)
  refine bodyPost_ret (by simp [results, Try.results22, go_sem, r0, r1]; try rfl) rfl ?_
  exact ⟨z, A', n', c', xs, HL.out, rfl, HO.out, (HD.out.setCell (Nat.le_refl _) _).setCell (Nat.le_refl _) _⟩

end Go.Proofs.Ytlcllpgbpjdofaa
