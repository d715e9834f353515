/- Walks of made, and of the closures that it is handed. No condition. -/
import Derived.Test.YtlcllpgbpjdofaaB3
import Derived.Test.YtlcllpgbpjdofaaSt
import Derived.Test.YtlcllpgbpjdofaaSp
import Derived.Shelf.Abstract
set_option linter.unusedSimpArgs false
set_option linter.unusedVariables false
set_option maxRecDepth 100000
namespace Go.Proofs.Ytlcllpgbpjdofaa
open Go.RowKit

/-- one cell is appended, in a region that draws its order -/
theorem step_pushC (w0 : World) (q : C) {cs : Array Value} {ops : Array Oper} {o : Oper} {a : Act} {K : Act → World → Prop} {Q : Exit → Act → World → Prop} {E : Prop} (hgd : o.guard = none) (s x : Operand)
    (ho : o.op = .call { callee := .builtin .append, args := #[s, x], argTypes := #[40, 40] }) (hcs : cs.toList = q.vals)
    (B : Nat) (A : Option Addr) (n c : Nat) (xs : List C) (hs : a.eval s = .slice A n c) (hown : OwnC w0 B A n c xs)
    {N : Nat} (hx : a.eval x = .slice (some ⟨N, 0, none⟩) 1 1) (hN : w0.heap.size = N) (hn : n + 1 ≤ 2097152) (hbase : B ≤ w0.heap.size)
    (hK : ∀ g' c' w', OwnC w' B (some ⟨g', 0, none⟩) (n + 1) c' (xs ++ [q]) → w0.grownBy w' (Value.slice A n c).ownBlock → ((Value.slice A n c).ownBlock = some g' ∨ w0.heap.size ≤ g') →
      K (a.put o.dst (.slice (some ⟨g', 0, none⟩) (n + 1) c')) w') : if Region.wanted o (yielded ops a.tmps) = true then Oper.wp Try.prog o a (w0.alloc (.cells cs 49)) K Q else E := by
  obtain ⟨i0, hi, hz0, hz1, hz2⟩ := info_parts cell_info
  refine step_push w0 cs hgd s x _ ho B 49 i0 (.agg #[.int .i64 0, .int .i64 0, .int .i64 0]) 3 24 Try.underlying40 hi hz0 hz1 hz2 rfl (by omega) A n c (xs.flatMap C.vals) hs hown.2.2 hx hN (by rw [← Array.length_toList, hcs]; rfl) ?_ (by unfold maxLen; omega) (by omega) hbase ?_
  · intro u hu
    rw [hcs] at hu
    simp [C.vals] at hu
    rcases hu with rfl | rfl | rfl <;> rfl
  · intro g' c' w' h2 h3 h4
    refine hK g' c' w' ⟨hn, by rw [List.length_append, hown.2.1]; rfl, ?_⟩ h3 h4
    rw [List.flatMap_append, List.flatMap_cons, List.flatMap_nil, List.append_nil, ← hcs]
    exact h2

theorem OwnC.nil_ {w : World} {B : Nat} : OwnC w B none 0 0 [] := ⟨by omega, rfl, World.ownsRow_nil w B _ 3⟩
theorem bcellG' {W w1 : World} {row : Option Nat} (hg : W.grownBy w1 row) {b : Nat} (h : b < W.heap.size) (hne : row = some b → False) : (∀ o, w1.cell? ⟨b, o, none⟩ = W.cell? ⟨b, o, none⟩) ∧ (∀ o, w1.frozen? ⟨b, o, none⟩ = W.frozen? ⟨b, o, none⟩) ∧ b < w1.heap.size :=
  ⟨fun o => World.cell?_of_block (a := ⟨b, o, none⟩) (hg.block b h (fun e => hne e.symm)), fun o => World.frozen?_of_block (a := ⟨b, o, none⟩) (hg.block b h (fun e => hne e.symm)), Nat.lt_of_lt_of_le h hg.size⟩
theorem kz_le {k j z : Nat} (h1 : k < z) (h2 : j < z) (h3 : z ≤ 4) : k * z + j + 1 ≤ 16 := by
  have : z = 1 ∨ z = 2 ∨ z = 3 ∨ z = 4 := by omega
  rcases this with rfl | rfl | rfl | rfl <;> omega
/-- the cells of a block of side z, row by row -/
def rowL (f : Int → Int → C) (y : Nat) (k : Nat) : List C := (List.range k).map (fun (x : Nat) => f (x : Int) (y : Int))
def rowsL (f : Int → Int → C) (z : Nat) (k : Nat) : List C := (List.range k).flatMap (fun y => rowL f y z)
theorem rowL_succ (f : Int → Int → C) (y k : Nat) : rowL f y (k + 1) = rowL f y k ++ [f k y] := by simp [rowL, List.range_succ]
theorem rowsL_succ (f : Int → Int → C) (z k : Nat) : rowsL f z (k + 1) = rowsL f z k ++ rowL f k z := by simp [rowsL, List.range_succ]
theorem rowL_len (f : Int → Int → C) (y k : Nat) : (rowL f y k).length = k := by simp [rowL]
theorem rowsL_len (f : Int → Int → C) (z k : Nat) : (rowsL f z k).length = k * z := by
  induction k with
  | zero => simp [rowsL]
  | succ k ih => rw [rowsL_succ, List.length_append, ih, rowL_len, Nat.succ_mul]
/-- a function value that hands back the cell f x y -/
def Makes (K : FuncId) (p : Value) (f : Int → Int → C) (z : Nat) (w : World) : Prop :=
  ∀ (x y : Nat) (w' : World), x < z → y < z → Below w.heap.size w w' → Calls Try.prog K #[.int .i64 x, .int .i64 y, p] w' fun e w'' => e = .returned (.agg #[.int .i64 (f x y).s, .int .i64 (f x y).a, .int .i64 (f x y).b]) ∧ Below w'.heap.size w' w''

set_option maxRecDepth 100000 in
set_option maxHeartbeats 2000000 in
theorem impl_made (K : FuncId) (p : Value) (f : Int → Int → C) (z : Nat) (w : World) (hen : ∀ (args : Array Value) (w : World), (callFunc K args).run Try.prog w = .ok (.enter K args) w) (hz1 : 1 ≤ z) (hz2 : z ≤ 4) (hf : Makes K p f z w) :
    Calls Try.prog 81 #[.int .i64 z, .func (.func K) #[] #[p]] w fun e w' => ∃ A n c, e = .returned (.agg #[.int .i64 z, .slice A n c]) ∧ OwnC w' w.heap.size A n c (rowsL f z z) ∧ Below w.heap.size w w' := by
  have hs := lt2
  go_enter Try.func81, Try.ntmps81
  go_wp2
  go_loopw [11] (fun i wr => ∃ (k m c' : Nat) (A' : Option Addr), k ≤ z ∧ m ≤ 16 ∧ i = .int .i64 k ∧ w.heap.size + 1 < wr.heap.size ∧ Hid (m = k * z ∧ wr.cell? ⟨w.heap.size + 1, 0, none⟩ = some (.int .i64 z) ∧ wr.cell? ⟨w.heap.size + 1, 1, none⟩ = some (.slice A' m c') ∧ (∀ o, wr.frozen? ⟨w.heap.size + 1, o, none⟩ = false)) ∧ Hid (OwnC wr (w.heap.size + 2) A' m c' (rowsL f z k)) ∧ Hid (Below (w.heap.size + 1) (w.alloc (.cells #[.int .i64 0, .slice none 0 0] 42)) wr)) (fun i _ => z - (intOf i).toNat)
  case atStart => exact ⟨0, 0, 0, none, by omega, by omega, rfl, by simp, ⟨by simp, by simp [go_sem], by simp [go_sem], fun o => by simp [go_sem]⟩, (by show OwnC _ _ none 0 0 (rowsL f z 0); exact OwnC.nil_), (Below.refl _ _).alloc (by simp) _⟩
  case round =>
    obtain ⟨k, m, c', A', hk, hm16, rfl, hwr, hbx, ho, hb⟩ := hrel
    obtain ⟨wo, rfl⟩ : ∃ wo : World, wo = wr := ⟨_, rfl⟩
    by_cases hlt : k < z
    · go_wp2
      go_loopw [15] (fun i wr => ∃ (j m c' : Nat) (A' : Option Addr), j ≤ z ∧ m ≤ 16 ∧ i = .int .i64 j ∧ w.heap.size + 1 < wr.heap.size ∧ Hid (m = k * z + j ∧ wr.cell? ⟨w.heap.size + 1, 0, none⟩ = some (.int .i64 z) ∧ wr.cell? ⟨w.heap.size + 1, 1, none⟩ = some (.slice A' m c') ∧ (∀ o, wr.frozen? ⟨w.heap.size + 1, o, none⟩ = false)) ∧ Hid (OwnC wr (w.heap.size + 2) A' m c' (rowsL f z k ++ rowL f k j)) ∧ Hid (Below (w.heap.size + 1) (w.alloc (.cells #[.int .i64 0, .slice none 0 0] 42)) wr)) (fun i _ => z - (intOf i).toNat)
      case atStart => exact ⟨0, m, c', A', by omega, hm16, rfl, hwr, hbx.out, (by show OwnC _ _ _ _ _ _; have h := ho.out; simpa [rowL] using h), hb.out⟩
      case round =>
        clear hm16 hwr hbx ho hb
        obtain ⟨j, m, c', A', hj, hm16, rfl, hwr, hbx, ho, hb⟩ := hrel
        obtain ⟨hmk, u0, u1, uf⟩ := hbx.out
        by_cases hlt2 : j < z
        · have hm1 : m + 1 ≤ 16 := by rw [hmk]; exact kz_le hlt hlt2 hz2
          have HM := Lib.hid (show m + 1 = k * z + (j + 1) by omega)
          clear hmk
          have HS := Lib.hid (show rowsL f z k ++ rowL f k (j + 1) = (rowsL f z k ++ rowL f k j) ++ [f j k] by rw [rowL_succ, List.append_assoc])
          have hy := hb.out.size
          simp only [World.size_alloc] at hy
          have HBW := Lib.hid (show Below w.heap.size w wr from ((Below.refl w.heap.size w).alloc (Nat.le_refl _) _).trans (hb.out.mono (by omega)))
          have HF := Lib.hid (show Calls Try.prog K #[.int .i64 j, .int .i64 k, p] wr.drew _ from hf j k wr.drew hlt2 hlt HBW.out.drew)
          go_wp2
          go_region_law (first
            | (go_simp; (with_reducible refine HF.out.mono ?_); rintro e w2 ⟨rfl, hb2⟩; have HB2 := Lib.hid (show Below wr.heap.size wr w2 from ((Below.refl wr.heap.size wr).drew).trans hb2); have hx2 := HB2.out.size; obtain ⟨bc, bf, bz⟩ := bcell HB2.out (b := w.heap.size + 1) hwr; have v0 : w2.cell? ⟨w.heap.size + 1, 0, none⟩ = some (.int .i64 z) := (bc 0).trans u0; have v1 : w2.cell? ⟨w.heap.size + 1, 1, none⟩ = some (.slice A' m c') := (bc 1).trans u1; have vf : ∀ o, w2.frozen? ⟨w.heap.size + 1, o, none⟩ = false := (fun o => (bf o).trans (uf o)); clear hb2 bc bf)
            | (refine step_pushC _ (f j k) (by rfl) _ _ (by rfl) rfl (w.heap.size + 2) A' m c' _ (by rfl) (ho.out.next HB2.out) (by rfl) (by rfl) (by omega) (by omega) ?_; intro g4 c4 w4 ho4 hg4 _; have HO4 := Lib.hid ho4; obtain ⟨kc, kf, kz⟩ := bcellG' hg4 (b := w.heap.size + 1) (by omega) (fun e2 => by have := (ho.out.lt _ e2).1; omega); have k0 : w4.cell? ⟨w.heap.size + 1, 0, none⟩ = some (.int .i64 z) := (kc 0).trans v0; have k1 : w4.cell? ⟨w.heap.size + 1, 1, none⟩ = some (.slice A' m c') := (kc 1).trans v1; have kf' : ∀ o, w4.frozen? ⟨w.heap.size + 1, o, none⟩ = false := (fun o => (kf o).trans (vf o)); have HB4 := Lib.hid ((HB2.out.mono (show w.heap.size + 1 ≤ wr.heap.size by omega)).trans ((ho.out.next HB2.out).belowOwn hg4 (by omega) |>.mono (by omega))); clear ho4 hg4 kc kf))
          all_goals
            go_wp2
            go_roundw
            case rel =>
              refine ⟨j + 1, m + 1, c4, _, by omega, by omega, by go_num, by simpa using kz, ⟨HM.out, (World.cell?_setCell_other _ _ _ _ (by simp)).trans k0, World.cell?_setCell_same _ _ _ k1, fun o => by rw [World.frozen?_setCell]; exact kf' o⟩, ?_, (hb.out.trans HB4.out).setCell (Nat.le_refl _) _⟩
              rw [HS.out]
              exact HO4.out.set_ (by dsimp only; omega) _
            case measure => simp [intOf]; omega
        · obtain rfl : j = z := by omega
          have HS := Lib.hid (rowsL_succ f j k)
          have HM := Lib.hid (show m = (k + 1) * j by rw [hmk, Nat.succ_mul])
          clear hmk
          go_wp2
          go_roundw
          case rel => exact ⟨k + 1, m, c', A', by omega, hm16, by go_num, hwr, ⟨HM.out, u0, u1, uf⟩, by rw [HS.out]; exact ho.out, hb.out⟩
          case measure => simp [intOf]; omega
    · obtain rfl : k = z := by omega
      obtain ⟨hmk, u0, u1, uf⟩ := hbx.out
      clear hmk
      have hy := hb.out.size
      simp only [World.size_alloc] at hy
      have R0 : wo.cell? ⟨w.heap.size, 0, none⟩ = some (.int .i64 0) := (hb.out.cell (p := ⟨w.heap.size, 0, none⟩) (by dsimp only; omega)).trans (by simp [go_sem])
      have R1 : wo.cell? ⟨w.heap.size, 1, none⟩ = some (.slice none 0 0) := (hb.out.cell (p := ⟨w.heap.size, 1, none⟩) (by dsimp only; omega)).trans (by simp [go_sem])
      have RF : ∀ o, wo.frozen? ⟨w.heap.size, o, none⟩ = false := fun o => (hb.out.frozen (p := ⟨w.heap.size, o, none⟩) (by dsimp only; omega)).trans (by simp [go_sem])
      have HBW := Lib.hid (show Below w.heap.size w wo from ((Below.refl w.heap.size w).alloc (Nat.le_refl _) _).trans (hb.out.mono (by omega)))
      go_wp2
      refine bodyPost_ret (by simp [results, Try.results81, go_sem, *]; try rfl) rfl ?_
      refine ⟨_, _, _, rfl, ?_, ?_⟩
      · refine OwnC.base (B := w.heap.size + 2) ?_ (by omega)
        repeat' (first | exact ho.out | (with_reducible refine OwnC.set_ ?_ ?_ _) | go_size | (dsimp only; omega))
      · have hbo := HBW.out
        (repeat' (first | (with_reducible exact Below.refl _ _) | (with_reducible refine Below.setCell ?_ ?_ _) | (with_reducible refine Below.alloc ?_ ?_ _) | (with_reducible refine Below.drew ?_) | (with_reducible refine Below.drewN ?_ _) | (with_reducible refine Below.trans ?_ (Below.mono (by with_reducible assumption) ?_)) | go_size | (dsimp only; omega)))
end Go.Proofs.Ytlcllpgbpjdofaa
