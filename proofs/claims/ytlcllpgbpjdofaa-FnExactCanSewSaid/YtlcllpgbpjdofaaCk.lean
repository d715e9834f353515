/- Slices of cuts; walks of CutsOf, both sides. No condition. -/
import Derived.Test.YtlcllpgbpjdofaaCu
import Derived.StillTailTactics
set_option linter.unusedSimpArgs false
set_option linter.unusedVariables false
namespace Go.Proofs.Ytlcllpgbpjdofaa
open Go.RowKit

structure Ct where
  u : Bool
  a : Int
def Ct.vals (q : Ct) : List Value := [.bool q.u, .int .i64 q.a]
theorem Ct.len (q : Ct) : q.vals.length = 2 := rfl
theorem Ct_eq {p q : Ct} (h1 : p.u = q.u) (h2 : p.a = q.a) : p = q := by cases p; cases q; simp_all
def kith (ps : List Ct) (k : Nat) : Ct := ps.getD k ⟨false, 0⟩
theorem kith_get {ps : List Ct} {k : Nat} (h : k < ps.length) : kith ps k = ps[k] := by simp [kith, List.getD, List.getElem?_eq_getElem h]
theorem kith_some {ps : List Ct} {k : Nat} (h : k < ps.length) : ps[k]? = some (kith ps k) := by rw [kith_get h, List.getElem?_eq_getElem h]
theorem kith_set_self {ps : List Ct} {k : Nat} {x : Ct} (h : k < ps.length) : kith (ps.set k x) k = x := by simp [kith, List.getD, h]
theorem kith_set_other {ps : List Ct} {k j : Nat} {x : Ct} (h : j ≠ k) : kith (ps.set k x) j = kith ps j := by simp [kith, List.getD, List.getElem?_set_ne (Ne.symm h)]
theorem kext {xs ys : List Ct} (hl : xs.length = ys.length) (h : ∀ j, j < xs.length → kith xs j = kith ys j) : xs = ys := by
  apply List.ext_getElem hl
  intro j h1 h2
  have := h j h1
  rwa [kith_get h1, kith_get h2] at this
abbrev RdK (w : World) (B : Nat) (A : Option Addr) (n : Nat) (ps : List Ct) : Prop := RdG Ct.vals 2 w B A n ps
abbrev OwnK (w : World) (B : Nat) (A : Option Addr) (n c : Nat) (ps : List Ct) : Prop := OwnG Ct.vals 2 80 w B A n c ps
theorem RdK.at2 {w : World} {B n : Nat} {A : Option Addr} {ps : List Ct} (hr : RdK w B A n ps) {k : Nat} (hk : k < n) : ∃ g off, A = some ⟨g, off, none⟩ ∧ w.cell? ⟨g, off + k * 2, none⟩ = some (.bool (kith ps k).u) ∧ w.cell? ⟨g, off + k * 2 + 1, none⟩ = some (.int .i64 (kith ps k).a) := by
  obtain ⟨g, off, x, e, hx, hc⟩ := hr.at_ hk
  have hl := hr.1
  rw [kith_some (by omega)] at hx
  cases hx
  exact ⟨g, off, e, hc 0 _ rfl, hc 1 _ rfl⟩
theorem OwnK.at2 {w : World} {B n c g : Nat} {ps : List Ct} (ho : OwnK w B (some ⟨g, 0, none⟩) n c ps) {k : Nat} (hk : k < n) : w.cell? ⟨g, k * 2, none⟩ = some (.bool (kith ps k).u) ∧ w.cell? ⟨g, k * 2 + 1, none⟩ = some (.int .i64 (kith ps k).a) := by
  have hl := ho.len
  have hx := kith_some (ps := ps) (k := k) (by omega)
  exact ⟨ho.cellAt Ct.len hx (j := 0) rfl, ho.cellAt Ct.len hx (j := 1) rfl⟩
theorem OwnK.st0 {w : World} {B n c g : Nat} {ps : List Ct} (ho : OwnK w B (some ⟨g, 0, none⟩) n c ps) {k : Nat} (hk : k < n) (v : Bool) :
    OwnK (w.setCell ⟨g, k * 2, none⟩ (.bool v)) B (some ⟨g, 0, none⟩) n c (ps.set k ⟨v, (kith ps k).a⟩) ∧ w.grownBy (w.setCell ⟨g, k * 2, none⟩ (.bool v)) (some g) :=
  ho.store Ct.len (kith_some (by have hl := ho.len; omega)) (j := 0) (by omega) rfl
theorem OwnK.st1 {w : World} {B n c g : Nat} {ps : List Ct} (ho : OwnK w B (some ⟨g, 0, none⟩) n c ps) {k : Nat} (hk : k < n) (v : Int) :
    OwnK (w.setCell ⟨g, k * 2 + 1, none⟩ (.int .i64 v)) B (some ⟨g, 0, none⟩) n c (ps.set k ⟨(kith ps k).u, v⟩) ∧ w.grownBy (w.setCell ⟨g, k * 2 + 1, none⟩ (.int .i64 v)) (some g) :=
  ho.store Ct.len (kith_some (by have hl := ho.len; omega)) (j := 1) (by omega) rfl
theorem cut_info : (Try.prog.info? 80).map (fun i => (i.zero, i.size, i.bytes)) = some (some (.agg #[.bool false, .int .i64 0]), 2, 16) := by kernel_rfl
/-- one cut is appended -/
theorem wpList_pushK (w0 : World) (q : Ct) {cs : Array Value} {ops : Array Oper} {rest : List Oper} {o : Oper} {a : Act} {Q : Exit → Act → World → Prop} (hgd : o.guard = none) (s x : Operand)
    (ho : o.op = .call { callee := .builtin .append, args := #[s, x], argTypes := #[68, 68] }) (hcs : cs.toList = q.vals)
    (B : Nat) (A : Option Addr) (n c : Nat) (xs : List Ct) (hs : a.eval s = .slice A n c) (hown : OwnK w0 B A n c xs)
    {N : Nat} (hx : a.eval x = .slice (some ⟨N, 0, none⟩) 1 1) (hN : w0.heap.size = N) (hn : n + 1 ≤ 2097152) (hbase : B ≤ w0.heap.size)
    (hK : ∀ g' c' w', OwnK w' B (some ⟨g', 0, none⟩) (n + 1) c' (xs ++ [q]) → w0.grownBy w' (Value.slice A n c).ownBlock → ((Value.slice A n c).ownBlock = some g' ∨ w0.heap.size ≤ g') →
      wpList Try.prog ops Q rest (a.put o.dst (.slice (some ⟨g', 0, none⟩) (n + 1) c')) w') : wpList Try.prog ops Q (o :: rest) a (w0.alloc (.cells cs 80)) := by
  subst hN
  obtain ⟨i0, hi, hz0, hz1, hz2⟩ := info_parts cut_info
  refine wpList_pushG Ct.len w0 q cs hgd s x _ ho B 80 i0 (.agg #[.bool false, .int .i64 0]) 16 Try.underlying68 hi hz0 hz1 hz2 (by omega) rfl (by omega) hcs ?_ A n c xs hs hown hx hn hbase hK
  intro u hu
  simp [Ct.vals] at hu
  rcases hu with rfl | rfl <;> rfl

set_option maxHeartbeats 400000 in
theorem laws_eqCut_self (u : Bool) (a : Int) (w : World) :
    Calls Try.prog 98 #[.agg #[.bool u, .int .i64 a], .agg #[.bool u, .int .i64 a]] w fun e w' => e = .returned (.bool true) ∧ Below w.heap.size w w' := by
  have q1 : (u != u) = false := by simp
  have q2 : (a != a) = false := by simp
  go_enter Try.func98, Try.ntmps98
  go_wp2
  go_ret
  exact ⟨rfl, by (repeat' (first | (with_reducible exact Below.refl _ _) | (with_reducible refine Below.setCell ?_ ?_ _) | (with_reducible refine Below.alloc ?_ ?_ _) | (with_reducible refine Below.drew ?_) | (with_reducible refine Below.drewN ?_ _) | (with_reducible refine Below.trans ?_ (Below.mono (by with_reducible assumption) ?_)) | go_size | (dsimp only; omega)))⟩

set_option maxRecDepth 100000 in
set_option maxHeartbeats 1000000 in
theorem laws_eqCutS (A A' : Option Addr) (n c n' c' : Nat) (xs : List Ct) (w : World) (h : RdK w w.heap.size A n xs) (h' : RdK w w.heap.size A' n' xs) :
    Calls Try.prog 51 #[.slice A n c, .slice A' n' c'] w fun e w' => e = .returned (.bool true) ∧ Below w.heap.size w w' := by
  have hle := h.le
  have hle' := h'.le
  obtain rfl : n = n' := by rw [← h.1, ← h'.1]
  have H := Lib.hid h
  have H' := Lib.hid h'
  clear h h'
  have hq : ((n : Int) != (n : Int)) = false := by simp
  go_enter Try.func51, Try.ntmps51
  go_wp2
  clear hq
  go_loopw [5] (fun i wr => ∃ (k : Nat), k ≤ n ∧ i = .int .i64 k ∧ Hid (Below w.heap.size w wr)) (fun i _ => n - (intOf i).toNat)
  case atStart => exact ⟨0, Nat.zero_le _, rfl, Below.refl _ _⟩
  case round =>
    obtain ⟨k, hk, rfl, hb⟩ := hrel
    by_cases hlt : k < n
    · obtain ⟨g, off, rfl, hc0, hc1⟩ := RdK.at2 (H.out.below hb.out) hlt
      obtain ⟨g', off', rfl, hc0', hc1'⟩ := RdK.at2 (H'.out.below hb.out) hlt
      have h0 : (0 : Int) ≤ (k : Int) := by omega
      have h1 : (k : Int) < (n : Int) := by omega
      go_wp2
      go_still_tail 8, (by kernel_rfl)
      go_wp2_with (go_at_call 98; refine (laws_eqCut_self _ _ _).mono ?_; rintro e w2 ⟨rfl, hb2⟩; have HB2 := Lib.hid (hb.out.drew.trans (hb2.mono hb.out.size)); clear hb2)
      go_roundw
      case rel => exact ⟨k + 1, by omega, by go_num, HB2.out⟩
      case measure => simp [intOf]; omega
    · go_wp2
      go_ret
      exact ⟨rfl, hb.out⟩

/-- cuts with the marks k0, k0 + 1, .. -/
def marksK (k0 : Int) (n : Nat) : List Ct := (List.range n).map (fun (i : Nat) => ⟨(k0 + 2 * (i : Int)) % 3 == 0, k0 + 2 * (i : Int) + 1⟩)
theorem marksK_len (k0 : Int) (n : Nat) : (marksK k0 n).length = n := by simp [marksK]
theorem kith_marks {k0 : Int} {n j : Nat} (h : j < n) : kith (marksK k0 n) j = ⟨(k0 + 2 * (j : Int)) % 3 == 0, k0 + 2 * (j : Int) + 1⟩ := by
  rw [kith_get (by rw [marksK_len]; exact h)]; simp [marksK]

set_option maxRecDepth 100000 in
set_option maxHeartbeats 1000000 in
theorem laws_markCutS (A : Option Addr) (n c B : Nat) (xs : List Ct) (k0 : Int) (w : World) (h : OwnK w B A n c xs) (hk0 : 0 ≤ k0) (hk1 : k0 ≤ 1000000000000) :
    Calls Try.prog 54 #[.slice A n c, .int .i64 k0] w fun e w' => e = .returned (.int .i64 (k0 + 2 * n)) ∧ OwnK w' B A n c (marksK k0 n) ∧ w.grownBy w' (Value.slice A n c).ownBlock := by
  have hle := h.1
  have H := Lib.hid h
  clear h
  go_enter Try.func54, Try.ntmps54
  go_wp2
  go_loopw [1, 5] (fun q i wr => ∃ (k : Nat) (ys : List Ct) (p : Int), k ≤ n ∧ 0 ≤ p ∧ p ≤ 1000000000000 + 2 * k ∧ i = .int .i64 k ∧ q = .int .i64 p ∧ Hid (p = k0 + 2 * k) ∧ Hid (OwnK wr B A n c ys) ∧ Hid (∀ j : Nat, j < k → kith ys j = ⟨(k0 + 2 * (j : Int)) % 3 == 0, k0 + 2 * (j : Int) + 1⟩) ∧ Hid (w.grownBy wr (Value.slice A n c).ownBlock)) (fun _ i _ => n - (intOf i).toNat)
  case atStart => exact ⟨0, xs, k0, Nat.zero_le _, hk0, by omega, rfl, rfl, by show k0 = k0 + 2 * ((0 : Nat) : Int); omega, H, fun j hj => absurd hj (by omega), World.grownBy.refl _ _⟩
  case round =>
    obtain ⟨k, ys, p, hk, hp0, hp1, rfl, rfl, hp2, ho, hp, hb⟩ := hrel
    by_cases hlt : k < n
    · obtain ⟨g, rfl, _, _⟩ := ho.out.form (by omega)
      have s1 := OwnK.st0 ho.out hlt (p % 3 == 0)
      have s2 := OwnK.st1 s1.1 hlt (p + 1)
      obtain ⟨d0, d1⟩ := OwnK.at2 ho.out hlt
      obtain ⟨_, d1'⟩ := OwnK.at2 s1.1 hlt
      have f0 := ho.out.frozenAt (by omega) (k * 2)
      have f1 := s1.1.frozenAt (by omega) (k * 2 + 1)
      have S2 := Lib.hid s2.1
      have G2 := Lib.hid (grown_tr (grown_tr hb.out s1.2) s2.2)
      clear s1 s2 d1
      go_wp2
      go_roundw
      case rel =>
        refine ⟨k + 1, _, p + 1 + 1, by omega, by omega, by omega, by go_num, rfl, ?_, S2.out, ?_, G2.out⟩
        · have := hp2.out; show p + 1 + 1 = k0 + 2 * ((k + 1 : Nat) : Int); omega
        · have hl := ho.out.len
          intro j hj
          by_cases hjk : j = k
          · subst hjk
            have h2 := hp2.out
            rw [kith_set_self (by simp; omega), kith_set_self (by omega)]
            exact Ct_eq (by show (p % 3 == 0) = ((k0 + 2 * (j : Int)) % 3 == 0); rw [h2]) (by show p + 1 = k0 + 2 * (j : Int) + 1; omega)
          · have h1 := hp.out j (by omega)
            simp only [kith_set_other hjk]; exact h1
      case measure => simp [intOf]; omega
    · go_wp2
      go_ret
      have hl := ho.out.len
      have ek : k = n := by omega
      have e : ys = marksK k0 n := kext (by rw [marksK_len]; exact hl) (fun j hj => by rw [kith_marks (by omega)]; exact hp.out j (by omega))
      exact ⟨by rw [← ek, ← hp2.out]; rfl, e ▸ ho.out, hb.out⟩

set_option maxRecDepth 100000 in
set_option maxHeartbeats 1000000 in
theorem laws_heldCutS (A : Option Addr) (n c : Nat) (k0 : Int) (w : World) (h : RdK w w.heap.size A n (marksK k0 n)) (hk0 : 0 ≤ k0) (hk1 : k0 ≤ 1000000000000) :
    Calls Try.prog 55 #[.slice A n c, .int .i64 k0] w fun e w' => e = .returned (.int .i64 (k0 + 2 * n)) ∧ w = w' := by
  have hle := h.le
  have H := Lib.hid h
  clear h
  go_enter Try.func55, Try.ntmps55
  go_wp2
  go_loop [1, 5] (fun q i => ∃ (k : Nat) (p : Int), k ≤ n ∧ 0 ≤ p ∧ p ≤ 1000000000000 + 2 * k ∧ i = .int .i64 k ∧ q = .int .i64 p ∧ Hid (p = k0 + 2 * k)) (fun _ i => n - (intOf i).toNat)
  case atStart => exact ⟨0, k0, Nat.zero_le _, hk0, by omega, rfl, rfl, by show k0 = k0 + 2 * ((0 : Nat) : Int); omega⟩
  case round =>
    obtain ⟨k, p, hk, hp0, hp1, rfl, rfl, hp2⟩ := hrel
    by_cases hlt : k < n
    · obtain ⟨g, off, rfl, hc0, hc1⟩ := RdK.at2 H.out hlt
      rw [kith_marks hlt] at hc0 hc1
      have e0 : k0 + 2 * (k : Int) = p := hp2.out.symm
      simp only [e0] at hc0 hc1
      clear e0
      cases t : p % 3 == 0 with
      | true =>
        rw [t] at hc0
        go_wp2
        go_round
        case rel => exact ⟨k + 1, p + 1 + 1, by omega, by omega, by omega, by go_num, by go_num, by have := hp2.out; show p + 1 + 1 = k0 + 2 * ((k + 1 : Nat) : Int); omega⟩
        case measure => simp [intOf]; omega
      | false =>
        rw [t] at hc0
        go_wp2
        go_round
        case rel => exact ⟨k + 1, p + 1 + 1, by omega, by omega, by omega, by go_num, by go_num, by have := hp2.out; show p + 1 + 1 = k0 + 2 * ((k + 1 : Nat) : Int); omega⟩
        case measure => simp [intOf]; omega
    · go_wp2
      go_ret
      have ek : k = n := by omega
      exact ⟨by rw [← ek, ← hp2.out]; rfl, rfl⟩

/-- the cuts of one kind at 0 .. k - 1 -/
noncomputable def cutsTo (z y : Int) (ps : List Pt) (u : Bool) (k : Nat) : List Ct := ((List.range k).filter (fun (a : Nat) => cutB z y ps u a)).map (fun (a : Nat) => ⟨u, (a : Int)⟩)
noncomputable def cutsB (z y : Int) (ps : List Pt) : List Ct := cutsTo z y ps true 12 ++ cutsTo z y ps false 12
theorem cutsTo_t {z y : Int} {ps : List Pt} {u : Bool} {k : Nat} (h : cutB z y ps u k = true) : cutsTo z y ps u (k + 1) = cutsTo z y ps u k ++ [⟨u, k⟩] := by
  simp [cutsTo, List.range_succ, List.filter_append, h]
theorem cutsTo_f {z y : Int} {ps : List Pt} {u : Bool} {k : Nat} (h : cutB z y ps u k = false) : cutsTo z y ps u (k + 1) = cutsTo z y ps u k := by
  simp [cutsTo, List.range_succ, List.filter_append, h]
theorem cutsTo_len (z y : Int) (ps : List Pt) (u : Bool) (k : Nat) : (cutsTo z y ps u k).length ≤ k := by
  rw [cutsTo, List.length_map]
  exact Nat.le_trans (List.length_filter_le _ _) (by simp)
theorem cutB_zero (z y : Int) (ps : List Pt) (u : Bool) : cutB z y ps u ((0 : Nat) : Int) = false := cutB_2 (inB_f1 (by omega))
theorem cutsTo_one (z y : Int) (ps : List Pt) (u : Bool) : cutsTo z y ps u 1 = [] := by rw [cutsTo_f (cutB_zero z y ps u)]; rfl
theorem cutsTo_no {z y : Int} {ps : List Pt} (h : layB z y ps = false) (u : Bool) (k : Nat) : cutsTo z y ps u k = [] := by
  induction k with
  | zero => rfl
  | succ k ih => rw [cutsTo_f (cutB_1 h), ih]
theorem cutsB_no {z y : Int} {ps : List Pt} (h : layB z y ps = false) : cutsB z y ps = [] := by rw [cutsB, cutsTo_no h, cutsTo_no h]; rfl

theorem cutsTo_bd (z y : Int) (ps : List Pt) (u : Bool) (k : Nat) : (cutsTo z y ps u k).length ≤ k := cutsTo_len z y ps u k
theorem bcellG {W w1 : World} {row : Option Nat} (hg : W.grownBy w1 row) {b : Nat} (h : b < W.heap.size) (hne : row = some b → False) : (∀ o, w1.cell? ⟨b, o, none⟩ = W.cell? ⟨b, o, none⟩) ∧ (∀ o, w1.frozen? ⟨b, o, none⟩ = W.frozen? ⟨b, o, none⟩) ∧ b < w1.heap.size :=
  ⟨fun o => World.cell?_of_block (a := ⟨b, o, none⟩) (hg.block b h (fun e => hne e.symm)), fun o => World.frozen?_of_block (a := ⟨b, o, none⟩) (hg.block b h (fun e => hne e.symm)), Nat.lt_of_lt_of_le h hg.size⟩

def cutsUpDoc : Unit := ()
noncomputable def cutsUp (z y : Int) (ps : List Pt) : Nat → List Ct
  | 0 => []
  | 1 => cutsTo z y ps true 12
  | _ => cutsB z y ps
set_option maxRecDepth 100000 in
set_option maxHeartbeats 4000000 in
theorem impl_CutsOf (z y : Int) (A : Option Addr) (n c : Nat) (ps : List Pt) (w : World) (h : RdP w w.heap.size A n ps) :
    Calls Try.prog 50 #[.agg #[.int .i64 z, .int .i64 y, .slice A n c]] w fun e w' => ∃ A' n' c', e = .returned (.slice A' n' c') ∧ OwnK w' w.heap.size A' n' c' (cutsB z y ps) ∧ Below w.heap.size w w' := by
  have hs := lt2
  have hle := h.le
  have H := Lib.hid h
  clear h
  go_enter Try.func50, Try.ntmps50
  go_wp2
  go_loopw [3, 11] (fun v i wr => ∃ (r m c' : Nat) (A' : Option Addr), r ≤ 2 ∧ m ≤ 12 * r ∧ i = .int .i64 r ∧ v = .slice A' m c' ∧ Hid (OwnK wr (w.heap.size + 1) A' m c' (cutsUp z y ps r) ∧ (Value.slice A' m c').ownBlock ≠ some (w.heap.size + 2)) ∧ Hid (wr.cell? ⟨w.heap.size + 2, 0, none⟩ = some (.bool true) ∧ wr.cell? ⟨w.heap.size + 2, 1, none⟩ = some (.bool false)) ∧ w.heap.size + 2 < wr.heap.size ∧ Hid (Below (w.heap.size + 1) (w.alloc (.cells #[.int .i64 z, .int .i64 y, .slice A n c] 29)) wr)) (fun _ i _ => 2 - (intOf i).toNat)
  case atStart => exact ⟨0, 0, 0, some ⟨w.heap.size + 1, 0, none⟩, by omega, by omega, rfl, rfl, ⟨(by show OwnK _ _ _ _ _ []; have h0 := OwnG.empty (vals := Ct.vals) (m := 2) (T := 80) (w := (w.alloc (.cells #[.int .i64 z, .int .i64 y, .slice A n c] 29))) (B := w.heap.size + 1) (by simp); have h1 := h0.next ((Below.refl _ _).alloc (Nat.le_refl _) (.cells #[.bool true, .bool false] 4)); simpa using h1), (by simp [Value.ownBlock])⟩, ⟨by simp [go_sem], by simp [go_sem]⟩, by simp, ((Below.refl _ _).alloc (by simp) _).alloc (by simp) _⟩
  case round =>
    obtain ⟨r, m, c', A', hr, hm, rfl, rfl, ho, lit, hwr, hb⟩ := hrel
    have p0 : wr.cell? ⟨w.heap.size, 0, none⟩ = some (.int .i64 z) := (hb.out.cell (p := ⟨w.heap.size, 0, none⟩) (by dsimp only; omega)).trans (by rw [World.cell?_alloc_new]; rfl)
    have p1 : wr.cell? ⟨w.heap.size, 1, none⟩ = some (.int .i64 y) := (hb.out.cell (p := ⟨w.heap.size, 1, none⟩) (by dsimp only; omega)).trans (by rw [World.cell?_alloc_new]; rfl)
    have p2 : wr.cell? ⟨w.heap.size, 2, none⟩ = some (.slice A n c) := (hb.out.cell (p := ⟨w.heap.size, 2, none⟩) (by dsimp only; omega)).trans (by rw [World.cell?_alloc_new]; rfl)
    have hzr : w.heap.size < wr.heap.size := by omega
    have l0 := lit.out.1
    have l1 := lit.out.2
    by_cases h0 : r = 0
    · have HR := Lib.hid h0
      have hr1 : r < 1 := by omega
      have hr2 : (r : Int) < 2 := by omega
      have le : wr.cell? ⟨w.heap.size + 2, r, none⟩ = some (.bool true) := by rw [h0]; exact l0
      have HO := Lib.hid (show OwnK wr (w.heap.size + 1) A' m c' [] by have h := ho.out.1; rw [h0] at h; exact h)
      clear h0
      obtain ⟨wo, rfl⟩ : ∃ wo : World, wo = wr := ⟨_, rfl⟩
      go_wp2
      go_loopw [3, 6] (fun v i wr => ∃ (k m c' : Nat) (A' : Option Addr), 1 ≤ k ∧ k ≤ 12 ∧ m ≤ 0 + k ∧ i = .int .i64 k ∧ v = .slice A' m c' ∧ Hid (OwnK wr (w.heap.size + 1) A' m c' ([] ++ cutsTo z y ps true k) ∧ (Value.slice A' m c').ownBlock ≠ some (w.heap.size + 2)) ∧ Hid (wr.cell? ⟨w.heap.size + 2, 0, none⟩ = some (.bool true) ∧ wr.cell? ⟨w.heap.size + 2, 1, none⟩ = some (.bool false)) ∧ w.heap.size + 2 < wr.heap.size ∧ Hid (Below (w.heap.size + 1) (w.alloc (.cells #[.int .i64 z, .int .i64 y, .slice A n c] 29)) wr)) (fun _ i _ => 12 - (intOf i).toNat)
      case atStart => exact ⟨1, m, c', A', by omega, by omega, by omega, rfl, rfl, ⟨by rw [cutsTo_one, List.append_nil]; exact HO.out, ho.out.2⟩, lit.out, hwr, hb.out⟩
      case round =>
        clear hm ho lit hwr hb p0 p1 p2 hzr l0 l1 le HO
        obtain ⟨k, m, c', A', hk1, hk, hm, rfl, rfl, ho, lit, hwr, hb⟩ := hrel
        have p0 : wr.cell? ⟨w.heap.size, 0, none⟩ = some (.int .i64 z) := (hb.out.cell (p := ⟨w.heap.size, 0, none⟩) (by dsimp only; omega)).trans (by rw [World.cell?_alloc_new]; rfl)
        have p1 : wr.cell? ⟨w.heap.size, 1, none⟩ = some (.int .i64 y) := (hb.out.cell (p := ⟨w.heap.size, 1, none⟩) (by dsimp only; omega)).trans (by rw [World.cell?_alloc_new]; rfl)
        have p2 : wr.cell? ⟨w.heap.size, 2, none⟩ = some (.slice A n c) := (hb.out.cell (p := ⟨w.heap.size, 2, none⟩) (by dsimp only; omega)).trans (by rw [World.cell?_alloc_new]; rfl)
        have hzr : w.heap.size < wr.heap.size := by omega
        have hy := hb.out.size
        simp only [World.size_alloc] at hy
        have HBW := Lib.hid (show Below w.heap.size w wr from ((Below.refl w.heap.size w).alloc (Nat.le_refl _) _).trans (hb.out.mono (by omega)))
        by_cases hlt : k < 12
        · cases hq : cutB z y ps true (k : Int) with
          | true =>
            have HS := Lib.hid (cutsTo_t hq)
            go_wp2_with (first
              | (go_at_call 97; refine (impl_IsCut _ _ _ _ _ _ _ _ _ (H.out.below' (by have hW := HBW.out; (repeat' (first | (with_reducible exact Below.refl _ _) | (with_reducible refine Below.setCell ?_ ?_ _) | (with_reducible refine Below.alloc ?_ ?_ _) | (with_reducible refine Below.drew ?_) | (with_reducible refine Below.drewN ?_ _) | (with_reducible refine Below.trans ?_ (Below.mono (by with_reducible assumption) ?_)) | go_size | (dsimp only; omega)))) (by go_size))).mono ?_; rintro e w2 ⟨rfl, hb2⟩; have HB2 := Lib.hid (show Below wr.heap.size wr w2 from (((Below.refl wr.heap.size wr).alloc (Nat.le_refl _) _)).trans (hb2.mono (by go_size))); have hx2 := HB2.out.size; have hx3 := bsize hb2; (try simp at hx3); obtain ⟨bc, bf, bz⟩ := bcell hb2 (b := wr.heap.size) (by go_size); obtain ⟨lc, lf, lz⟩ := bcell HB2.out (b := w.heap.size + 2) (by omega); clear hb2)
              | (at_builtin; refine wpList_pushK _ ⟨true, (k : Int)⟩ rfl _ _ rfl rfl (w.heap.size + 1) _ _ _ _ rfl (ho.out.1.next HB2.out) rfl rfl (by omega) (by omega) ?_; intro g4 c4 w4 ho4 hg4 hn4; have HO4 := Lib.hid ho4; obtain ⟨kc, kf, kz⟩ := bcellG hg4 (b := w.heap.size + 2) (by omega) (fun e2 => ho.out.2 e2); have k0 : w4.cell? ⟨w.heap.size + 2, 0, none⟩ = some (.bool true) := (kc 0).trans ((lc 0).trans lit.out.1); have k1 : w4.cell? ⟨w.heap.size + 2, 1, none⟩ = some (.bool false) := (kc 1).trans ((lc 1).trans lit.out.2); have HN4 := Lib.hid (show (Value.slice (some ⟨g4, 0, none⟩) (m + 1) c4).ownBlock ≠ some (w.heap.size + 2) by intro e; simp only [Value.ownBlock, Option.some.injEq] at e; rcases hn4 with h4 | h4; (exact ho.out.2 (by rw [h4, e])); omega); have HB4 := Lib.hid ((HB2.out.mono (show w.heap.size + 1 ≤ wr.heap.size by omega)).trans ((ho.out.1.next HB2.out).belowOwn hg4 (by omega))); clear ho4 hg4 hn4 kc kf))
            go_roundw
            case rel => exact ⟨k + 1, m + 1, c4, _, by omega, by omega, by omega, by go_num, rfl, ⟨by rw [HS.out, ← List.append_assoc]; exact HO4.out, HN4.out⟩, ⟨k0, k1⟩, kz, hb.out.trans HB4.out⟩
            case measure => simp [intOf]; omega
          | false =>
            have HS := Lib.hid (cutsTo_f hq)
            go_wp2_with (go_at_call 97; refine (impl_IsCut _ _ _ _ _ _ _ _ _ (H.out.below' (by have hW := HBW.out; (repeat' (first | (with_reducible exact Below.refl _ _) | (with_reducible refine Below.setCell ?_ ?_ _) | (with_reducible refine Below.alloc ?_ ?_ _) | (with_reducible refine Below.drew ?_) | (with_reducible refine Below.drewN ?_ _) | (with_reducible refine Below.trans ?_ (Below.mono (by with_reducible assumption) ?_)) | go_size | (dsimp only; omega)))) (by go_size))).mono ?_; rintro e w2 ⟨rfl, hb2⟩; have HB2 := Lib.hid (show Below wr.heap.size wr w2 from (((Below.refl wr.heap.size wr).alloc (Nat.le_refl _) _)).trans (hb2.mono (by go_size))); have hx2 := HB2.out.size; have hx3 := bsize hb2; (try simp at hx3); obtain ⟨bc, bf, bz⟩ := bcell hb2 (b := wr.heap.size) (by go_size); obtain ⟨lc, lf, lz⟩ := bcell HB2.out (b := w.heap.size + 2) (by omega); clear hb2)
            go_roundw
            case rel => exact ⟨k + 1, m, c', _, by omega, by omega, by omega, by go_num, rfl, ⟨by rw [HS.out]; exact ho.out.1.next HB2.out, ho.out.2⟩, ⟨(lc 0).trans lit.out.1, (lc 1).trans lit.out.2⟩, lz, hb.out.trans (HB2.out.mono (by omega))⟩
            case measure => simp [intOf]; omega
        · obtain rfl : k = 12 := by omega
          go_wp2
          go_roundw
          case rel => exact ⟨r + 1, m, c', A', by omega, by omega, by go_num, rfl, ⟨by rw [HR.out]; have h := ho.out.1; rwa [List.nil_append] at h, ho.out.2⟩, lit.out, hwr, hb.out⟩
          case measure => simp [intOf]; omega
    · by_cases h1 : r = 1
      · have HR := Lib.hid h1
        have hr1 : 1 ≤ r := by omega
        have hr2 : (r : Int) < 2 := by omega
        have hr3 : r < 2 := by omega
        have le : wr.cell? ⟨w.heap.size + 2, r, none⟩ = some (.bool false) := by rw [h1]; exact l1
        have HO := Lib.hid (show OwnK wr (w.heap.size + 1) A' m c' (cutsTo z y ps true 12) by have h := ho.out.1; rw [h1] at h; exact h)
        clear h0 h1
        obtain ⟨wo, rfl⟩ : ∃ wo : World, wo = wr := ⟨_, rfl⟩
        go_wp2
        go_loopw [3, 6] (fun v i wr => ∃ (k m c' : Nat) (A' : Option Addr), 1 ≤ k ∧ k ≤ 12 ∧ m ≤ 12 + k ∧ i = .int .i64 k ∧ v = .slice A' m c' ∧ Hid (OwnK wr (w.heap.size + 1) A' m c' (cutsTo z y ps true 12 ++ cutsTo z y ps false k) ∧ (Value.slice A' m c').ownBlock ≠ some (w.heap.size + 2)) ∧ Hid (wr.cell? ⟨w.heap.size + 2, 0, none⟩ = some (.bool true) ∧ wr.cell? ⟨w.heap.size + 2, 1, none⟩ = some (.bool false)) ∧ w.heap.size + 2 < wr.heap.size ∧ Hid (Below (w.heap.size + 1) (w.alloc (.cells #[.int .i64 z, .int .i64 y, .slice A n c] 29)) wr)) (fun _ i _ => 12 - (intOf i).toNat)
        case atStart => exact ⟨1, m, c', A', by omega, by omega, by omega, rfl, rfl, ⟨by rw [cutsTo_one, List.append_nil]; exact HO.out, ho.out.2⟩, lit.out, hwr, hb.out⟩
        case round =>
          clear hm ho lit hwr hb p0 p1 p2 hzr l0 l1 le HO
          obtain ⟨k, m, c', A', hk1, hk, hm, rfl, rfl, ho, lit, hwr, hb⟩ := hrel
          have p0 : wr.cell? ⟨w.heap.size, 0, none⟩ = some (.int .i64 z) := (hb.out.cell (p := ⟨w.heap.size, 0, none⟩) (by dsimp only; omega)).trans (by rw [World.cell?_alloc_new]; rfl)
          have p1 : wr.cell? ⟨w.heap.size, 1, none⟩ = some (.int .i64 y) := (hb.out.cell (p := ⟨w.heap.size, 1, none⟩) (by dsimp only; omega)).trans (by rw [World.cell?_alloc_new]; rfl)
          have p2 : wr.cell? ⟨w.heap.size, 2, none⟩ = some (.slice A n c) := (hb.out.cell (p := ⟨w.heap.size, 2, none⟩) (by dsimp only; omega)).trans (by rw [World.cell?_alloc_new]; rfl)
          have hzr : w.heap.size < wr.heap.size := by omega
          have hy := hb.out.size
          simp only [World.size_alloc] at hy
          have HBW := Lib.hid (show Below w.heap.size w wr from ((Below.refl w.heap.size w).alloc (Nat.le_refl _) _).trans (hb.out.mono (by omega)))
          by_cases hlt : k < 12
          · cases hq : cutB z y ps false (k : Int) with
            | true =>
              have HS := Lib.hid (cutsTo_t hq)
              go_wp2_with (first
                | (go_at_call 97; refine (impl_IsCut _ _ _ _ _ _ _ _ _ (H.out.below' (by have hW := HBW.out; (repeat' (first | (with_reducible exact Below.refl _ _) | (with_reducible refine Below.setCell ?_ ?_ _) | (with_reducible refine Below.alloc ?_ ?_ _) | (with_reducible refine Below.drew ?_) | (with_reducible refine Below.drewN ?_ _) | (with_reducible refine Below.trans ?_ (Below.mono (by with_reducible assumption) ?_)) | go_size | (dsimp only; omega)))) (by go_size))).mono ?_; rintro e w2 ⟨rfl, hb2⟩; have HB2 := Lib.hid (show Below wr.heap.size wr w2 from (((Below.refl wr.heap.size wr).alloc (Nat.le_refl _) _)).trans (hb2.mono (by go_size))); have hx2 := HB2.out.size; have hx3 := bsize hb2; (try simp at hx3); obtain ⟨bc, bf, bz⟩ := bcell hb2 (b := wr.heap.size) (by go_size); obtain ⟨lc, lf, lz⟩ := bcell HB2.out (b := w.heap.size + 2) (by omega); clear hb2)
                | (at_builtin; refine wpList_pushK _ ⟨false, (k : Int)⟩ rfl _ _ rfl rfl (w.heap.size + 1) _ _ _ _ rfl (ho.out.1.next HB2.out) rfl rfl (by omega) (by omega) ?_; intro g4 c4 w4 ho4 hg4 hn4; have HO4 := Lib.hid ho4; obtain ⟨kc, kf, kz⟩ := bcellG hg4 (b := w.heap.size + 2) (by omega) (fun e2 => ho.out.2 e2); have k0 : w4.cell? ⟨w.heap.size + 2, 0, none⟩ = some (.bool true) := (kc 0).trans ((lc 0).trans lit.out.1); have k1 : w4.cell? ⟨w.heap.size + 2, 1, none⟩ = some (.bool false) := (kc 1).trans ((lc 1).trans lit.out.2); have HN4 := Lib.hid (show (Value.slice (some ⟨g4, 0, none⟩) (m + 1) c4).ownBlock ≠ some (w.heap.size + 2) by intro e; simp only [Value.ownBlock, Option.some.injEq] at e; rcases hn4 with h4 | h4; (exact ho.out.2 (by rw [h4, e])); omega); have HB4 := Lib.hid ((HB2.out.mono (show w.heap.size + 1 ≤ wr.heap.size by omega)).trans ((ho.out.1.next HB2.out).belowOwn hg4 (by omega))); clear ho4 hg4 hn4 kc kf))
              go_roundw
              case rel => exact ⟨k + 1, m + 1, c4, _, by omega, by omega, by omega, by go_num, rfl, ⟨by rw [HS.out, ← List.append_assoc]; exact HO4.out, HN4.out⟩, ⟨k0, k1⟩, kz, hb.out.trans HB4.out⟩
              case measure => simp [intOf]; omega
            | false =>
              have HS := Lib.hid (cutsTo_f hq)
              go_wp2_with (go_at_call 97; refine (impl_IsCut _ _ _ _ _ _ _ _ _ (H.out.below' (by have hW := HBW.out; (repeat' (first | (with_reducible exact Below.refl _ _) | (with_reducible refine Below.setCell ?_ ?_ _) | (with_reducible refine Below.alloc ?_ ?_ _) | (with_reducible refine Below.drew ?_) | (with_reducible refine Below.drewN ?_ _) | (with_reducible refine Below.trans ?_ (Below.mono (by with_reducible assumption) ?_)) | go_size | (dsimp only; omega)))) (by go_size))).mono ?_; rintro e w2 ⟨rfl, hb2⟩; have HB2 := Lib.hid (show Below wr.heap.size wr w2 from (((Below.refl wr.heap.size wr).alloc (Nat.le_refl _) _)).trans (hb2.mono (by go_size))); have hx2 := HB2.out.size; have hx3 := bsize hb2; (try simp at hx3); obtain ⟨bc, bf, bz⟩ := bcell hb2 (b := wr.heap.size) (by go_size); obtain ⟨lc, lf, lz⟩ := bcell HB2.out (b := w.heap.size + 2) (by omega); clear hb2)
              go_roundw
              case rel => exact ⟨k + 1, m, c', _, by omega, by omega, by omega, by go_num, rfl, ⟨by rw [HS.out]; exact ho.out.1.next HB2.out, ho.out.2⟩, ⟨(lc 0).trans lit.out.1, (lc 1).trans lit.out.2⟩, lz, hb.out.trans (HB2.out.mono (by omega))⟩
              case measure => simp [intOf]; omega
          · obtain rfl : k = 12 := by omega
            go_wp2
            go_roundw
            case rel => exact ⟨r + 1, m, c', A', by omega, by omega, by go_num, rfl, ⟨by rw [HR.out]; exact ho.out.1, ho.out.2⟩, lit.out, hwr, hb.out⟩
            case measure => simp [intOf]; omega
      · obtain rfl : r = 2 := by omega
        clear h0 h1
        go_wp2
        go_ret
        exact ⟨_, _, _, rfl, ho.out.1.base (by omega), ((Below.refl w.heap.size w).alloc (Nat.le_refl _) _).trans (hb.out.mono (by omega))⟩

/-- the list behind k of the reference's rounds -/
noncomputable def specTo (z y : Int) (ps : List Pt) (k : Nat) : List Ct := if k ≤ 12 then cutsTo z y ps true k else cutsTo z y ps true 12 ++ cutsTo z y ps false (k - 12)
theorem specTo_lo_t {z y : Int} {ps : List Pt} {k : Nat} (h : k < 12) (hq : cutB z y ps true k = true) : specTo z y ps (k + 1) = specTo z y ps k ++ [⟨true, k⟩] := by
  rw [specTo, specTo, if_pos (by omega), if_pos (by omega), cutsTo_t hq]
theorem specTo_lo_f {z y : Int} {ps : List Pt} {k : Nat} (h : k < 12) (hq : cutB z y ps true k = false) : specTo z y ps (k + 1) = specTo z y ps k := by
  rw [specTo, specTo, if_pos (by omega), if_pos (by omega), cutsTo_f hq]
theorem specTo_hi {z y : Int} {ps : List Pt} (j : Nat) : specTo z y ps (12 + j) = cutsTo z y ps true 12 ++ cutsTo z y ps false j := by
  rw [specTo]
  split
  · obtain rfl : j = 0 := by omega
    simp [cutsTo]
  · rw [show 12 + j - 12 = j by omega]
theorem specTo_hi_t {z y : Int} {ps : List Pt} {k j : Nat} (h : k = 12 + j) (hq : cutB z y ps false j = true) : specTo z y ps (k + 1) = specTo z y ps k ++ [⟨false, j⟩] := by
  subst h
  rw [show 12 + j + 1 = 12 + (j + 1) by omega, specTo_hi, specTo_hi, cutsTo_t hq, List.append_assoc]
theorem specTo_hi_f {z y : Int} {ps : List Pt} {k j : Nat} (h : k = 12 + j) (hq : cutB z y ps false j = false) : specTo z y ps (k + 1) = specTo z y ps k := by
  subst h
  rw [show 12 + j + 1 = 12 + (j + 1) by omega, specTo_hi, specTo_hi, cutsTo_f hq]
set_option maxRecDepth 100000 in
set_option maxHeartbeats 1000000 in
theorem spec_CutsOf_no (z y : Int) (A : Option Addr) (n c : Nat) (ps : List Pt) (w : World) (h : RdP w w.heap.size A n ps) (hbk : layB z y ps = false) :
    Calls Try.prog 48 #[.agg #[.int .i64 z, .int .i64 y, .slice A n c]] w fun e w' => ∃ A' n' c', e = .returned (.slice A' n' c') ∧ OwnK w' w.heap.size A' n' c' (cutsB z y ps) ∧ Below w.heap.size w w' := by
  have hs := lt2
  have HE := Lib.hid (cutsB_no hbk)
  have hle := h.le
  have H := Lib.hid h
  clear h
  go_enter Try.func48, Try.ntmps48
  go_wp2_with (go_at_call 94; refine (spec_LayoutOk _ _ _ _ _ _ _ (H.out.below' (by (repeat' (first | (with_reducible exact Below.refl _ _) | (with_reducible refine Below.setCell ?_ ?_ _) | (with_reducible refine Below.alloc ?_ ?_ _) | (with_reducible refine Below.drew ?_) | (with_reducible refine Below.drewN ?_ _) | (with_reducible refine Below.trans ?_ (Below.mono (by with_reducible assumption) ?_)) | go_size | (dsimp only; omega)))) (by go_size))).mono ?_; rintro e w1 ⟨rfl, hb1⟩; have hx1 := bsize hb1; (try simp at hx1); obtain ⟨hc1, hf1, hz1⟩ := bcell hb1 (b := w.heap.size) (by go_size))
  go_ret
  have h0 := OwnG.empty (vals := Ct.vals) (m := 2) (T := 80) (w := (w.alloc (.cells #[.int .i64 z, .int .i64 y, .slice A n c] 29))) (B := w.heap.size + 1) (by simp)
  have h1 := h0.next hb1
  exact ⟨_, _, _, rfl, by rw [HE.out]; exact OwnG.base (by simpa using h1) (by omega), by (repeat' (first | (with_reducible exact Below.refl _ _) | (with_reducible refine Below.setCell ?_ ?_ _) | (with_reducible refine Below.alloc ?_ ?_ _) | (with_reducible refine Below.drew ?_) | (with_reducible refine Below.drewN ?_ _) | (with_reducible refine Below.trans ?_ (Below.mono (by with_reducible assumption) ?_)) | go_size | (dsimp only; omega)))⟩
set_option maxRecDepth 100000 in
set_option maxHeartbeats 4000000 in
theorem spec_CutsOf_yes (z y : Int) (A : Option Addr) (n c : Nat) (ps : List Pt) (w : World) (h : RdP w w.heap.size A n ps) (hbk : layB z y ps = true) :
    Calls Try.prog 48 #[.agg #[.int .i64 z, .int .i64 y, .slice A n c]] w fun e w' => ∃ A' n' c', e = .returned (.slice A' n' c') ∧ OwnK w' w.heap.size A' n' c' (cutsB z y ps) ∧ Below w.heap.size w w' := by
  have hs := lt2
  have hle := h.le
  have H := Lib.hid h
  clear h
  go_enter Try.func48, Try.ntmps48
  go_wp2_with (go_at_call 94; refine (spec_LayoutOk _ _ _ _ _ _ _ (H.out.below' (by (repeat' (first | (with_reducible exact Below.refl _ _) | (with_reducible refine Below.setCell ?_ ?_ _) | (with_reducible refine Below.alloc ?_ ?_ _) | (with_reducible refine Below.drew ?_) | (with_reducible refine Below.drewN ?_ _) | (with_reducible refine Below.trans ?_ (Below.mono (by with_reducible assumption) ?_)) | go_size | (dsimp only; omega)))) (by go_size))).mono ?_; rintro e w1 ⟨rfl, hb1⟩; have hx1 := bsize hb1; (try simp at hx1); obtain ⟨hc1, hf1, hz1⟩ := bcell hb1 (b := w.heap.size) (by go_size))
  have HW := Lib.hid (show Below w.heap.size w w1 by (repeat' (first | (with_reducible exact Below.refl _ _) | (with_reducible refine Below.setCell ?_ ?_ _) | (with_reducible refine Below.alloc ?_ ?_ _) | (with_reducible refine Below.drew ?_) | (with_reducible refine Below.drewN ?_ _) | (with_reducible refine Below.trans ?_ (Below.mono (by with_reducible assumption) ?_)) | go_size | (dsimp only; omega))))
  have l0 : w1.cell? ⟨w.heap.size, 0, none⟩ = some (.int .i64 z) := (hc1 0).trans (by rw [World.cell?_alloc_lt _ _ _ (by go_size), World.cell?_alloc_new]; rfl)
  have l1 : w1.cell? ⟨w.heap.size, 1, none⟩ = some (.int .i64 y) := (hc1 1).trans (by rw [World.cell?_alloc_lt _ _ _ (by go_size), World.cell?_alloc_new]; rfl)
  have l2 : w1.cell? ⟨w.heap.size, 2, none⟩ = some (.slice A n c) := (hc1 2).trans (by rw [World.cell?_alloc_lt _ _ _ (by go_size), World.cell?_alloc_new]; rfl)
  have h0 := OwnG.empty (vals := Ct.vals) (m := 2) (T := 80) (w := (w.alloc (.cells #[.int .i64 z, .int .i64 y, .slice A n c] 29))) (B := w.heap.size + 1) (by simp)
  have h1 := h0.next hb1
  have HO := Lib.hid (show OwnK w1 (w.heap.size + 1) (some ⟨w.heap.size + 1, 0, none⟩) 0 0 [] by simpa using h1)
  clear h0 h1 hb1 hc1 hf1 hbk
  go_loopw [3, 4] (fun v i wr => ∃ (k m c' : Nat) (A' : Option Addr), k ≤ 24 ∧ m ≤ k ∧ i = .int .i64 k ∧ v = .slice A' m c' ∧ Hid (OwnK wr (w.heap.size + 1) A' m c' (specTo z y ps k)) ∧ Hid (Below (w.heap.size + 1) w1 wr)) (fun _ i _ => 24 - (intOf i).toNat)
  case atStart => exact ⟨0, 0, 0, _, by omega, by omega, rfl, rfl, (by show OwnK _ _ _ _ _ (specTo z y ps 0); exact HO.out), Below.refl _ _⟩
  case round =>
    obtain ⟨k, m, c', A', hk, hm, rfl, rfl, ho, hb⟩ := hrel
    have p0 : wr.cell? ⟨w.heap.size, 0, none⟩ = some (.int .i64 z) := (hb.out.cell (p := ⟨w.heap.size, 0, none⟩) (by dsimp only; omega)).trans l0
    have p1 : wr.cell? ⟨w.heap.size, 1, none⟩ = some (.int .i64 y) := (hb.out.cell (p := ⟨w.heap.size, 1, none⟩) (by dsimp only; omega)).trans l1
    have p2 : wr.cell? ⟨w.heap.size, 2, none⟩ = some (.slice A n c) := (hb.out.cell (p := ⟨w.heap.size, 2, none⟩) (by dsimp only; omega)).trans l2
    have hy := hb.out.size
    have hzr : w.heap.size < wr.heap.size := by omega
    have HBW := Lib.hid (show Below w.heap.size w wr from HW.out.trans (hb.out.mono (by omega)))
    by_cases hlt : k < 24
    · by_cases hk12 : k < 12
      · have e1 : decide ((k : Int) < 12) = true := decide_eq_true (by omega)
        have e2 : (k : Int) % 12 = (k : Int) := by omega
        cases hq : cutB z y ps true (k : Int) with
        | true =>
          have HS := Lib.hid (specTo_lo_t hk12 hq)
          clear hk12
          go_wp2_with (first
            | (go_at_call 95; refine (spec_IsCut _ _ _ _ _ _ _ _ _ (H.out.below' (by have hW := HBW.out; (repeat' (first | (with_reducible exact Below.refl _ _) | (with_reducible refine Below.setCell ?_ ?_ _) | (with_reducible refine Below.alloc ?_ ?_ _) | (with_reducible refine Below.drew ?_) | (with_reducible refine Below.drewN ?_ _) | (with_reducible refine Below.trans ?_ (Below.mono (by with_reducible assumption) ?_)) | go_size | (dsimp only; omega)))) (by go_size))).mono ?_; rintro e w2 ⟨rfl, hb2⟩; have HB2 := Lib.hid (show Below wr.heap.size wr w2 from (((Below.refl wr.heap.size wr).alloc (Nat.le_refl _) _)).trans (hb2.mono (by go_size))); have hx2 := HB2.out.size; have hx3 := bsize hb2; (try simp at hx3); obtain ⟨bc, bf, bz⟩ := bcell hb2 (b := wr.heap.size) (by go_size); clear hb2)
            | (at_builtin; refine wpList_pushK _ ⟨true, (k : Int)⟩ rfl _ _ rfl rfl (w.heap.size + 1) _ _ _ _ rfl (ho.out.next HB2.out) rfl rfl (by omega) (by omega) ?_; intro g4 c4 w4 ho4 hg4 _; have HO4 := Lib.hid ho4; have HB4 := Lib.hid ((HB2.out.mono (show w.heap.size + 1 ≤ wr.heap.size by omega)).trans ((ho.out.next HB2.out).belowOwn hg4 (by omega))); clear ho4 hg4))
          go_roundw
          case rel => exact ⟨k + 1, m + 1, c4, _, by omega, by omega, by go_num, rfl, by rw [HS.out]; exact HO4.out, hb.out.trans HB4.out⟩
          case measure => simp [intOf]; omega
        | false =>
          have HS := Lib.hid (specTo_lo_f hk12 hq)
          clear hk12
          go_wp2_with (go_at_call 95; refine (spec_IsCut _ _ _ _ _ _ _ _ _ (H.out.below' (by have hW := HBW.out; (repeat' (first | (with_reducible exact Below.refl _ _) | (with_reducible refine Below.setCell ?_ ?_ _) | (with_reducible refine Below.alloc ?_ ?_ _) | (with_reducible refine Below.drew ?_) | (with_reducible refine Below.drewN ?_ _) | (with_reducible refine Below.trans ?_ (Below.mono (by with_reducible assumption) ?_)) | go_size | (dsimp only; omega)))) (by go_size))).mono ?_; rintro e w2 ⟨rfl, hb2⟩; have HB2 := Lib.hid (show Below wr.heap.size wr w2 from (((Below.refl wr.heap.size wr).alloc (Nat.le_refl _) _)).trans (hb2.mono (by go_size))); have hx2 := HB2.out.size; have hx3 := bsize hb2; (try simp at hx3); obtain ⟨bc, bf, bz⟩ := bcell hb2 (b := wr.heap.size) (by go_size); clear hb2)
          go_roundw
          case rel => exact ⟨k + 1, m, c', _, by omega, by omega, by go_num, rfl, by rw [HS.out]; exact ho.out.next HB2.out, hb.out.trans (HB2.out.mono (by omega))⟩
          case measure => simp [intOf]; omega
      · obtain ⟨j, hj⟩ : ∃ j : Nat, k = 12 + j := ⟨k - 12, by omega⟩
        have e1 : decide ((k : Int) < 12) = false := decide_eq_false (by omega)
        have e2 : (k : Int) % 12 = (j : Int) := by omega
        have HJ := Lib.hid hj
        have e3 : ¬ (k : Int) < 12 := by omega
        clear hj
        cases hq : cutB z y ps false (j : Int) with
        | true =>
          have HS := Lib.hid (specTo_hi_t HJ.out hq)
          clear hk12
          go_wp2_with (first
            | (go_at_call 95; refine (spec_IsCut _ _ _ _ _ _ _ _ _ (H.out.below' (by have hW := HBW.out; (repeat' (first | (with_reducible exact Below.refl _ _) | (with_reducible refine Below.setCell ?_ ?_ _) | (with_reducible refine Below.alloc ?_ ?_ _) | (with_reducible refine Below.drew ?_) | (with_reducible refine Below.drewN ?_ _) | (with_reducible refine Below.trans ?_ (Below.mono (by with_reducible assumption) ?_)) | go_size | (dsimp only; omega)))) (by go_size))).mono ?_; rintro e w2 ⟨rfl, hb2⟩; have HB2 := Lib.hid (show Below wr.heap.size wr w2 from (((Below.refl wr.heap.size wr).alloc (Nat.le_refl _) _)).trans (hb2.mono (by go_size))); have hx2 := HB2.out.size; have hx3 := bsize hb2; (try simp at hx3); obtain ⟨bc, bf, bz⟩ := bcell hb2 (b := wr.heap.size) (by go_size); clear hb2)
            | (at_builtin; refine wpList_pushK _ ⟨false, (j : Int)⟩ rfl _ _ rfl rfl (w.heap.size + 1) _ _ _ _ rfl (ho.out.next HB2.out) rfl rfl (by omega) (by omega) ?_; intro g4 c4 w4 ho4 hg4 _; have HO4 := Lib.hid ho4; have HB4 := Lib.hid ((HB2.out.mono (show w.heap.size + 1 ≤ wr.heap.size by omega)).trans ((ho.out.next HB2.out).belowOwn hg4 (by omega))); clear ho4 hg4))
          go_roundw
          case rel => exact ⟨k + 1, m + 1, c4, _, by omega, by omega, by go_num, rfl, by rw [HS.out]; exact HO4.out, hb.out.trans HB4.out⟩
          case measure => simp [intOf]; omega
        | false =>
          have HS := Lib.hid (specTo_hi_f HJ.out hq)
          clear hk12
          go_wp2_with (go_at_call 95; refine (spec_IsCut _ _ _ _ _ _ _ _ _ (H.out.below' (by have hW := HBW.out; (repeat' (first | (with_reducible exact Below.refl _ _) | (with_reducible refine Below.setCell ?_ ?_ _) | (with_reducible refine Below.alloc ?_ ?_ _) | (with_reducible refine Below.drew ?_) | (with_reducible refine Below.drewN ?_ _) | (with_reducible refine Below.trans ?_ (Below.mono (by with_reducible assumption) ?_)) | go_size | (dsimp only; omega)))) (by go_size))).mono ?_; rintro e w2 ⟨rfl, hb2⟩; have HB2 := Lib.hid (show Below wr.heap.size wr w2 from (((Below.refl wr.heap.size wr).alloc (Nat.le_refl _) _)).trans (hb2.mono (by go_size))); have hx2 := HB2.out.size; have hx3 := bsize hb2; (try simp at hx3); obtain ⟨bc, bf, bz⟩ := bcell hb2 (b := wr.heap.size) (by go_size); clear hb2)
          go_roundw
          case rel => exact ⟨k + 1, m, c', _, by omega, by omega, by go_num, rfl, by rw [HS.out]; exact ho.out.next HB2.out, hb.out.trans (HB2.out.mono (by omega))⟩
          case measure => simp [intOf]; omega
    · go_wp2
      go_ret
      obtain rfl : k = 24 := by omega
      have e : specTo z y ps 24 = cutsB z y ps := specTo_hi 12
      exact ⟨_, _, _, rfl, by rw [← e]; exact ho.out.base (by omega), HW.out.trans (hb.out.mono (by omega))⟩
theorem spec_CutsOf (z y : Int) (A : Option Addr) (n c : Nat) (ps : List Pt) (w : World) (h : RdP w w.heap.size A n ps) :
    Calls Try.prog 48 #[.agg #[.int .i64 z, .int .i64 y, .slice A n c]] w fun e w' => ∃ A' n' c', e = .returned (.slice A' n' c') ∧ OwnK w' w.heap.size A' n' c' (cutsB z y ps) ∧ Below w.heap.size w w' := by
  cases hbk : layB z y ps with
  | true => exact spec_CutsOf_yes z y A n c ps w h hbk
  | false => exact spec_CutsOf_no z y A n c ps w h hbk

end Go.Proofs.Ytlcllpgbpjdofaa
