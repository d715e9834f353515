/- Walks of FirstUse, both sides. No condition. -/
import Derived.Test.YtlcllpgbpjdofaaW5
import Derived.Test.YtlcllpgbpjdofaaB2
import Derived.Test.YtlcllpgbpjdofaaMd
set_option linter.unusedSimpArgs false
set_option linter.unusedVariables false
set_option maxRecDepth 100000
namespace Go.Proofs.Ytlcllpgbpjdofaa
open Go.RowKit

theorem ith_app_l {o : List Int} {b : Int} {j : Nat} (h : j < o.length) : ith (o ++ [b]) j = ith o j := by
  rw [ith_get h, ith_get (by simp; omega), List.getElem_append_left h]
theorem ith_app_r {o : List Int} {b : Int} : ith (o ++ [b]) o.length = b := by
  rw [ith_get (by simp)]; simp
theorem idxI_cases (o : List Int) (a : Int) : (idxI o a = -1 ∧ ∀ j, j < o.length → ith o j ≠ a) ∨ ∃ m, m < o.length ∧ (∀ j, j < m → ith o j ≠ a) ∧ ith o m = a ∧ idxI o a = m := by
  cases hf : (List.range o.length).find? (fun (m : Nat) => ith o m == a) with
  | none =>
    rw [List.find?_range_eq_none] at hf
    have h1 : ∀ j, j < o.length → ith o j ≠ a := fun j hj => by simpa using hf j hj
    exact .inl ⟨idxI_none h1, h1⟩
  | some m =>
    rw [List.find?_range_eq_some] at hf
    obtain ⟨h1, h2, h3⟩ := hf
    have h2' : m < o.length := by simpa using h2
    have h3' : ∀ j, j < m → ith o j ≠ a := fun j hj => by simpa using h3 j hj
    exact .inr ⟨m, h2', h3', by simpa using h1, idxI_hit h2' h3' (by simpa using h1)⟩
theorem idxI_mem {o : List Int} {a : Int} : 0 ≤ idxI o a ↔ a ∈ o := by
  rcases idxI_cases o a with ⟨h1, h2⟩ | ⟨m, h1, _, h3, h4⟩
  · constructor
    · intro h; omega
    · intro h
      obtain ⟨j, hj, e⟩ := List.getElem_of_mem h
      exact absurd (by rw [ith_get hj]; exact e) (h2 j hj)
  · constructor
    · intro _
      rw [← h3, ith_get h1]; exact List.getElem_mem h1
    · intro _; omega
theorem idxI_new {o : List Int} {a : Int} (h : idxI o a < 0) : idxI (o ++ [a]) a = o.length := by
  have h1 := idxI_neg.1 h
  refine idxI_hit (by simp) (fun j hj => ?_) ith_app_r
  rw [ith_app_l hj]; exact h1 j hj
theorem idxI_old {o : List Int} {a b : Int} (h : a ≠ b) : idxI (o ++ [b]) a = idxI o a := by
  rcases idxI_cases o a with ⟨h1, h2⟩ | ⟨m, h1, h2, h3, h4⟩
  · rw [h1]
    refine idxI_none (fun j hj => ?_)
    rcases Nat.lt_or_ge j o.length with hl | hl
    · rw [ith_app_l hl]; exact h2 j hl
    · obtain rfl : j = o.length := by simp at hj; omega
      rw [ith_app_r]; exact fun e => h e.symm
  · rw [h4]
    refine idxI_hit (by simp; omega) (fun j hj => ?_) ?_
    · rw [ith_app_l (by omega)]; exact h2 j hj
    · rw [ith_app_l h1]; exact h3
/-- a number is added where it is new -/
def pushN (o : List Int) (a : Int) : List Int := if idxI o a < 0 then o ++ [a] else o
def ordL (us : List Int) : List Int := us.foldl pushN []
def usesL (xs : List C) : List Int := xs.flatMap (fun c => [c.a, c.b])
/-- the places of the numbers 0 to 5 in a list -/
def posL (o : List Int) : List Int := (marks 0 6).map (fun a => idxI o a)
noncomputable def fuseL (z : Int) (xs : List C) : List Int := if bOk z xs then posL (ordL (usesL xs ++ marks 0 6)) else []
theorem ordL_snoc (us : List Int) (a : Int) : ordL (us ++ [a]) = pushN (ordL us) a := by rw [ordL, List.foldl_append]; rfl
theorem pushN_t {o : List Int} {a : Int} (h : idxI o a < 0) : pushN o a = o ++ [a] := if_pos h
theorem pushN_f {o : List Int} {a : Int} (h : ¬ idxI o a < 0) : pushN o a = o := if_neg h
theorem posL_len (o : List Int) : (posL o).length = 6 := by simp [posL, marks_len]
theorem ith_posL {o : List Int} {a : Nat} (h : a < 6) : ith (posL o) a = idxI o (a : Int) := by
  have e : (marks 0 6)[a]? = some (a : Int) := by
    have h2 := ith_marks (k0 := 0) h
    rw [ith_get (by rw [marks_len]; exact h)] at h2
    rw [List.getElem?_eq_getElem (by rw [marks_len]; exact h), h2, Int.zero_add]
  simp [ith, posL, List.getD, e]
theorem posL_push {o : List Int} {a : Nat} (h : a < 6) (hn : idxI o (a : Int) < 0) : (posL o).set a (o.length : Int) = posL (o ++ [(a : Int)]) := by
  refine ext_ith (by rw [List.length_set, posL_len, posL_len]) (fun j hj => ?_)
  rw [List.length_set, posL_len] at hj
  by_cases e : j = a
  · subst e
    rw [ith_set_self (by rw [posL_len]; exact hj), ith_posL hj, idxI_new hn]
  · rw [ith_set_other e, ith_posL hj, ith_posL hj, idxI_old (by omega)]
theorem pushN_nodup {o : List Int} (h : o.Nodup) (a : Int) : (pushN o a).Nodup := by
  unfold pushN
  split
  · rename_i hn
    rw [List.nodup_append]
    refine ⟨h, by simp, ?_⟩
    intro x hx y hy e
    simp at hy
    subst hy; subst e
    have := (idxI_mem (o := o)).2 hx
    omega
  · exact h
theorem pushN_mem {o : List Int} {a x : Int} : x ∈ pushN o a ↔ x ∈ o ∨ x = a := by
  unfold pushN
  split
  · simp
  · rename_i hn
    constructor
    · exact .inl
    · rintro (h | rfl)
      · exact h
      · exact idxI_mem.1 (by omega)
theorem foldN_nodup (us : List Int) : ∀ {o : List Int}, o.Nodup → (us.foldl pushN o).Nodup := by
  induction us with
  | nil => intro o h; exact h
  | cons a r ih => intro o h; exact ih (pushN_nodup h a)
theorem foldN_mem (us : List Int) : ∀ {o : List Int} {x : Int}, x ∈ us.foldl pushN o ↔ x ∈ o ∨ x ∈ us := by
  induction us with
  | nil => intro o x; simp
  | cons a r ih =>
    intro o x
    rw [List.foldl_cons, ih, pushN_mem, List.mem_cons, or_assoc]
theorem ordL_nodup (us : List Int) : (ordL us).Nodup := foldN_nodup us List.nodup_nil
theorem ordL_mem {us : List Int} {x : Int} : x ∈ ordL us ↔ x ∈ us := by rw [ordL, foldN_mem]; simp
theorem nodup_le : ∀ (n : Nat) (o : List Int), o.Nodup → (∀ x ∈ o, 0 ≤ x ∧ x < n) → o.length ≤ n := by
  intro n
  induction n with
  | zero =>
    intro o _ h
    cases o with
    | nil => simp
    | cons a r => have := h a (by simp); omega
  | succ n ih =>
    intro o hd h
    have h1 := ih (o.erase (n : Int)) (hd.erase _) (fun x hx => by
      have h2 := h x (List.mem_of_mem_erase hx)
      have h3 : x ≠ (n : Int) := fun e => by subst e; exact (List.Nodup.mem_erase_iff hd).1 hx |>.1 rfl
      omega)
    have h2 := List.length_erase (a := (n : Int)) (l := o)
    split at h2 <;> omega
theorem nodup_ge : ∀ (n : Nat) (o : List Int), (∀ k : Nat, k < n → (k : Int) ∈ o) → n ≤ o.length := by
  intro n
  induction n with
  | zero => intro o _; omega
  | succ n ih =>
    intro o h
    have hm := h n (by omega)
    have h1 := ih (o.erase (n : Int)) (fun k hk => by
      refine (List.mem_erase_of_ne (by omega)).2 (h k (by omega)))
    have h2 := List.length_erase_of_mem hm
    have := List.length_pos_of_mem hm
    omega
/-- the list that undoes an order holds its places -/
theorem undo_pos {o : List Int} (hd : o.Nodup) (h1 : ∀ x ∈ o, 0 ≤ x ∧ x ≤ 5) (h2 : ∀ k : Nat, k < 6 → (k : Int) ∈ o) : undoI o = posL o := by
  have hl : o.length = 6 := Nat.le_antisymm (nodup_le 6 o hd (fun x hx => by have := h1 x hx; omega)) (nodup_ge 6 o h2)
  have hex : exchI o = true := by
    rw [exchI, hl]
    simp only [Bool.and_eq_true]
    refine ⟨by simpa [nodupB] using hd, by rfl, ?_⟩
    unfold allIn
    rw [List.all_eq_true]
    intro x hx
    have := h1 x hx
    simp [inB]; omega
  rw [undoI, if_pos hex]
  have hne : ∀ i j, i < 6 → j < 6 → ith o i = ith o j → i = j := by
    intro i j hi hj e
    rw [ith_get (by omega), ith_get (by omega)] at e
    rcases Nat.lt_trichotomy i j with h | h | h
    · exact absurd e ((List.pairwise_iff_getElem.1 hd) i j (by omega) (by omega) h)
    · exact h
    · exact absurd e.symm ((List.pairwise_iff_getElem.1 hd) j i (by omega) (by omega) h)
  have hr : ∀ j, j < 6 → 0 ≤ ith o j ∧ ith o j ≤ 5 := fun j hj => h1 _ (by rw [ith_get (by omega)]; exact List.getElem_mem _)
  have hu : ∀ k, k ≤ 6 → ∀ j, j < k → ith (undoTo o k) (ith o j).toNat = (j : Int) := by
    intro k
    induction k with
    | zero => intro _ j hj; omega
    | succ k ih =>
      intro hk j hj
      rw [undoTo_succ]
      have r1 := hr j (by omega)
      have r2 := hr k (by omega)
      by_cases e : j = k
      · subst e
        rw [ith_set_self (by rw [undoTo_len]; omega)]
      · rw [ith_set_other (by
          intro e2
          exact e (hne j k (by omega) (by omega) (by omega)))]
        exact ih (by omega) j (by omega)
  refine ext_ith (by rw [undoTo_len, posL_len]) (fun a ha => ?_)
  rw [undoTo_len] at ha
  rw [ith_posL ha]
  obtain ⟨j, hj, e⟩ := List.getElem_of_mem (h2 a ha)
  have e' : ith o j = (a : Int) := by rw [ith_get hj]; exact e
  have h3 := hu 6 (by omega) j (by omega)
  rw [e', Int.toNat_natCast] at h3
  rw [h3]
  refine (idxI_hit hj (fun i hi e2 => ?_) e').symm
  have := hne i j (by omega) (by omega) (by rw [e2, e'])
  omega
theorem fuse_undo {z : Int} {xs : List C} (h : bOk z xs = true) : undoI (ordL (usesL xs ++ marks 0 6)) = fuseL z xs := by
  rw [fuseL, if_pos h]
  have hm : ∀ x, x ∈ marks 0 6 ↔ 0 ≤ x ∧ x ≤ 5 := by
    intro x
    simp only [marks, List.mem_map, List.mem_range]
    constructor
    · rintro ⟨a, ha, rfl⟩; omega
    · intro hx; exact ⟨x.toNat, by omega, by omega⟩
  refine undo_pos (ordL_nodup _) (fun x hx => ?_) (fun k hk => ?_)
  · rw [ordL_mem, List.mem_append] at hx
    rcases hx with hx | hx
    · rw [usesL, List.mem_flatMap] at hx
      obtain ⟨c, hc, hx⟩ := hx
      obtain ⟨j, hj, e⟩ := List.getElem_of_mem hc
      have h4 := cOk_t (allOkC_at (bOk_size h).2.2.2 hj)
      rw [cith_get hj, e] at h4
      simp at hx
      rcases hx with rfl | rfl
      · exact ⟨h4.2.2.1, h4.2.2.2.1⟩
      · exact ⟨h4.2.2.2.2.1, h4.2.2.2.2.2.1⟩
    · exact (hm x).1 hx
  · rw [ordL_mem, List.mem_append]
    exact .inr ((hm _).2 (by omega))
theorem uses_take {xs : List C} {k : Nat} (h : k < xs.length) : usesL (xs.take (k + 1)) = usesL (xs.take k) ++ [(cith xs k).a] ++ [(cith xs k).b] := by
  rw [usesL, List.take_succ_eq_append_getElem h, List.flatMap_append, cith_get h]; simp [usesL]
theorem ord_take {xs : List C} {k : Nat} (h : k < xs.length) : ordL (usesL (xs.take (k + 1))) = pushN (pushN (ordL (usesL (xs.take k))) (cith xs k).a) (cith xs k).b := by
  rw [uses_take h, ordL_snoc, ordL_snoc]
theorem marks_snoc (k : Nat) : marks 0 (k + 1) = marks 0 k ++ [(k : Int)] := by simp [marks, List.range_succ]
theorem ord_marks {us : List Int} (k : Nat) : ordL (us ++ marks 0 (k + 1)) = pushN (ordL (us ++ marks 0 k)) (k : Int) := by
  rw [marks_snoc, ← List.append_assoc, ordL_snoc]
theorem uses_len (xs : List C) : (usesL xs).length = 2 * xs.length := by
  induction xs with
  | nil => rfl
  | cons c r ih => rw [usesL, List.flatMap_cons, List.length_append]; rw [usesL] at ih; rw [ih]; simp; omega
theorem uses_all (xs : List C) : (usesL xs).take (2 * xs.length) = usesL xs := List.take_of_length_le (by rw [uses_len]; omega)
theorem uses_get : ∀ (xs : List C) (q : Nat), q < xs.length → (usesL xs)[2 * q]? = some (cith xs q).a ∧ (usesL xs)[2 * q + 1]? = some (cith xs q).b := by
  intro xs
  induction xs with
  | nil => intro q h; simp at h
  | cons c r ih =>
    intro q h
    cases q with
    | zero => simp [usesL, cith]
    | succ q =>
      have h2 := ih q (by simpa using h)
      rw [cith_cons, ← h2.1, ← h2.2]
      simp [usesL, show 2 * (q + 1) = 2 * q + 1 + 1 from by omega]
theorem take_get {us : List Int} {k : Nat} {a : Int} (h : us[k]? = some a) : us.take (k + 1) = us.take k ++ [a] := by
  obtain ⟨hk, e⟩ := List.getElem?_eq_some_iff.1 h
  rw [List.take_succ_eq_append_getElem hk, e]
theorem uses_at0 {xs : List C} {q : Nat} (h : q < xs.length) : (usesL xs).take (2 * q + 0 + 1) = (usesL xs).take (2 * q + 0) ++ [(cith xs q).a] := take_get (uses_get xs q h).1
theorem uses_at1 {xs : List C} {q : Nat} (h : q < xs.length) : (usesL xs).take (2 * q + 1 + 1) = (usesL xs).take (2 * q + 1) ++ [(cith xs q).b] := take_get (uses_get xs q h).2


set_option maxRecDepth 100000 in
set_option maxHeartbeats 2000000 in
theorem impl_FirstUse_yes (z : Int) (A : Option Addr) (n c : Nat) (xs : List C) (w : World) (h : RdC w w.heap.size A n xs) (hbk : bOk z xs = true) :
    Calls Try.prog 43 #[.agg #[.int .i64 z, .slice A n c]] w fun e w' => ∃ A n c, e = .returned (.slice A n c) ∧ OwnI w' w.heap.size A n c (fuseL z xs) ∧ Below w.heap.size w w' := by
  have hs := lt2
  have hle := bOk_len hbk h.1
  have HL := Lib.hid h.1
  have HBK := Lib.hid hbk
  have H := Lib.hid h
  clear h
  go_enter Try.func43, Try.ntmps43
  go_wp2_with (go_at_call 72; refine (impl_BlockOk _ _ _ _ _ _ (H.out.below' (by (repeat' (first | (with_reducible exact Below.refl _ _) | (with_reducible refine Below.setCell ?_ ?_ _) | (with_reducible refine Below.alloc ?_ ?_ _) | (with_reducible refine Below.drew ?_) | (with_reducible refine Below.drewN ?_ _) | (with_reducible refine Below.trans ?_ (Below.mono (by with_reducible assumption) ?_)) | go_size | (dsimp only; omega)))) (by go_size))).mono ?_; rintro e w1 ⟨rfl, hb1⟩; obtain ⟨hc1, hf1, hz1⟩ := bcell hb1 (b := w.heap.size) (by go_size))
  have HW := Lib.hid (show Below w.heap.size w w1 by (repeat' (first | (with_reducible exact Below.refl _ _) | (with_reducible refine Below.setCell ?_ ?_ _) | (with_reducible refine Below.alloc ?_ ?_ _) | (with_reducible refine Below.drew ?_) | (with_reducible refine Below.drewN ?_ _) | (with_reducible refine Below.trans ?_ (Below.mono (by with_reducible assumption) ?_)) | go_size | (dsimp only; omega))))
  have H1 := Lib.hid (H.out.next HW.out)
  clear hb1 hbk
  go_loopw [3, 16] (fun v i wr => ∃ (k m g c' : Nat), k ≤ n ∧ m ≤ 2 * k ∧ i = .int .i64 k ∧ v = .slice (some ⟨g, 0, none⟩) m c' ∧ Hid (OwnI wr w1.heap.size (some ⟨g, 0, none⟩) m c' (ordL (usesL (xs.take k)))) ∧ Hid (Below w1.heap.size w1 wr)) (fun _ i _ => n - (intOf i).toNat)
  case atStart => exact ⟨0, 0, _, _, by omega, by omega, rfl, rfl, OwnI.empty (Nat.le_refl _), (Below.refl _ _).alloc (Nat.le_refl _) _⟩
  case round =>
    obtain ⟨k, m, g, c', hk, hm, rfl, rfl, ho, hb⟩ := hrel
    obtain ⟨wo, rfl⟩ : ∃ wo : World, wo = wr := ⟨_, rfl⟩
    have hyo : w1.heap.size ≤ wo.heap.size := hb.out.size
    by_cases hlt : k < n
    · have HT := Lib.hid (ord_take (xs := xs) (k := k) (by rw [HL.out]; exact hlt))
      obtain ⟨g1, off, rfl, d0, d1, d2⟩ := (H1.out.below hb.out).at_ hlt
      have hgo := (ho.out.lt g rfl).2
      go_wp2
      go_loopw [3, 26] (fun v i wr => ∃ (j : Int) (o : List Int) (m2 g2 c2 : Nat), (j = 0 ∧ m2 ≤ 2 * k ∧ o = (ordL (usesL (xs.take k))) ∨ j = 1 ∧ m2 ≤ 2 * k + 1 ∧ o = pushN (ordL (usesL (xs.take k))) (cith xs k).a ∨ j = 2 ∧ m2 ≤ 2 * k + 2 ∧ o = pushN (pushN (ordL (usesL (xs.take k))) (cith xs k).a) (cith xs k).b) ∧ i = .int .i64 j ∧ v = .slice (some ⟨g2, 0, none⟩) m2 c2 ∧ Hid (OwnI wr w1.heap.size (some ⟨g2, 0, none⟩) m2 c2 o) ∧ Hid (g2 ≠ wo.heap.size + 1 ∧ wo.heap.size + 1 < wr.heap.size ∧ wr.cell? ⟨wo.heap.size + 1, 0, none⟩ = some (.int .i64 (cith xs k).a) ∧ wr.cell? ⟨wo.heap.size + 1, 1, none⟩ = some (.int .i64 (cith xs k).b)) ∧ Hid (Below w1.heap.size w1 wr)) (fun _ i _ => 2 - (intOf i).toNat)
      case atStart =>
        refine ⟨0, _, m, g, c', .inl ⟨rfl, hm, rfl⟩, rfl, rfl, ?_, ⟨by omega, by simp, by simp [go_sem], by simp [go_sem]⟩, ?_⟩
        · exact ho.out.next (by (repeat' (first | (with_reducible exact Below.refl _ _) | (with_reducible refine Below.setCell ?_ ?_ _) | (with_reducible refine Below.alloc ?_ ?_ _) | (with_reducible refine Below.drew ?_) | (with_reducible refine Below.drewN ?_ _) | (with_reducible refine Below.trans ?_ (Below.mono (by with_reducible assumption) ?_)) | go_size | (dsimp only; omega))))
        · exact (hb.out.alloc hyo _).alloc (by simp; omega) _
      case round =>
        clear hm hgo ho hb
        obtain ⟨j, o, m2, g2, c2, hj, rfl, rfl, ho, hx, hb⟩ := hrel
        obtain ⟨x1, x2, x3, x4⟩ := hx.out
        clear hx
        rcases hj with ⟨rfl, hm2, rfl⟩ | ⟨rfl, hm2, rfl⟩ | ⟨rfl, hm2, rfl⟩
        · by_cases hq : idxI (ordL (usesL (xs.take k))) (cith xs k).a < 0
          · have HE := Lib.hid (pushN_t hq)
            go_wp2_with (first
              | (go_at_call 91; refine (impl_indexOf _ _ _ _ _ _ ho.out.rd).mono ?_; rintro e w' ⟨rfl, rfl⟩)
              | (at_builtin; refine wpList_pushI _ _ rfl _ _ rfl w1.heap.size _ _ _ _ rfl ho.out rfl (by omega) (by have := hb.out.size; omega) ?_; intro g4 c4 w4 ho4 hg4 hn4; have HO4 := Lib.hid ho4; have HB4 := Lib.hid (ho.out.belowOwn hg4 (by have := hb.out.size; omega)); obtain ⟨kc, _, kz⟩ := bcellG' hg4 (b := wo.heap.size + 1) x2 (fun e2 => x1 (by simpa [Value.ownBlock] using e2)); have k0 := (kc 0).trans x3; have k1 := (kc 1).trans x4; have hne4 : g4 ≠ wo.heap.size + 1 := (fun e => hn4.elim (fun h4 => x1 (by rw [e] at h4; simpa [Value.ownBlock] using h4)) (fun h4 => by omega)); clear ho4 hg4 hn4 kc))
            go_roundw
            case rel => exact ⟨1, _, m2 + 1, g4, c4, .inr (.inl ⟨rfl, by omega, rfl⟩), by first | rfl | go_num, rfl, by rw [HE.out]; exact HO4.out, ⟨hne4, kz, k0, k1⟩, hb.out.trans HB4.out⟩
            case measure => simp [intOf]
          · have HE := Lib.hid (pushN_f hq)
            go_wp2_with (go_at_call 91; refine (impl_indexOf _ _ _ _ _ _ ho.out.rd).mono ?_; rintro e w' ⟨rfl, rfl⟩)
            go_roundw
            case rel => exact ⟨1, _, m2, g2, c2, .inr (.inl ⟨rfl, by omega, rfl⟩), by first | rfl | go_num, rfl, by rw [HE.out]; exact ho.out, ⟨x1, x2, x3, x4⟩, hb.out⟩
            case measure => simp [intOf]
        · by_cases hq : idxI (pushN (ordL (usesL (xs.take k))) (cith xs k).a) (cith xs k).b < 0
          · have HE := Lib.hid (pushN_t hq)
            go_wp2_with (first
              | (go_at_call 91; refine (impl_indexOf _ _ _ _ _ _ ho.out.rd).mono ?_; rintro e w' ⟨rfl, rfl⟩)
              | (at_builtin; refine wpList_pushI _ _ rfl _ _ rfl w1.heap.size _ _ _ _ rfl ho.out rfl (by omega) (by have := hb.out.size; omega) ?_; intro g4 c4 w4 ho4 hg4 hn4; have HO4 := Lib.hid ho4; have HB4 := Lib.hid (ho.out.belowOwn hg4 (by have := hb.out.size; omega)); obtain ⟨kc, _, kz⟩ := bcellG' hg4 (b := wo.heap.size + 1) x2 (fun e2 => x1 (by simpa [Value.ownBlock] using e2)); have k0 := (kc 0).trans x3; have k1 := (kc 1).trans x4; have hne4 : g4 ≠ wo.heap.size + 1 := (fun e => hn4.elim (fun h4 => x1 (by rw [e] at h4; simpa [Value.ownBlock] using h4)) (fun h4 => by omega)); clear ho4 hg4 hn4 kc))
            go_roundw
            case rel => exact ⟨2, _, m2 + 1, g4, c4, .inr (.inr ⟨rfl, by omega, rfl⟩), by first | rfl | go_num, rfl, by rw [HE.out]; exact HO4.out, ⟨hne4, kz, k0, k1⟩, hb.out.trans HB4.out⟩
            case measure => simp [intOf]
          · have HE := Lib.hid (pushN_f hq)
            go_wp2_with (go_at_call 91; refine (impl_indexOf _ _ _ _ _ _ ho.out.rd).mono ?_; rintro e w' ⟨rfl, rfl⟩)
            go_roundw
            case rel => exact ⟨2, _, m2, g2, c2, .inr (.inr ⟨rfl, by omega, rfl⟩), by first | rfl | go_num, rfl, by rw [HE.out]; exact ho.out, ⟨x1, x2, x3, x4⟩, hb.out⟩
            case measure => simp [intOf]
        · go_wp2
          go_roundw
          case rel => exact ⟨k + 1, m2, g2, c2, by omega, by omega, by go_num, rfl, by rw [HT.out]; exact ho.out, hb.out⟩
          case measure => simp [intOf]; omega
    · have hkn : k = n := by omega
      have HM := Lib.hid (show m ≤ 32 by omega)
      have HO := Lib.hid (show OwnI wo w1.heap.size (some ⟨g, 0, none⟩) m c' (ordL (usesL xs ++ marks 0 0)) by
        have h := ho.out
        rw [hkn, ← HL.out, List.take_length] at h
        simpa [marks] using h)
      clear hkn
      go_wp2
      go_loopw [3, 40] (fun v i wr => ∃ (k m g c' : Nat), k ≤ 6 ∧ m ≤ 32 + k ∧ i = .int .i64 k ∧ v = .slice (some ⟨g, 0, none⟩) m c' ∧ Hid (OwnI wr w1.heap.size (some ⟨g, 0, none⟩) m c' (ordL (usesL xs ++ marks 0 k))) ∧ Hid (Below w1.heap.size w1 wr)) (fun _ i _ => 6 - (intOf i).toNat)
      case atStart => exact ⟨0, m, g, c', by omega, by have := HM.out; omega, rfl, rfl, HO, hb⟩
      case round =>
        clear hm ho hb HM HO hlt hk
        obtain ⟨k, m, g, c', hk, hm, rfl, rfl, ho, hb⟩ := hrel
        by_cases hlt : k < 6
        · have HT := Lib.hid (ord_marks (us := usesL xs) k)
          by_cases hq : idxI (ordL (usesL xs ++ marks 0 k)) (k : Int) < 0
          · have HE := Lib.hid (pushN_t hq)
            go_wp2_with (first
              | (go_at_call 91; refine (impl_indexOf _ _ _ _ _ _ ho.out.rd).mono ?_; rintro e w' ⟨rfl, rfl⟩)
              | (at_builtin; refine wpList_pushI _ _ rfl _ _ rfl w1.heap.size _ _ _ _ rfl ho.out rfl (by omega) (by have := hb.out.size; omega) ?_; intro g4 c4 w4 ho4 hg4 _; have HO4 := Lib.hid ho4; have HB4 := Lib.hid (ho.out.belowOwn hg4 (by have := hb.out.size; omega)); clear ho4 hg4))
            go_roundw
            case rel => exact ⟨k + 1, m + 1, g4, c4, by omega, by omega, by go_num, rfl, by rw [HT.out, HE.out]; exact HO4.out, hb.out.trans HB4.out⟩
            case measure => simp [intOf]; omega
          · have HE := Lib.hid (pushN_f hq)
            go_wp2_with (go_at_call 91; refine (impl_indexOf _ _ _ _ _ _ ho.out.rd).mono ?_; rintro e w' ⟨rfl, rfl⟩)
            go_roundw
            case rel => exact ⟨k + 1, m, g, c', by omega, by omega, by go_num, rfl, by rw [HT.out, HE.out]; exact ho.out, hb.out⟩
            case measure => simp [intOf]; omega
        · go_wp2_with (go_at_call 92; refine (impl_UndoList _ _ _ _ _ ho.out.rd).mono ?_; rintro e w5 ⟨A5, n5, c5, rfl, ho5, hb5⟩)
          go_ret
          obtain rfl : k = 6 := by omega
          rw [fuse_undo HBK.out] at ho5
          have h1 := hb.out.size
          have h2 := HW.out.size
          exact ⟨_, _, _, rfl, ho5.base (by omega), HW.out.trans ((hb.out.mono h2).trans (hb5.mono (by omega)))⟩
set_option maxRecDepth 100000 in
set_option maxHeartbeats 2000000 in
theorem impl_FirstUse_no (z : Int) (A : Option Addr) (n c : Nat) (xs : List C) (w : World) (h : RdC w w.heap.size A n xs) (hbk : bOk z xs = false) :
    Calls Try.prog 43 #[.agg #[.int .i64 z, .slice A n c]] w fun e w' => ∃ A n c, e = .returned (.slice A n c) ∧ OwnI w' w.heap.size A n c (fuseL z xs) ∧ Below w.heap.size w w' := by
  have hs := lt2
  have H := Lib.hid h
  clear h
  have HE := Lib.hid (show fuseL z xs = [] by rw [fuseL, hbk]; rfl)
  go_enter Try.func43, Try.ntmps43
  go_wp2_with (go_at_call 72; refine (impl_BlockOk _ _ _ _ _ _ (H.out.below' (by (repeat' (first | (with_reducible exact Below.refl _ _) | (with_reducible refine Below.setCell ?_ ?_ _) | (with_reducible refine Below.alloc ?_ ?_ _) | (with_reducible refine Below.drew ?_) | (with_reducible refine Below.drewN ?_ _) | (with_reducible refine Below.trans ?_ (Below.mono (by with_reducible assumption) ?_)) | go_size | (dsimp only; omega)))) (by go_size))).mono ?_; rintro e w1 ⟨rfl, hb1⟩; obtain ⟨hc1, hf1, hz1⟩ := bcell hb1 (b := w.heap.size) (by go_size))
  go_ret
  exact ⟨_, _, _, rfl, HE.out ▸ OwnI.nil_, by (repeat' (first | (with_reducible exact Below.refl _ _) | (with_reducible refine Below.setCell ?_ ?_ _) | (with_reducible refine Below.alloc ?_ ?_ _) | (with_reducible refine Below.drew ?_) | (with_reducible refine Below.drewN ?_ _) | (with_reducible refine Below.trans ?_ (Below.mono (by with_reducible assumption) ?_)) | go_size | (dsimp only; omega)))⟩
set_option maxRecDepth 100000 in
set_option maxHeartbeats 2000000 in
theorem impl_FirstUse (z : Int) (A : Option Addr) (n c : Nat) (xs : List C) (w : World) (h : RdC w w.heap.size A n xs) :
    Calls Try.prog 43 #[.agg #[.int .i64 z, .slice A n c]] w fun e w' => ∃ A n c, e = .returned (.slice A n c) ∧ OwnI w' w.heap.size A n c (fuseL z xs) ∧ Below w.heap.size w w' := by
  cases hp : bOk z xs with
  | true => exact impl_FirstUse_yes z A n c xs w h hp
  | false => exact impl_FirstUse_no z A n c xs w h hp

set_option maxRecDepth 100000 in
set_option maxHeartbeats 2000000 in
theorem spec_FirstUse_yes (z : Int) (A : Option Addr) (n c : Nat) (xs : List C) (w : World) (h : RdC w w.heap.size A n xs) (hbk : bOk z xs = true) :
    Calls Try.prog 42 #[.agg #[.int .i64 z, .slice A n c]] w fun e w' => ∃ A n c, e = .returned (.slice A n c) ∧ OwnI w' w.heap.size A n c (fuseL z xs) ∧ Below w.heap.size w w' := by
  have hs := lt2
  have hle := bOk_len hbk h.1
  have HL := Lib.hid h.1
  have HBK := Lib.hid hbk
  have H := Lib.hid h
  clear h
  go_enter Try.func42, Try.ntmps42
  go_wp2_with (go_at_call 73; refine (spec_BlockOk _ _ _ _ _ _ (H.out.below' (by (repeat' (first | (with_reducible exact Below.refl _ _) | (with_reducible refine Below.setCell ?_ ?_ _) | (with_reducible refine Below.alloc ?_ ?_ _) | (with_reducible refine Below.drew ?_) | (with_reducible refine Below.drewN ?_ _) | (with_reducible refine Below.trans ?_ (Below.mono (by with_reducible assumption) ?_)) | go_size | (dsimp only; omega)))) (by go_size))).mono ?_; rintro e w1 ⟨rfl, hb1⟩; obtain ⟨hc1, hf1, hz1⟩ := bcell hb1 (b := w.heap.size) (by go_size))
  have HW := Lib.hid (show Below w.heap.size w w1 by (repeat' (first | (with_reducible exact Below.refl _ _) | (with_reducible refine Below.setCell ?_ ?_ _) | (with_reducible refine Below.alloc ?_ ?_ _) | (with_reducible refine Below.drew ?_) | (with_reducible refine Below.drewN ?_ _) | (with_reducible refine Below.trans ?_ (Below.mono (by with_reducible assumption) ?_)) | go_size | (dsimp only; omega))))
  have H1 := Lib.hid (H.out.next HW.out)
  clear hb1 hbk
  go_loopw [3, 4] (fun v i wr => ∃ (k g c' : Nat), k ≤ 6 ∧ i = .int .i64 k ∧ v = .slice (some ⟨g, 0, none⟩) k c' ∧ Hid (OwnI wr w1.heap.size (some ⟨g, 0, none⟩) k c' (List.replicate k (-1))) ∧ Hid (Below w1.heap.size w1 wr)) (fun _ i _ => 6 - (intOf i).toNat)
  case atStart => exact ⟨0, _, _, by omega, rfl, rfl, OwnI.empty (Nat.le_refl _), (Below.refl _ _).alloc (Nat.le_refl _) _⟩
  case round =>
    obtain ⟨k, g, c', hk, rfl, rfl, ho, hb⟩ := hrel
    by_cases hlt : k < 6
    · go_wp2_with (at_builtin; refine wpList_pushI _ _ rfl _ _ rfl w1.heap.size _ _ _ _ rfl ho.out rfl (by omega) (by have := hb.out.size; omega) ?_; intro g4 c4 w4 ho4 hg4 _; have HO4 := Lib.hid ho4; have HB4 := Lib.hid (ho.out.belowOwn hg4 (by have := hb.out.size; omega)); clear ho4 hg4)
      go_roundw
      case rel => exact ⟨k + 1, g4, c4, by omega, by go_num, rfl, by rw [List.replicate_succ']; exact HO4.out, hb.out.trans HB4.out⟩
      case measure => simp [intOf]; omega
    · obtain rfl : k = 6 := by omega
      have HO := Lib.hid (show OwnI wr w1.heap.size (some ⟨g, 0, none⟩) 6 c' (posL (ordL ((usesL xs).take 0))) from ho.out)
      clear ho hlt hk
      obtain ⟨wo, rfl⟩ : ∃ wo : World, wo = wr := ⟨_, rfl⟩
      go_wp2
      go_loopw [5, 6] (fun u i wr => ∃ (k m : Nat), k ≤ 2 * n ∧ m ≤ k ∧ i = .int .i64 k ∧ u = .int .i64 m ∧ Hid (m = (ordL ((usesL xs).take k)).length) ∧ Hid (OwnI wr w1.heap.size (some ⟨g, 0, none⟩) 6 c' (posL (ordL ((usesL xs).take k)))) ∧ Hid (Below w1.heap.size w1 wr)) (fun _ i _ => 2 * n - (intOf i).toNat)
      case atStart => exact ⟨0, 0, by omega, by omega, rfl, rfl, rfl, HO, hb⟩
      case round =>
        clear hb HO
        obtain ⟨k, m, hk, hmk, rfl, rfl, hm, ho, hb⟩ := hrel
        obtain ⟨bc, bf, bz⟩ := bcell hb.out (b := w.heap.size) hz1
        have p1 : wr.cell? ⟨w.heap.size, 1, none⟩ = some (.slice A n c) := ((bc 1).trans (hc1 1)).trans (by rw [World.cell?_alloc_new]; rfl)
        clear bc bf
        obtain ⟨wo, rfl⟩ : ∃ wo : World, wo = wr := ⟨_, rfl⟩
        by_cases hlt : k < 2 * n
        · obtain ⟨q, r, hkq, hr⟩ : ∃ q r, k = 2 * q + r ∧ r < 2 := ⟨k / 2, k % 2, by omega, by omega⟩
          have hqn : q < n := by omega
          obtain ⟨g1, off, rfl, d0, d1, d2⟩ := (H1.out.below hb.out).at_ hqn
          obtain ⟨t1, t2, t3, t4, t5, t6, t7⟩ := cOk_t (allOkC_at (bOk_size HBK.out).2.2.2 (k := q) (by rw [HL.out]; exact hqn))
          have hr2 : r = 0 ∨ r = 1 := by omega
          obtain rfl | rfl := hr2
          · have HU := Lib.hid (show (usesL xs).take (k + 1) = (usesL xs).take k ++ [(cith xs q).a] by rw [hkq]; exact uses_at0 (by rw [HL.out]; exact hqn))
            obtain ⟨a, ha⟩ := Int.eq_ofNat_of_zero_le t3
            have ha6 : a < 6 := by omega
            rw [ha] at d1 HU
            have i1 : ((k : Int)).tdiv 2 = (q : Int) := by rw [Int.tdiv_eq_ediv_of_nonneg (by omega)]; omega
            have i2 : ((k : Int)).tmod 2 = 0 := by rw [Int.tmod_eq_emod_of_nonneg (by omega)]; omega
            have i3 : ((k : Int)) / 2 = (q : Int) := by omega
            have i4 : ((k : Int)) % 2 = 0 := by omega
            have hc2 := ho.out.cellAt (k := a) ha6
            rw [ith_posL ha6] at hc2
            have hf2 := ho.out.frozenAt (by omega) a
            have HT := Lib.hid (show ordL ((usesL xs).take (k + 1)) = pushN (ordL ((usesL xs).take k)) (a : Int) by rw [HU.out, ordL_snoc])
            clear hkq hr HU t1 t2 t3 t4 t5 t6 t7
            by_cases hq : idxI (ordL ((usesL xs).take k)) (a : Int) < 0
            · have HE := Lib.hid (pushN_t hq)
              have HP := Lib.hid (posL_push ha6 hq)
              go_wp2
              go_roundw
              case rel =>
                refine ⟨k + 1, m + 1, by omega, by omega, by go_num, by go_num, ?_, ?_, ?_⟩
                · show m + 1 = _
                  rw [HT.out, HE.out, hm.out]; simp
                · show OwnI _ _ _ _ _ _
                  rw [HT.out, HE.out, ← HP.out, ← hm.out]
                  exact (ho.out.store _).1
                · exact hb.out.setCell (ho.out.lt g rfl).1 _
              case measure => simp [intOf]; omega
            · have HE := Lib.hid (pushN_f hq)
              go_wp2
              go_roundw
              case rel => exact ⟨k + 1, m, by omega, by omega, by go_num, rfl, by show m = _; rw [HT.out, HE.out]; exact hm.out, by show OwnI _ _ _ _ _ _; rw [HT.out, HE.out]; exact ho.out, hb.out⟩
              case measure => simp [intOf]; omega
          · have HU := Lib.hid (show (usesL xs).take (k + 1) = (usesL xs).take k ++ [(cith xs q).b] by rw [hkq]; exact uses_at1 (by rw [HL.out]; exact hqn))
            obtain ⟨a, ha⟩ := Int.eq_ofNat_of_zero_le t5
            have ha6 : a < 6 := by omega
            rw [ha] at d2 HU
            have i1 : ((k : Int)).tdiv 2 = (q : Int) := by rw [Int.tdiv_eq_ediv_of_nonneg (by omega)]; omega
            have i2 : ((k : Int)).tmod 2 = 1 := by rw [Int.tmod_eq_emod_of_nonneg (by omega)]; omega
            have i3 : ((k : Int)) / 2 = (q : Int) := by omega
            have i4 : ((k : Int)) % 2 = 1 := by omega
            have hc2 := ho.out.cellAt (k := a) ha6
            rw [ith_posL ha6] at hc2
            have hf2 := ho.out.frozenAt (by omega) a
            have HT := Lib.hid (show ordL ((usesL xs).take (k + 1)) = pushN (ordL ((usesL xs).take k)) (a : Int) by rw [HU.out, ordL_snoc])
            clear hkq hr HU t1 t2 t3 t4 t5 t6 t7
            by_cases hq : idxI (ordL ((usesL xs).take k)) (a : Int) < 0
            · have HE := Lib.hid (pushN_t hq)
              have HP := Lib.hid (posL_push ha6 hq)
              go_wp2
              go_roundw
              case rel =>
                refine ⟨k + 1, m + 1, by omega, by omega, by go_num, by go_num, ?_, ?_, ?_⟩
                · show m + 1 = _
                  rw [HT.out, HE.out, hm.out]; simp
                · show OwnI _ _ _ _ _ _
                  rw [HT.out, HE.out, ← HP.out, ← hm.out]
                  exact (ho.out.store _).1
                · exact hb.out.setCell (ho.out.lt g rfl).1 _
              case measure => simp [intOf]; omega
            · have HE := Lib.hid (pushN_f hq)
              go_wp2
              go_roundw
              case rel => exact ⟨k + 1, m, by omega, by omega, by go_num, rfl, by show m = _; rw [HT.out, HE.out]; exact hm.out, by show OwnI _ _ _ _ _ _; rw [HT.out, HE.out]; exact ho.out, hb.out⟩
              case measure => simp [intOf]; omega
        · have hkn : k = 2 * n := by omega
          have HM := Lib.hid (show m = (ordL (usesL xs ++ marks 0 0)).length by rw [hm.out, hkn, ← HL.out, uses_all]; simp [marks])
          have HO := Lib.hid (show OwnI wo w1.heap.size (some ⟨g, 0, none⟩) 6 c' (posL (ordL (usesL xs ++ marks 0 0))) by
            have h := ho.out
            rw [hkn, ← HL.out, uses_all] at h
            simpa [marks] using h)
          have hm32 : m ≤ 32 := by omega
          clear hkn hm ho
          go_wp2
          go_loopw [5, 8] (fun u i wr => ∃ (k m : Nat), k ≤ 6 ∧ m ≤ 32 + k ∧ i = .int .i64 k ∧ u = .int .i64 m ∧ Hid (m = (ordL (usesL xs ++ marks 0 k)).length) ∧ Hid (OwnI wr w1.heap.size (some ⟨g, 0, none⟩) 6 c' (posL (ordL (usesL xs ++ marks 0 k)))) ∧ Hid (Below w1.heap.size w1 wr)) (fun _ i _ => 6 - (intOf i).toNat)
          case atStart => exact ⟨0, m, by omega, by omega, rfl, rfl, HM, HO, hb⟩
          case round =>
            clear hb HO HM hm32 p1 hlt hk hmk
            obtain ⟨k, m, hk, hmk, rfl, rfl, hm, ho, hb⟩ := hrel
            by_cases hlt : k < 6
            · have HT := Lib.hid (ord_marks (us := usesL xs) k)
              have hc2 := ho.out.cellAt (k := k) hlt
              rw [ith_posL hlt] at hc2
              have hf2 := ho.out.frozenAt (by omega) k
              by_cases hq : idxI (ordL (usesL xs ++ marks 0 k)) (k : Int) < 0
              · have HE := Lib.hid (pushN_t hq)
                have HP := Lib.hid (posL_push hlt hq)
                go_wp2
                go_roundw
                case rel =>
                  refine ⟨k + 1, m + 1, by omega, by omega, by go_num, by go_num, ?_, ?_, ?_⟩
                  · show m + 1 = _
                    rw [HT.out, HE.out, hm.out]; simp
                  · show OwnI _ _ _ _ _ _
                    rw [HT.out, HE.out, ← HP.out, ← hm.out]
                    exact (ho.out.store _).1
                  · exact hb.out.setCell (ho.out.lt g rfl).1 _
                case measure => simp [intOf]; omega
              · have HE := Lib.hid (pushN_f hq)
                go_wp2
                go_roundw
                case rel => exact ⟨k + 1, m, by omega, by omega, by go_num, rfl, by show m = _; rw [HT.out, HE.out]; exact hm.out, by show OwnI _ _ _ _ _ _; rw [HT.out, HE.out]; exact ho.out, hb.out⟩
                case measure => simp [intOf]; omega
            · go_wp2
              go_ret
              obtain rfl : k = 6 := by omega
              have e : fuseL z xs = posL (ordL (usesL xs ++ marks 0 6)) := if_pos HBK.out
              exact ⟨_, _, _, rfl, by rw [e]; exact ho.out.base HW.out.size, HW.out.trans (hb.out.mono HW.out.size)⟩
set_option maxRecDepth 100000 in
set_option maxHeartbeats 2000000 in
theorem spec_FirstUse_no (z : Int) (A : Option Addr) (n c : Nat) (xs : List C) (w : World) (h : RdC w w.heap.size A n xs) (hbk : bOk z xs = false) :
    Calls Try.prog 42 #[.agg #[.int .i64 z, .slice A n c]] w fun e w' => ∃ A n c, e = .returned (.slice A n c) ∧ OwnI w' w.heap.size A n c (fuseL z xs) ∧ Below w.heap.size w w' := by
  have hs := lt2
  have H := Lib.hid h
  clear h
  have HE := Lib.hid (show fuseL z xs = [] by rw [fuseL, hbk]; rfl)
  go_enter Try.func42, Try.ntmps42
  go_wp2_with (go_at_call 73; refine (spec_BlockOk _ _ _ _ _ _ (H.out.below' (by (repeat' (first | (with_reducible exact Below.refl _ _) | (with_reducible refine Below.setCell ?_ ?_ _) | (with_reducible refine Below.alloc ?_ ?_ _) | (with_reducible refine Below.drew ?_) | (with_reducible refine Below.drewN ?_ _) | (with_reducible refine Below.trans ?_ (Below.mono (by with_reducible assumption) ?_)) | go_size | (dsimp only; omega)))) (by go_size))).mono ?_; rintro e w1 ⟨rfl, hb1⟩; obtain ⟨hc1, hf1, hz1⟩ := bcell hb1 (b := w.heap.size) (by go_size))
  go_ret
  exact ⟨_, _, _, rfl, HE.out ▸ OwnI.empty (by have h3 := bsize hb1; simp at h3; omega), by (repeat' (first | (with_reducible exact Below.refl _ _) | (with_reducible refine Below.setCell ?_ ?_ _) | (with_reducible refine Below.alloc ?_ ?_ _) | (with_reducible refine Below.drew ?_) | (with_reducible refine Below.drewN ?_ _) | (with_reducible refine Below.trans ?_ (Below.mono (by with_reducible assumption) ?_)) | go_size | (dsimp only; omega)))⟩
set_option maxRecDepth 100000 in
set_option maxHeartbeats 2000000 in
theorem spec_FirstUse (z : Int) (A : Option Addr) (n c : Nat) (xs : List C) (w : World) (h : RdC w w.heap.size A n xs) :
    Calls Try.prog 42 #[.agg #[.int .i64 z, .slice A n c]] w fun e w' => ∃ A n c, e = .returned (.slice A n c) ∧ OwnI w' w.heap.size A n c (fuseL z xs) ∧ Below w.heap.size w w' := by
  cases hp : bOk z xs with
  | true => exact spec_FirstUse_yes z A n c xs w h hp
  | false => exact spec_FirstUse_no z A n c xs w h hp
end Go.Proofs.Ytlcllpgbpjdofaa
