/- Walks of SwapList, IsExchange, UndoList and what they call. -/
import Derived.Test.YtlcllpgbpjdofaaP
import Derived.Test.YtlcllpgbpjdofaaR0
set_option linter.unusedSimpArgs false
set_option linter.unusedVariables false
set_option maxRecDepth 100000
namespace Go.Proofs.Ytlcllpgbpjdofaa
open Go.RowKit

def swapI (a b : Int) : List Int := if inB a 0 5 && inB b 0 5 then ((marks 0 6).set a.toNat b).set b.toNat a else []




theorem step_any {P : Nat → Prop} {k : Nat} (h : ∀ j, j < k → P j) (hk : P k) : ∀ j, j < k + 1 → P j := step_all h hk

/-- n put into an ascending list -/
def putI : List Int → Int → List Int
  | [], n => [n]
  | x :: r, n => if n ≤ x then n :: x :: r else x :: putI r n
def sortI (xs : List Int) : List Int := xs.foldl putI []
def ascB (xs : List Int) : Bool := (List.range xs.length).all (fun i => i == 0 || decide (ith xs (i - 1) < ith xs i))
def strictI (xs : List Int) (a b : Int) : Bool := ascB xs && allIn xs a b
theorem ascB_f {xs : List Int} {j : Nat} (hj : j + 1 < xs.length) (h : ith xs (j + 1) ≤ ith xs j) : ascB xs = false := by
  unfold ascB
  rw [List.all_eq_false]
  refine ⟨j + 1, by simpa using hj, ?_⟩
  simp
  exact h
theorem ascB_t {xs : List Int} (h : ∀ k, k < xs.length → k = 0 ∨ ith xs (k - 1) < ith xs k) : ascB xs = true := by
  unfold ascB
  rw [List.all_eq_true]
  intro k hk
  have := h k (by simpa using hk)
  simpa using this

theorem putI_len (l : List Int) (n : Int) : (putI l n).length = l.length + 1 := by
  induction l with
  | nil => rfl
  | cons x r ih => unfold putI; split <;> simp [ih]
theorem sortI_len_aux (xs : List Int) : ∀ acc, (xs.foldl putI acc).length = acc.length + xs.length := by
  induction xs with
  | nil => intro acc; rfl
  | cons x r ih => intro acc; rw [List.foldl_cons, ih, putI_len, List.length_cons]; omega
theorem sortI_len (xs : List Int) : (sortI xs).length = xs.length := by rw [sortI, sortI_len_aux]; simp
/-- putting, seen from the middle: done is the part that was passed (all below n) -/
theorem putI_pass (l r : List Int) (n : Int) (h : ∀ x ∈ l, x < n) : putI (l ++ r) n = l ++ putI r n := by
  induction l with
  | nil => rfl
  | cons x l ih =>
    have hx := h x (by simp)
    rw [List.cons_append, putI, if_neg (by omega), ih (fun y hy => h y (by simp [hy]))]; rfl
theorem putI_here (l r : List Int) (n : Int) (h : ∀ x ∈ l, x < n) (x : Int) (hx : n ≤ x) : putI (l ++ x :: r) n = l ++ n :: x :: r := by
  rw [putI_pass l _ n h, putI, if_pos hx]

theorem putI_done (l : List Int) (y z : Int) (h : ∃ x ∈ l, y ≤ x) : putI (l ++ [z]) y = putI l y ++ [z] := by
  induction l with
  | nil => obtain ⟨x, hx, _⟩ := h; cases hx
  | cons x l ih =>
    by_cases hx : y ≤ x
    · rw [List.cons_append, putI, if_pos hx, putI, if_pos hx]; rfl
    · rw [List.cons_append, putI, if_neg hx, putI, if_neg hx, ih, List.cons_append]
      obtain ⟨x', hx', hy⟩ := h
      rcases List.mem_cons.1 hx' with e | e
      · subst e; exact absurd hy hx
      · exact ⟨x', e, hy⟩
theorem putI_all (l : List Int) (y : Int) (h : ∀ x ∈ l, x < y) : putI l y = l ++ [y] := by
  have := putI_pass l [] y h
  simpa [putI] using this
theorem putI_new (l : List Int) (y z : Int) (h : ∀ x ∈ l, x < y) (hz : y ≤ z) : putI (l ++ [z]) y = l ++ [y] ++ [z] := by
  rw [putI_here l [] y h z hz]; simp

set_option maxHeartbeats 1000000 in
theorem impl_put (A : Option Addr) (n c : Nat) (xs : List Int) (y : Int) (w : World) (h : RdI w w.heap.size A n xs) (hn : n ≤ 1000000) :
    Calls Try.prog 124 #[.slice A n c, .int .i64 y] w fun e w' => ∃ g c, e = .returned (.slice (some ⟨g, 0, none⟩) (n + 1) c) ∧ OwnI w' w.heap.size (some ⟨g, 0, none⟩) (n + 1) c (putI xs y) ∧ Below w.heap.size w w' := by
  have hle := h.le
  have H := Lib.hid h
  clear h
  go_enter Try.func124, Try.ntmps124
  go_wp2
  go_loopw [5, 6, 12] (fun v dn i wr => ∃ (k g c m : Nat) (d : Bool), k ≤ n ∧ m ≤ k + 1 ∧ i = .int .i64 k ∧ dn = .bool d ∧ v = .slice (some ⟨g, 0, none⟩) m c ∧ Hid (OwnI wr w.heap.size (some ⟨g, 0, none⟩) m c (bif d then putI (xs.take k) y else xs.take k)) ∧ Hid (d = false → ∀ x ∈ xs.take k, x < y) ∧ Hid (d = true → ∃ x ∈ xs.take k, y ≤ x) ∧ Hid (Below w.heap.size w wr)) (fun _ _ i _ => n - (intOf i).toNat)
  case atStart => exact ⟨0, _, _, 0, false, by omega, by omega, rfl, rfl, rfl, OwnI.empty (Nat.le_refl _), fun _ x hx => by simp at hx, fun h => (by cases h), (Below.refl _ _).alloc (Nat.le_refl _) _⟩
  case round =>
    obtain ⟨k, g, c, m, d, hk, hm, rfl, rfl, rfl, ho, hf, ht, hb⟩ := hrel
    by_cases hlt : k < n
    · obtain ⟨g1, off, rfl, hc⟩ := (H.out.below hb.out).at_ hlt
      have HT := Lib.hid (take_ith xs k (by rw [H.out.1]; exact hlt))
      cases d with
      | true =>
        have hm2 : m = k + 1 := by have := ho.out.len; rw [cond_true, putI_len, List.length_take, H.out.1] at this; omega
        have HM := Lib.hid hm2
        clear hm2
        go_wp2_with (at_builtin; refine wpList_pushI _ _ rfl _ _ rfl w.heap.size _ _ _ _ rfl ho.out rfl (by omega) hb.out.size ?_; intro g' c' w1 ho1 hg1 _; have HO1 := Lib.hid ho1; have HB1 := Lib.hid (ho.out.belowOwn hg1 hb.out.size); clear ho1 hg1)
        go_roundw
        case rel =>
          refine ⟨k + 1, g', c', m + 1, true, by omega, by omega, by go_num, rfl, rfl, ?_, fun h => (by cases h), fun _ => ?_, hb.out.trans HB1.out⟩
          · have e : putI (xs.take (k + 1)) y = putI (xs.take k) y ++ [ith xs k] := by rw [HT.out, putI_done _ _ _ (ht.out rfl)]
            rw [cond_true, e]; exact HO1.out
          · obtain ⟨x, hx, hy⟩ := ht.out rfl
            exact ⟨x, by rw [HT.out]; simp [hx], hy⟩
        case measure => simp [intOf]; omega
      | false =>
        have hm2 : m = k := by have := ho.out.len; rw [cond_false, List.length_take, H.out.1] at this; omega
        have HM := Lib.hid hm2
        clear hm2
        have HF := Lib.hid (hf.out rfl)
        by_cases hy : y ≤ ith xs k
        · go_wp2_with (first
            | (at_builtin; refine wpList_pushI _ y rfl (.tmp 23) (.tmp 25) rfl w.heap.size _ _ _ _ rfl ho.out rfl (by omega) hb.out.size ?_; intro g1 c1 w1 ho1 hg1 _; have HO1 := Lib.hid ho1; have HB1 := Lib.hid (ho.out.belowOwn hg1 hb.out.size); clear ho1 hg1)
            | (at_builtin; refine wpList_pushI _ (ith xs k) rfl (.tmp 27) (.tmp 29) rfl w.heap.size _ _ _ _ rfl HO1.out rfl (by omega) (hb.out.trans HB1.out).size ?_; intro g2 c2 w2 ho2 hg2 _; have HO2 := Lib.hid ho2; have HB2 := Lib.hid (HO1.out.belowOwn hg2 (hb.out.trans HB1.out).size); clear ho2 hg2))
          go_roundw
          case rel =>
            refine ⟨k + 1, _, _, m + 1 + 1, true, by omega, by have := HM.out; omega, by go_num, rfl, rfl, ?_, fun h => (by cases h), fun _ => ⟨ith xs k, by rw [HT.out]; simp, hy⟩, (hb.out.trans HB1.out).trans HB2.out⟩
            have e : putI (xs.take (k + 1)) y = xs.take k ++ [y] ++ [ith xs k] := by rw [HT.out, putI_new _ _ _ HF.out hy]
            rw [cond_true, e]; exact HO2.out
          case measure => simp [intOf]; omega
        · go_wp2_with (at_builtin; refine wpList_pushI _ (ith xs k) rfl (.tmp 27) (.tmp 29) rfl w.heap.size _ _ _ _ rfl ho.out rfl (by omega) hb.out.size ?_; intro g1 c1 w1 ho1 hg1 _; have HO1 := Lib.hid ho1; have HB1 := Lib.hid (ho.out.belowOwn hg1 hb.out.size); clear ho1 hg1)
          go_roundw
          case rel =>
            refine ⟨k + 1, _, _, m + 1, false, by omega, by omega, by go_num, rfl, rfl, ?_, fun _ x hx => ?_, fun h => (by cases h), hb.out.trans HB1.out⟩
            · rw [cond_false, HT.out]; exact HO1.out
            · rw [HT.out, List.mem_append] at hx
              rcases hx with hx | hx
              · exact HF.out x hx
              · simp at hx; omega
          case measure => simp [intOf]; omega
    · have ek : k = n := by omega
      have EK := Lib.hid ek
      clear ek
      have HX := Lib.hid (show xs.take k = xs by rw [List.take_of_length_le (by rw [H.out.1]; omega)])
      cases d with
      | true =>
        have hm2 : m = k + 1 := by have := ho.out.len; rw [cond_true, putI_len, List.length_take, H.out.1] at this; omega
        have HM := Lib.hid hm2
        clear hm2
        go_wp2
        go_ret
        have h1 := ho.out
        rw [cond_true, HX.out] at h1
        obtain rfl : m = n + 1 := by have := HM.out; have := EK.out; omega
        exact ⟨_, _, rfl, h1, hb.out⟩
      | false =>
        have hm2 : m = k := by have := ho.out.len; rw [cond_false, List.length_take, H.out.1] at this; omega
        have HM := Lib.hid hm2
        clear hm2
        have HF := Lib.hid (hf.out rfl)
        go_wp2_with (at_builtin; refine wpList_pushI _ y rfl (.tmp 34) (.tmp 36) rfl w.heap.size _ _ _ _ rfl ho.out rfl (by omega) hb.out.size ?_; intro g1 c1 w1 ho1 hg1 _; have HO1 := Lib.hid ho1; have HB1 := Lib.hid (ho.out.belowOwn hg1 hb.out.size); clear ho1 hg1)
        go_ret
        have h1 := HO1.out
        have e : putI xs y = xs.take k ++ [y] := by rw [← putI_all _ _ HF.out, HX.out]
        obtain rfl : m = n := by have := HM.out; have := EK.out; omega
        rw [cond_false, ← e] at h1
        exact ⟨_, _, rfl, h1, hb.out.trans HB1.out⟩

set_option maxHeartbeats 400000 in
theorem impl_sorted (A : Option Addr) (n c : Nat) (xs : List Int) (w : World) (h : RdI w w.heap.size A n xs) (hn : n ≤ 1000000) :
    Calls Try.prog 122 #[.slice A n c] w fun e w' => ∃ g c, e = .returned (.slice (some ⟨g, 0, none⟩) n c) ∧ OwnI w' w.heap.size (some ⟨g, 0, none⟩) n c (sortI xs) ∧ Below w.heap.size w w' := by
  have hle := h.le
  have H := Lib.hid h
  clear h
  go_enter Try.func122, Try.ntmps122
  go_wp2
  go_loopw [3, 9] (fun v i wr => ∃ (k g c : Nat), k ≤ n ∧ i = .int .i64 k ∧ v = .slice (some ⟨g, 0, none⟩) k c ∧ Hid (OwnI wr w.heap.size (some ⟨g, 0, none⟩) k c (sortI (xs.take k))) ∧ Hid (Below w.heap.size w wr)) (fun _ i _ => n - (intOf i).toNat)
  case atStart => exact ⟨0, _, _, by omega, rfl, rfl, OwnI.empty (Nat.le_refl _), (Below.refl _ _).alloc (Nat.le_refl _) _⟩
  case round =>
    obtain ⟨k, g, c, hk, rfl, rfl, ho, hb⟩ := hrel
    by_cases hlt : k < n
    · obtain ⟨g1, off, rfl, hc⟩ := (H.out.below hb.out).at_ hlt
      have HT := Lib.hid (take_ith xs k (by rw [H.out.1]; exact hlt))
      go_wp2_with (go_at_call 124; refine (impl_put _ _ _ _ _ _ ho.out.rd (by omega)).mono ?_; rintro e w1 ⟨g', c', rfl, ho1, hb1⟩; have HO1 := Lib.hid ho1; have HB1 := Lib.hid hb1; clear ho1 hb1)
      go_roundw
      case rel =>
        refine ⟨k + 1, _, _, by omega, by go_num, rfl, ?_, hb.out.trans (HB1.out.mono hb.out.size)⟩
        have e : sortI (xs.take (k + 1)) = putI (sortI (xs.take k)) (ith xs k) := by rw [HT.out, sortI, List.foldl_append]; rfl
        rw [e]; exact HO1.out.base hb.out.size
      case measure => simp [intOf]; omega
    · have ek : k = n := by omega
      have EK := Lib.hid ek
      clear ek
      have HX := Lib.hid (show xs.take k = xs by rw [List.take_of_length_le (by rw [H.out.1]; omega)])
      go_wp2
      go_ret
      have h1 := ho.out
      rw [HX.out] at h1
      obtain rfl : k = n := EK.out
      exact ⟨_, _, rfl, h1, hb.out⟩

set_option maxHeartbeats 400000 in
theorem impl_isStrict (A : Option Addr) (n c : Nat) (xs : List Int) (a b : Int) (w : World) (h : RdI w w.heap.size A n xs) :
    Calls Try.prog 121 #[.slice A n c, .int .i64 a, .int .i64 b] w fun e w' => e = .returned (.bool (strictI xs a b)) ∧ Below w.heap.size w w' := by
  have hle := h.le
  have H := Lib.hid h
  clear h
  go_enter Try.func121, Try.ntmps121
  go_wp2
  go_loopw [10] (fun i wr => ∃ k : Nat, k ≤ n ∧ i = .int .i64 k ∧ Hid (∀ j, j < k → j = 0 ∨ ith xs (j - 1) < ith xs j) ∧ Hid (∃ m, wr = w.drewN m)) (fun i _ => n - (intOf i).toNat)
  case atStart => exact ⟨0, Nat.zero_le _, rfl, fun j hj => absurd hj (by omega), ⟨0, rfl⟩⟩
  case round =>
    obtain ⟨k, hk, rfl, hp, hm⟩ := hrel
    obtain ⟨m, rfl⟩ := hm.out
    have hb : Below w.heap.size w (w.drewN m) := (Below.refl _ _).drewN m
    have HB := Lib.hid hb
    clear hb hm
    by_cases hlt : k < n
    · cases k with
      | zero =>
        have h0 : decide ((0 : Int) < ((0 : Nat) : Int)) = false := by decide
        go_wp2
        go_quiet (fail)
        go_wp2
        go_roundw
        case rel => exact ⟨1, by omega, by go_num, fun j hj => .inl (by omega), ⟨_, rfl⟩⟩
        case measure => simp [intOf]; omega
      | succ j =>
        obtain ⟨g, off, rfl, hc⟩ := H.out.at_ hlt
        obtain ⟨g', off', e', hc'⟩ := H.out.at_ (show j < n by omega)
        simp only [Option.some.injEq, Addr.mk.injEq, and_true] at e'
        obtain ⟨rfl, rfl⟩ := e'
        have h1 : (0 : Int) ≤ (j : Int) + 1 := by omega
        have h2 : (j : Int) + 1 < (n : Int) := by omega
        have h3 : (0 : Int) ≤ (j : Int) := by omega
        have h4 : (j : Int) < (n : Int) := by omega
        have hd : decide ((0 : Int) < (j : Int) + 1) = true := decide_eq_true (by omega)
        by_cases hlt2 : ith xs j < ith xs (j + 1)
        · have HL := Lib.hid hlt2
          have hq : decide (ith xs (j + 1) ≤ ith xs j) = false := by simp; omega
          clear hlt2
          go_wp2
          have hs1 : IntKind.i64.wrap ((j : Int) + 1 - 1) = (j : Int) := by rw [IntWalk.i64_in _ (by omega)]; omega
          go_quiet (fail)
          clear hs1
          go_wp2
          go_roundw
          case rel => exact ⟨j + 1 + 1, by omega, by go_num, step_all hp.out (.inr HL.out), ⟨_, rfl⟩⟩
          case measure => simp [intOf]; omega
        · have HL := Lib.hid hlt2
          have hq : decide (ith xs (j + 1) ≤ ith xs j) = true := by simp; omega
          clear hlt2
          go_wp2
          have hs1 : IntKind.i64.wrap ((j : Int) + 1 - 1) = (j : Int) := by rw [IntWalk.i64_in _ (by omega)]; omega
          go_quiet (fail)
          clear hs1
          go_wp2
          go_ret
          refine ⟨ret_bool ?_, ((Below.refl _ _).drewN _).drewN _⟩
          rw [strictI, ascB_f (j := j) (by rw [H.out.1]; exact hlt) (by have := HL.out; omega)]; rfl
    · have ek : k = n := by omega
      have EK := Lib.hid ek
      clear ek
      go_wp2_with (go_at_call 123; refine (impl_allWithin _ _ _ _ _ _ _ (H.out.next HB.out)).mono ?_; rintro e w' ⟨rfl, rfl⟩)
      go_ret
      refine ⟨ret_bool ?_, HB.out⟩
      rw [strictI, ascB_t (fun k' hk' => hp.out k' (by rw [EK.out]; rw [H.out.1] at hk'; exact hk')), Bool.true_and]


theorem putI_perm (l : List Int) (n : Int) : (putI l n).Perm (n :: l) := by
  induction l with
  | nil => exact List.Perm.refl _
  | cons x r ih =>
    unfold putI
    split
    · exact List.Perm.refl _
    · exact (List.Perm.cons x ih).trans (List.Perm.swap n x r)
theorem sortI_perm_aux (xs : List Int) : ∀ acc, (xs.foldl putI acc).Perm (acc ++ xs) := by
  induction xs with
  | nil => intro acc; simp
  | cons x r ih =>
    intro acc
    rw [List.foldl_cons]
    refine (ih _).trans ?_
    refine ((putI_perm acc x).append_right r).trans ?_
    exact List.perm_middle.symm
theorem sortI_perm (xs : List Int) : (sortI xs).Perm xs := sortI_perm_aux xs []
theorem putI_sorted (l : List Int) (n : Int) (h : l.Pairwise (· ≤ ·)) : (putI l n).Pairwise (· ≤ ·) := by
  induction l with
  | nil => simp [putI]
  | cons x r ih =>
    obtain ⟨h1, h2⟩ := List.pairwise_cons.1 h
    unfold putI
    split
    · rename_i hx
      refine List.pairwise_cons.2 ⟨fun y hy => ?_, h⟩
      rcases List.mem_cons.1 hy with e | e
      · omega
      · have := h1 y e; omega
    · rename_i hx
      refine List.pairwise_cons.2 ⟨fun y hy => ?_, ih h2⟩
      rcases List.mem_cons.1 ((putI_perm r n).mem_iff.1 hy) with e | e
      · omega
      · exact h1 y e
theorem sortI_sorted_aux (xs : List Int) : ∀ acc : List Int, acc.Pairwise (· ≤ ·) → (xs.foldl putI acc).Pairwise (· ≤ ·) := by
  induction xs with
  | nil => intro acc h; exact h
  | cons x r ih => intro acc h; exact ih _ (putI_sorted acc x h)
theorem sortI_sorted (xs : List Int) : (sortI xs).Pairwise (· ≤ ·) := sortI_sorted_aux xs [] List.Pairwise.nil

theorem ascB_next {xs : List Int} (h : ascB xs = true) {k : Nat} (hk : k + 1 < xs.length) : ith xs k < ith xs (k + 1) := by
  unfold ascB at h
  rw [List.all_eq_true] at h
  have := h (k + 1) (by simpa using hk)
  simpa using this
theorem ascB_lt {xs : List Int} (h : ascB xs = true) {i : Nat} : ∀ d, i + d + 1 < xs.length → ith xs i < ith xs (i + d + 1) := by
  intro d
  induction d with
  | zero => intro hk; exact ascB_next h hk
  | succ d ih =>
    intro hk
    have h1 := ih (by omega)
    have h2 := ascB_next h (k := i + d + 1) (by omega)
    have e : i + (d + 1) + 1 = i + d + 1 + 1 := by omega
    rw [e]; omega
theorem ascB_iff (xs : List Int) : ascB xs = true ↔ xs.Pairwise (· < ·) := by
  constructor
  · intro h
    rw [List.pairwise_iff_getElem]
    intro i j hi hj hij
    have := ascB_lt h (i := i) (j - i - 1) (by omega)
    rw [show i + (j - i - 1) + 1 = j from by omega, ith_get hi, ith_get hj] at this
    exact this
  · intro h
    refine ascB_t (fun k hk => ?_)
    rcases Nat.eq_zero_or_pos k with h0 | h0
    · exact .inl h0
    · right
      have := (List.pairwise_iff_getElem.1 h) (k - 1) k (by omega) hk (by omega)
      rwa [ith_get (by omega), ith_get hk]
theorem lt_of_sorted_nodup {l : List Int} (h : l.Pairwise (· ≤ ·)) (hn : l.Nodup) : l.Pairwise (· < ·) := by
  induction l with
  | nil => exact List.Pairwise.nil
  | cons x r ih =>
    obtain ⟨h1, h2⟩ := List.pairwise_cons.1 h
    obtain ⟨h3, h4⟩ := List.nodup_cons.1 hn
    refine List.pairwise_cons.2 ⟨fun y hy => ?_, ih h2 h4⟩
    have := h1 y hy
    have hne : y ≠ x := fun e => h3 (e ▸ hy)
    omega
theorem nodup_of_lt {l : List Int} (h : l.Pairwise (· < ·)) : l.Nodup := by
  induction l with
  | nil => exact List.nodup_nil
  | cons x r ih =>
    obtain ⟨h1, h2⟩ := List.pairwise_cons.1 h
    exact List.nodup_cons.2 ⟨fun hx => by have := h1 x hx; omega, ih h2⟩
def nodupB (xs : List Int) : Bool := decide xs.Nodup
theorem nodupB_f {xs : List Int} {i k : Nat} (hi : i < k) (hk : k < xs.length) (h : ith xs i = ith xs k) : nodupB xs = false := by
  simp only [nodupB, decide_eq_false_iff_not]
  intro hn
  have := (List.pairwise_iff_getElem.1 hn) i k (by omega) hk hi
  rw [ith_get (by omega), ith_get hk] at h
  exact this h
theorem nodupB_t {xs : List Int} (h : ∀ k, k < xs.length → ∀ i, i < k → ith xs i ≠ ith xs k) : nodupB xs = true := by
  simp only [nodupB, decide_eq_true_eq]
  refine List.pairwise_iff_getElem.2 (fun i j hi hj hij => ?_)
  have := h j hj i hij
  rwa [ith_get hi, ith_get hj] at this
theorem ascB_sort (xs : List Int) : ascB (sortI xs) = nodupB xs := by
  rw [Bool.eq_iff_iff, ascB_iff, nodupB, decide_eq_true_eq]
  constructor
  · intro h; exact (sortI_perm xs).nodup_iff.1 (nodup_of_lt h)
  · intro h; exact lt_of_sorted_nodup (sortI_sorted xs) ((sortI_perm xs).nodup_iff.2 h)
theorem allIn_perm {xs ys : List Int} (h : xs.Perm ys) (a b : Int) : allIn xs a b = allIn ys a b := by
  unfold allIn
  rw [Bool.eq_iff_iff, List.all_eq_true, List.all_eq_true]
  exact ⟨fun h' x hx => h' x (h.mem_iff.2 hx), fun h' x hx => h' x (h.mem_iff.1 hx)⟩
theorem strict_sort (xs : List Int) (a b : Int) : strictI (sortI xs) a b = (nodupB xs && allIn xs a b) := by
  rw [strictI, ascB_sort, allIn_perm (sortI_perm xs)]
/-- a list is an exchange -/
def exchI (xs : List Int) : Bool := nodupB xs && (xs.length == 6 && allIn xs 0 5)
theorem exch_sort (xs : List Int) : (xs.length == 6 && strictI (sortI xs) 0 5) = exchI xs := by
  rw [strict_sort, exchI]
  cases nodupB xs <;> cases (xs.length == 6) <;> simp

theorem exchI_t {xs : List Int} (h : exchI xs = true) : xs.length = 6 ∧ ∀ k, k < xs.length → 0 ≤ ith xs k ∧ ith xs k ≤ 5 := by
  simp only [exchI, Bool.and_eq_true, beq_iff_eq] at h
  refine ⟨h.2.1, fun k hk => ?_⟩
  have h2 := h.2.2
  unfold allIn at h2
  rw [List.all_eq_true] at h2
  have := h2 _ (List.getElem_mem hk)
  rw [← ith_get hk] at this
  simpa [inB] using this
/-- the list that undoes an exchange, after k of its steps -/
def undoTo (xs : List Int) (k : Nat) : List Int := (List.range k).foldl (fun acc (j : Nat) => acc.set (ith xs j).toNat (j : Int)) (List.replicate 6 0)
theorem undoTo_succ (xs : List Int) (k : Nat) : undoTo xs (k + 1) = (undoTo xs k).set (ith xs k).toNat (k : Int) := by simp [undoTo, List.range_succ]
theorem undoTo_len (xs : List Int) (k : Nat) : (undoTo xs k).length = 6 := by
  induction k with
  | zero => rfl
  | succ k ih => rw [undoTo_succ, List.length_set, ih]
def undoI (xs : List Int) : List Int := if exchI xs then undoTo xs 6 else []

set_option maxHeartbeats 400000 in
theorem impl_IsExchange (A : Option Addr) (n c : Nat) (xs : List Int) (w : World) (h : RdI w w.heap.size A n xs) :
    Calls Try.prog 115 #[.slice A n c] w fun e w' => e = .returned (.bool (exchI xs)) ∧ Below w.heap.size w w' := by
  have hle := h.le
  have H := Lib.hid h
  clear h
  by_cases h6 : n = 6
  · subst h6
    go_enter Try.func115, Try.ntmps115
    go_wp2_with (first
      | (go_at_call 122; refine (impl_sorted _ _ _ _ _ H.out (by omega)).mono ?_; rintro e w1 ⟨g, c, rfl, ho1, hb1⟩)
      | (go_at_call 121; refine (impl_isStrict _ _ _ _ _ _ _ ho1.rd).mono ?_; rintro e w2 ⟨rfl, hb2⟩))
    go_ret
    refine ⟨ret_bool ?_, hb1.trans (hb2.mono hb1.size)⟩
    rw [← exch_sort, H.out.1]; simp
  · have hq : ((n : Int) == 6) = false := by simp; omega
    go_enter Try.func115, Try.ntmps115
    go_wp2_with fail
    go_ret
    refine ⟨ret_bool ?_, Below.refl _ _⟩
    have e : (xs.length == 6) = false := by rw [H.out.1]; simpa using h6
    rw [← exch_sort, e]
    rfl


theorem mkbase {w1 w2 : World} {B : Nat} {n : Nat} {v : Value} {xs : List Value} (hB : B ≤ w1.heap.size) (h : w2.ownsRow w1.heap.size 3 1 v n xs) : w2.ownsRow w1.heap.size 3 1 v n xs := h


set_option maxHeartbeats 400000 in
theorem impl_UndoList (A : Option Addr) (n c : Nat) (xs : List Int) (w : World) (h : RdI w w.heap.size A n xs) :
    Calls Try.prog 92 #[.slice A n c] w fun e w' => ∃ A n c, e = .returned (.slice A n c) ∧ OwnI w' w.heap.size A n c (undoI xs) ∧ Below w.heap.size w w' := by
  obtain ⟨i0, hi, hz0, hz1, hz2⟩ := info_parts int_info
  have HI := Lib.hid hi; have HZ0 := Lib.hid hz0; have HZ1 := Lib.hid hz1; have HZ2 := Lib.hid hz2
  clear hi hz0 hz1 hz2
  have H := Lib.hid h
  have hle := h.le
  clear h
  by_cases hx : exchI xs = true
  · have HX := Lib.hid (exchI_t hx)
    have hn : n = 6 := by rw [← H.out.1]; exact HX.out.1
    subst hn
    go_enter Try.func92, Try.ntmps92
    go_wp2_with (first
      | (go_at_call 115; refine (impl_IsExchange _ _ _ _ _ H.out).mono ?_; rintro e w1 ⟨rfl, hb1⟩)
      | (at_make; refine wpList_make_full _ rfl _ _ _ rfl w1.heap.size 3 i0 (.int .i64 0) 1 Try.underlying31 HI.out HZ0.out HZ1.out .i64 .i64 6 6 6 rfl rfl rfl rfl (by rw [HZ2.out]; omega) (by unfold maxLen; omega) (Nat.le_refl _) ?_; intro w2 hown2 hg2; have HO := Lib.hid (madeI (by omega) (mkbase hb1.size hown2)); have HB := Lib.hid (hb1.grown hg2 hb1.size (by intro k hk; cases hk)); clear hown2 hg2))
    go_loopw [12] (fun i wr => ∃ (k : Nat), k ≤ 6 ∧ i = .int .i64 k ∧ Hid (OwnI wr w1.heap.size (some ⟨w1.heap.size, 0, none⟩) 6 6 (undoTo xs k)) ∧ Hid (Below w.heap.size w wr)) (fun i _ => 6 - (intOf i).toNat)
    case atStart => exact ⟨0, by omega, rfl, HO, HB⟩
    case round =>
      obtain ⟨k, hk, rfl, ho, hb⟩ := hrel
      by_cases hlt : k < 6
      · obtain ⟨g, off, rfl, hc⟩ := (H.out.below hb.out).at_ hlt
        obtain ⟨hv1, hv2⟩ := HX.out.2 k (by rw [HX.out.1]; exact hlt)
        obtain ⟨q, hq⟩ := Int.eq_ofNat_of_zero_le hv1
        rw [hq] at hc hv1 hv2
        have HQ := Lib.hid hq
        clear hq
        have hc2 := ho.out.cellAt (k := q) (by omega)
        have hf2 := ho.out.frozenAt (by omega) q
        go_wp2
        go_roundw
        case rel =>
          have e : undoTo xs (k + 1) = (undoTo xs k).set q (k : Int) := by rw [undoTo_succ, HQ.out]; rfl
          exact ⟨k + 1, by omega, by go_num, e ▸ (ho.out.store _).1, hb.out.setCell hb1.size _⟩
        case measure => simp [intOf]; omega
      · go_wp2
        go_ret
        obtain rfl : k = 6 := by omega
        refine ⟨_, _, _, rfl, ?_, hb.out⟩
        rw [undoI, if_pos hx]
        exact ho.out.base hb1.size
  · have hx' : exchI xs = false := by simpa using hx
    clear hx
    go_enter Try.func92, Try.ntmps92
    go_wp2_with (go_at_call 115; refine (impl_IsExchange _ _ _ _ _ H.out).mono ?_; rintro e w1 ⟨rfl, hb1⟩)
    go_ret
    refine ⟨_, _, _, rfl, ?_, hb1⟩
    rw [undoI, hx']
    exact OwnI.nil_

end Go.Proofs.Ytlcllpgbpjdofaa
