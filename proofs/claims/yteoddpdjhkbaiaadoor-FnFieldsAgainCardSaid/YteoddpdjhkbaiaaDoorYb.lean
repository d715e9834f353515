/- The fields of a text that was joined out of fields are these fields. No condition. -/
import Derived.Test.YteoddpdjhkbaiaaDoorYs
set_option linter.unusedSimpArgs false
set_option linter.unusedVariables false
set_option maxRecDepth 100000
namespace Go.Proofs.YteoddpdjhkbaiaaDoor
open Go.RowKit

theorem data_app (a b : ByteArray) : (a ++ b).data.toList = a.data.toList ++ b.data.toList := by simp
theorem bt_app_l {a b : ByteArray} {j : Nat} (h : j < a.size) : bt (a ++ b) j = bt a j := by
  unfold bt
  rw [data_app, List.getD_eq_getElem?_getD, List.getD_eq_getElem?_getD, List.getElem?_append_left (by simpa using h)]
theorem bt_app_r {a b : ByteArray} {j : Nat} : bt (a ++ b) (a.size + j) = bt b j := by
  unfold bt
  rw [data_app, List.getD_eq_getElem?_getD, List.getD_eq_getElem?_getD, List.getElem?_append_right (by simp), show a.size + j - a.data.toList.length = j by simp]
theorem bg_app {a b : ByteArray} : ∀ k, k ≤ a.size → bg (a ++ b) k = bg a k := by
  intro k
  induction k with
  | zero => intro _; rfl
  | succ k ih => intro h; rw [bg, bg, bt_app_l (by omega), ih (by omega)]
theorem fl_app {a b : ByteArray} : ∀ k, k ≤ a.size → fl (a ++ b) k = fl a k := by
  intro k
  induction k with
  | zero => intro _; rfl
  | succ k ih => intro h; rw [fl, fl, bt_app_l (by omega), ih (by omega), bg_app k (by omega)]
theorem data_ext (s : ByteArray) (p q : Nat) : (s.extract p q).data.toList = (s.data.toList.take q).drop p := by
  simp [List.extract_eq_take_drop, List.take_drop]
  rcases Nat.lt_or_ge q p with h | h
  · rw [List.drop_eq_nil_of_le (by simp; omega), List.drop_eq_nil_of_le (by simp; omega)]
  · rw [show p + (q - p) = q by omega]
theorem ba_ext {a b : ByteArray} (h : a.data.toList = b.data.toList) : a = b := by
  apply ByteArray.ext
  exact Array.toList_inj.1 h
theorem ext_app {a b : ByteArray} {p q : Nat} (h : q ≤ a.size) : (a ++ b).extract p q = a.extract p q := by
  apply ba_ext
  rw [data_ext, data_ext, data_app, List.take_append_of_le_length (by simpa using h)]
/-- a field: not empty, of visible signs other than the blank -/
def Word (f : ByteArray) : Prop := 0 < f.size ∧ ∀ j, j < f.size → bt f j ≠ 32 ∧ 32 ≤ bt f j ∧ bt f j ≤ 126
def blank : ByteArray := ⟨#[32]⟩
def joinZ (l : List ByteArray) : ByteArray := l.foldl (fun s f => s ++ f ++ blank) ByteArray.empty
theorem joinZ_snoc (l : List ByteArray) (f : ByteArray) : joinZ (l ++ [f]) = joinZ l ++ f ++ blank := by rw [joinZ, List.foldl_append]; rfl
/-- what a text that ends behind a blank holds -/
def Joined (s : ByteArray) (l : List ByteArray) : Prop := bg s s.size = s.size ∧ subs s (fl s s.size) = l ∧ (∀ p ∈ fl s s.size, p.2 ≤ s.size) ∧ ∀ j, j < s.size → 32 ≤ bt s j ∧ bt s j ≤ 126
theorem blank_size : blank.size = 1 := rfl
theorem Joined.step {s : ByteArray} {l : List ByteArray} (h : Joined s l) {f : ByteArray} (hf : Word f) : Joined (s ++ f ++ blank) (l ++ [f]) := by
  obtain ⟨h1, h2, h3, h4⟩ := h
  obtain ⟨f1, f2⟩ := hf
  have hsz : (s ++ f ++ blank).size = s.size + f.size + 1 := by rw [app_size, app_size, blank_size]
  have hin : ∀ j, j < f.size → bt (s ++ f ++ blank) (s.size + j) = bt f j := by
    intro j hj
    rw [bt_app_l (by rw [app_size]; omega), bt_app_r]
  have key : ∀ j, j ≤ f.size → bg (s ++ f ++ blank) (s.size + j) = s.size ∧ fl (s ++ f ++ blank) (s.size + j) = fl s s.size := by
    intro j
    induction j with
    | zero =>
      intro _
      rw [Nat.add_zero, bg_app _ (by rw [app_size]; omega), bg_app _ (by omega), fl_app _ (by rw [app_size]; omega), fl_app _ (by omega)]
      exact ⟨h1, rfl⟩
    | succ j ih =>
      intro hj
      obtain ⟨i1, i2⟩ := ih (by omega)
      have hne : bt (s ++ f ++ blank) (s.size + j) ≠ 32 := by rw [hin j (by omega)]; exact (f2 j (by omega)).1
      rw [← Nat.add_assoc, bg_ch hne, fl_ch hne]
      exact ⟨i1, i2⟩
  obtain ⟨k1, k2⟩ := key f.size (Nat.le_refl _)
  have hb : bt (s ++ f ++ blank) (s.size + f.size) = 32 := by
    have e := bt_app_r (a := s ++ f) (b := blank) (j := 0)
    rw [app_size, Nat.add_zero] at e
    rw [e]; rfl
  have g1 := bg_sp hb
  have g2 := fl_hit hb (by rw [k1]; omega)
  rw [k1, k2] at g2
  rw [Joined, hsz, g1, g2]
  refine ⟨rfl, ?_, ?_, ?_⟩
  · rw [subs_snoc]
    congr 1
    · rw [← h2]
      unfold subs
      refine List.map_congr_left (fun p hp => ?_)
      have := h3 p hp
      rw [ext_app (by rw [app_size]; omega), ext_app this]
    · congr 1
      apply ba_ext
      rw [ext_app (by rw [app_size]; omega), data_ext, List.take_of_length_le (by simp), data_app, List.drop_append_of_le_length (by simp), List.drop_eq_nil_of_le (by simp)]
      rfl
  · intro p hp
    rcases List.mem_append.1 hp with hp | hp
    · have := h3 p hp; omega
    · simp at hp; subst hp; dsimp only; omega
  · intro j hj
    rcases Nat.lt_or_ge j s.size with hl | hl
    · rw [bt_app_l (by rw [app_size]; omega), bt_app_l hl]; exact h4 j hl
    · rcases Nat.lt_or_ge j (s.size + f.size) with hl2 | hl2
      · have e := hin (j - s.size) (by omega)
        rw [show s.size + (j - s.size) = j by omega] at e
        rw [e]; exact (f2 _ (by omega)).2
      · obtain rfl : j = s.size + f.size := by omega
        rw [hb]; omega
theorem joined_fold : ∀ (l : List ByteArray) (s : ByteArray) (l0 : List ByteArray), Joined s l0 → (∀ f ∈ l, Word f) → Joined (l.foldl (fun s f => s ++ f ++ blank) s) (l0 ++ l) := by
  intro l
  induction l with
  | nil => intro s l0 h _; rw [List.append_nil]; exact h
  | cons f r ih =>
    intro s l0 h hw
    have h1 := ih _ _ (h.step (hw f (by simp))) (fun x hx => hw x (by simp [hx]))
    rw [List.append_assoc] at h1
    exact h1
theorem joined_join (l : List ByteArray) (h : ∀ f ∈ l, Word f) : Joined (joinZ l) l :=
  joined_fold l ByteArray.empty [] ⟨rfl, rfl, fun p hp => (by cases hp), fun j hj => absurd hj (Nat.not_lt_zero j)⟩ h
theorem Joined.fields {s : ByteArray} {l : List ByteArray} (h : Joined s l) (h1 : s.size ≤ 600) (h2 : l.length ≤ 24) : sfOk s ∧ subs s (ff s) = l := by
  obtain ⟨k1, k2, k3, k4⟩ := h
  have e : ff s = fl s s.size := by rw [ff, k1, if_neg (by omega)]
  refine ⟨⟨h1, k4, ?_⟩, by rw [e]; exact k2⟩
  rw [e, ← subs_len s, k2]; exact h2
theorem fl_words (s : ByteArray) : ∀ k, (∀ j, bg s k ≤ j → j < k → bt s j ≠ 32) ∧ ∀ p ∈ fl s k, p.1 < p.2 ∧ p.2 ≤ k ∧ ∀ j, p.1 ≤ j → j < p.2 → bt s j ≠ 32 := by
  intro k
  induction k with
  | zero => exact ⟨fun j _ hj => by omega, fun p hp => (by cases hp)⟩
  | succ k ih =>
    obtain ⟨i1, i2⟩ := ih
    have hold : ∀ p ∈ fl s k, p.1 < p.2 ∧ p.2 ≤ k + 1 ∧ ∀ j, p.1 ≤ j → j < p.2 → bt s j ≠ 32 := fun p hp => by
      obtain ⟨a, b, c⟩ := i2 p hp
      exact ⟨a, by omega, c⟩
    by_cases hb : bt s k = 32
    · rw [bg_sp hb]
      refine ⟨fun j h1 h2 => by omega, ?_⟩
      by_cases hl : bg s k < k
      · rw [fl_hit hb hl]
        intro p hp
        rcases List.mem_append.1 hp with hp | hp
        · exact hold p hp
        · simp at hp
          subst hp
          exact ⟨hl, by dsimp only; omega, i1⟩
      · rw [fl_sp hl]; exact hold
    · rw [bg_ch hb, fl_ch hb]
      refine ⟨fun j h1 h2 => ?_, hold⟩
      rcases Nat.lt_or_ge j k with hl | hl
      · exact i1 j h1 hl
      · obtain rfl : j = k := by omega
        exact hb
theorem bt_ext {s : ByteArray} {p q j : Nat} (h : p + j < q) (hq : q ≤ s.size) : bt (s.extract p q) j = bt s (p + j) := by
  unfold bt
  rw [data_ext, List.getD_eq_getElem?_getD, List.getD_eq_getElem?_getD, List.getElem?_drop, List.getElem?_take, if_pos h]
theorem size_ext {s : ByteArray} {p q : Nat} (hq : q ≤ s.size) : (s.extract p q).size = q - p := by
  rw [ByteArray.size_extract, Nat.min_eq_left hq]
theorem word_ext {s : ByteArray} (hs : ∀ j, j < s.size → 32 ≤ bt s j ∧ bt s j ≤ 126) {p q : Nat} (h1 : p < q) (h2 : q ≤ s.size) (h3 : ∀ j, p ≤ j → j < q → bt s j ≠ 32) : Word (s.extract p q) := by
  refine ⟨by rw [size_ext h2]; omega, fun j hj => ?_⟩
  rw [size_ext h2] at hj
  rw [bt_ext (by omega) h2]
  exact ⟨h3 _ (by omega) (by omega), hs _ (by omega)⟩
theorem fields_words {s : ByteArray} (h : sfOk s) : ∀ f ∈ subs s (ff s), Word f := by
  obtain ⟨_, h2, _⟩ := h
  obtain ⟨w1, w2⟩ := fl_words s s.size
  intro f hf
  unfold subs at hf
  rw [List.mem_map] at hf
  obtain ⟨p, hp, rfl⟩ := hf
  have hold : ∀ p ∈ fl s s.size, Word (s.extract p.1 p.2) := fun p hp => by
    obtain ⟨a, b, c⟩ := w2 p hp
    exact word_ext h2 a b c
  unfold ff at hp
  split at hp
  · rename_i hl
    rcases List.mem_append.1 hp with hp | hp
    · exact hold p hp
    · simp at hp
      subst hp
      exact word_ext h2 hl (Nat.le_refl _) w1
  · exact hold p hp
/-- the fields of the joined fields are the fields -/
theorem again {s : ByteArray} (h : sfOk s) (h1 : (joinZ (subs s (ff s))).size ≤ 600) : sfOk (joinZ (subs s (ff s))) ∧ subs (joinZ (subs s (ff s))) (ff (joinZ (subs s (ff s)))) = subs s (ff s) :=
  (joined_join _ (fields_words h)).fields h1 (by rw [subs_len]; exact h.2.2)
theorem join_size_fold (B : Nat) : ∀ (l : List ByteArray) (s : ByteArray), (∀ f ∈ l, f.size ≤ B) → (l.foldl (fun s f => s ++ f ++ blank) s).size ≤ s.size + l.length * (B + 1) := by
  intro l
  induction l with
  | nil => intro s _; simp
  | cons f r ih =>
    intro s h
    have h1 := ih (s ++ f ++ blank) (fun x hx => h x (by simp [hx]))
    have h2 := h f (by simp)
    rw [app_size, app_size, blank_size] at h1
    rw [List.foldl_cons, List.length_cons, Nat.add_mul]
    omega
theorem join_size_le (l : List ByteArray) {B : Nat} (h : ∀ f ∈ l, f.size ≤ B) : (joinZ l).size ≤ l.length * (B + 1) := by
  have h1 := join_size_fold B l ByteArray.empty h
  simpa [joinZ] using h1
end Go.Proofs.YteoddpdjhkbaiaaDoor
