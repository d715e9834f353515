/- SplitFields, both sides; the law FnExactSplitFields returns true. No condition. -/
import Derived.Test.YteoddpdjhkbaiaaDoorYz
set_option linter.unusedSimpArgs false
set_option linter.unusedVariables false
set_option maxRecDepth 100000
namespace Go.Proofs.YteoddpdjhkbaiaaDoor
open Go.RowKit

/-- where the field that stands open at k began: behind the last blank -/
def bg (s : ByteArray) : Nat → Nat
  | 0 => 0
  | k + 1 => if bt s k = 32 then k + 1 else bg s k
theorem bg_le (s : ByteArray) (k : Nat) : bg s k ≤ k := by
  induction k with
  | zero => exact Nat.le_refl _
  | succ k ih => rw [bg]; split <;> omega
/-- the fields that a blank ahead of k has closed -/
def fl (s : ByteArray) : Nat → List (Nat × Nat)
  | 0 => []
  | k + 1 => if bt s k = 32 ∧ bg s k < k then fl s k ++ [(bg s k, k)] else fl s k
theorem fl_len (s : ByteArray) (k : Nat) : (fl s k).length ≤ k := by
  induction k with
  | zero => exact Nat.le_refl _
  | succ k ih => rw [fl]; split <;> (try simp) <;> omega
def ff (s : ByteArray) : List (Nat × Nat) := if bg s s.size < s.size then fl s s.size ++ [(bg s s.size, s.size)] else fl s s.size
def subs (s : ByteArray) (ps : List (Nat × Nat)) : List ByteArray := ps.map (fun p => s.extract p.1 p.2)
theorem subs_len (s : ByteArray) (ps : List (Nat × Nat)) : (subs s ps).length = ps.length := by simp [subs]
theorem subs_snoc (s : ByteArray) (ps : List (Nat × Nat)) (a b : Nat) : subs s (ps ++ [(a, b)]) = subs s ps ++ [s.extract a b] := by simp [subs]
theorem ff_len (s : ByteArray) : (ff s).length ≤ s.size + 1 := by
  have := fl_len s s.size
  unfold ff; split <;> (try simp) <;> omega
theorem bg_sp {s : ByteArray} {k : Nat} (h : bt s k = 32) : bg s (k + 1) = k + 1 := by rw [bg, if_pos h]
theorem bg_ch {s : ByteArray} {k : Nat} (h : bt s k ≠ 32) : bg s (k + 1) = bg s k := by rw [bg, if_neg h]
theorem fl_hit {s : ByteArray} {k : Nat} (h : bt s k = 32) (h' : bg s k < k) : fl s (k + 1) = fl s k ++ [(bg s k, k)] := by rw [fl, if_pos ⟨h, h'⟩]
theorem fl_sp {s : ByteArray} {k : Nat} (h' : ¬ bg s k < k) : fl s (k + 1) = fl s k := by rw [fl, if_neg (fun h => h' h.2)]
theorem fl_ch {s : ByteArray} {k : Nat} (h : bt s k ≠ 32) : fl s (k + 1) = fl s k := by rw [fl, if_neg (fun h' => h h'.1)]
/-- the reference's state: behind the last round the open field is closed -/
def bgS (s : ByteArray) (k : Nat) : Nat := if k ≤ s.size then bg s k else s.size + 1
def flS (s : ByteArray) (k : Nat) : List (Nat × Nat) := if k ≤ s.size then fl s k else ff s
theorem bgS_in {s : ByteArray} {k : Nat} (h : k ≤ s.size) : bgS s k = bg s k := if_pos h
theorem flS_in {s : ByteArray} {k : Nat} (h : k ≤ s.size) : flS s k = fl s k := if_pos h
theorem flS_end {s : ByteArray} : flS s (s.size + 1) = ff s := if_neg (by omega)
theorem bgS_end {s : ByteArray} : bgS s (s.size + 1) = s.size + 1 := if_neg (by omega)
def sfOk (s : ByteArray) : Prop := s.size ≤ 600 ∧ (∀ j, j < s.size → 32 ≤ bt s j ∧ bt s j ≤ 126) ∧ (ff s).length ≤ 24
open Classical in
noncomputable def sfB (s : ByteArray) : Bool := decide (sfOk s)
noncomputable def sfL (s : ByteArray) : List ByteArray := if sfB s = true then subs s (ff s) else []
theorem sfB_t {s : ByteArray} (h : sfOk s) : sfB s = true := by unfold sfB; exact @decide_eq_true _ (_) h
theorem sfB_f {s : ByteArray} (h : ¬ sfOk s) : sfB s = false := by unfold sfB; exact @decide_eq_false _ (_) h
theorem sfL_t {s : ByteArray} (h : sfOk s) : sfL s = subs s (ff s) := by unfold sfL; rw [sfB_t h, if_pos rfl]
theorem sfL_f {s : ByteArray} (h : ¬ sfOk s) : sfL s = [] := by unfold sfL; rw [sfB_f h, if_neg (by simp)]
/-- what SplitFields hands back -/
def Fields (s : ByteArray) (w : World) (e : Ending) (w' : World) : Prop := ∃ (A : Option Addr) (n c : Nat), e = .returned (.tuple #[.slice A n c, .bool (sfB s)]) ∧ OwnZ w' w.heap.size A n c (sfL s) ∧ Below w.heap.size w w'
theorem Fields.no {s : ByteArray} {w w' : World} {A : Option Addr} {c : Nat} (h : ¬ sfOk s) (ho : OwnZ w' w.heap.size A 0 c []) (hb : Below w.heap.size w w') : Fields s w (.returned (.tuple #[.slice A 0 c, .bool false])) w' :=
  ⟨A, 0, c, by rw [sfB_f h], by rw [sfL_f h]; exact ho, hb⟩
theorem Fields.yes {s : ByteArray} {w w' : World} {A : Option Addr} {n c : Nat} (h : sfOk s) (ho : OwnZ w' w.heap.size A n c (subs s (ff s))) (hb : Below w.heap.size w w') : Fields s w (.returned (.tuple #[.slice A n c, .bool true])) w' :=
  ⟨A, n, c, by rw [sfB_t h], by rw [sfL_t h]; exact ho, hb⟩
theorem sf_char {s : ByteArray} {k : Nat} (hk : k < s.size) (h : bt s k < 32 ∨ 126 < bt s k) : ¬ sfOk s := fun hf => by have := hf.2.1 k hk; omega

set_option maxHeartbeats 400000 in
theorem spec_SplitFields_no (s : ByteArray) (w : World) (h : 600 < s.size) (hs : s.size ≤ maxLen) :
    Calls Tryd.prog 22 #[.string s] w (Fields s w) := by
  unfold maxLen at hs
  have HN := Lib.hid (show ¬ sfOk s from fun hf => by have := hf.1; omega)
  have h1 : (600 : Int) < (s.size : Int) := by omega
  go_enter Tryd.func22, Tryd.ntmps22
  go_wp2
  go_ret2
  exact Fields.no HN.out (OwnG.empty (Nat.le_refl _)) ((Below.refl _ _).alloc (Nat.le_refl _) _)
set_option maxHeartbeats 400000 in
theorem impl_SplitFields_no (s : ByteArray) (w : World) (h : 600 < s.size) (hs : s.size ≤ maxLen) :
    Calls Tryd.prog 21 #[.string s] w (Fields s w) := by
  unfold maxLen at hs
  have HN := Lib.hid (show ¬ sfOk s from fun hf => by have := hf.1; omega)
  have h1 : (600 : Int) < (s.size : Int) := by omega
  go_enter Tryd.func21, Tryd.ntmps21
  go_wp2
  go_ret2
  exact Fields.no HN.out OwnG.nil_ (Below.refl _ _)

set_option maxRecDepth 100000 in
set_option maxHeartbeats 2000000 in
theorem spec_SplitFields_yes (s : ByteArray) (w : World) (hs : s.size ≤ 600) :
    Calls Tryd.prog 22 #[.string s] w (Fields s w) := by
  go_enter Tryd.func22, Tryd.ntmps22
  go_wp2
  go_loopw [4, 5, 6] (fun v b i wr => ∃ (k m c : Nat) (A : Option Addr), k ≤ s.size + 1 ∧ m ≤ k ∧ i = .int .i64 k ∧ b = .int .i64 (bgS s k) ∧ v = .slice A m c ∧ Hid (OwnZ wr w.heap.size A m c (subs s (flS s k))) ∧ Hid (∀ q, q < k → q < s.size → 32 ≤ bt s q ∧ bt s q ≤ 126) ∧ Hid (Below w.heap.size w wr)) (fun _ _ i _ => s.size + 1 - (intOf i).toNat)
  case atStart => exact ⟨0, 0, 0, some ⟨w.heap.size, 0, none⟩, by omega, by omega, rfl, rfl, rfl, OwnG.empty (Nat.le_refl _), fun q hq => absurd hq (by omega), (Below.refl _ _).alloc (Nat.le_refl _) _⟩
  case round =>
    obtain ⟨k, m, c, A, hk, hm, rfl, rfl, rfl, ho, hp, hb⟩ := hrel
    by_cases hlt : k < s.size
    · have hbv := bt_get hlt
      have e0 := bgS_in (s := s) (k := k) (by omega)
      rw [e0]
      clear e0
      have HO := Lib.hid (show OwnZ wr w.heap.size A m c (subs s (fl s k)) by rw [← flS_in (s := s) (k := k) (by omega)]; exact ho.out)
      clear ho
      have hbl := bg_le s k
      have L1 : (k : Int) ≤ (s.size : Int) := by omega
      by_cases hbad : bt s k < 32 ∨ 126 < bt s k
      · have HN := Lib.hid (sf_char hlt hbad)
        by_cases hb1 : bt s k < 32
        · have d1 : (s[k].toNat : Int) < 32 := by omega
          clear hbad hb1 hbv
          go_wp2
          go_ret2
          exact Fields.no HN.out (OwnG.empty hb.out.size) (hb.out.alloc hb.out.size _)
        · have d1 : ¬ (s[k].toNat : Int) < 32 := by omega
          have d2 : (126 : Int) < (s[k].toNat : Int) := by omega
          clear hbad hb1 hbv
          go_wp2
          go_ret2
          exact Fields.no HN.out (OwnG.empty hb.out.size) (hb.out.alloc hb.out.size _)
      · have HP := Lib.hid (show ∀ q, q < k + 1 → q < s.size → 32 ≤ bt s q ∧ bt s q ≤ 126 from fun q hq hqs => by
          by_cases hqk : q = k
          · subst hqk; omega
          · exact hp.out q (by omega) hqs)
        have d1 : ¬ (s[k].toNat : Int) < 32 := by omega
        have d2 : ¬ (126 : Int) < (s[k].toNat : Int) := by omega
        by_cases hsp : bt s k = 32
        · have q1 : ((s[k].toNat : Int) != 32) = false := by rw [hbv, hsp]; rfl
          have HSP := Lib.hid hsp
          clear hbad hsp hbv
          by_cases hbeg : bg s k < k
          · have L2 : (bg s k : Int) < (k : Int) := by omega
            have L3 : (bg s k : Int) ≤ (k : Int) := by omega
            go_wp2_with (at_builtin; refine wpList_pushZ _ (s.extract (bg s k) k) rfl _ _ rfl w.heap.size A m c _ (by rfl) HO.out (by rfl) (by rfl) (by omega) hb.out.size ?_; intro g4 c4 w4 ho4 hg4 _; have HO4 := Lib.hid ho4; have HB4 := Lib.hid (hb.out.trans (HO.out.belowOwn hg4 hb.out.size)); clear ho4 hg4)
            go_roundw
            case rel => exact ⟨k + 1, m + 1, c4, _, by omega, by omega, by go_num, (by rw [bgS_in (by omega), bg_sp HSP.out]; go_num), rfl, by rw [flS_in (by omega), fl_hit HSP.out hbeg, subs_snoc]; exact HO4.out, HP.out, HB4.out⟩
            case measure => simp [intOf]; omega
          · have L2 : ¬ (bg s k : Int) < (k : Int) := by omega
            go_wp2
            go_roundw
            case rel => exact ⟨k + 1, m, c, A, by omega, by omega, by go_num, (by rw [bgS_in (by omega), bg_sp HSP.out]; go_num), rfl, by rw [flS_in (by omega), fl_sp hbeg]; exact HO.out, HP.out, hb.out⟩
            case measure => simp [intOf]; omega
        · have q1 : ((s[k].toNat : Int) != 32) = true := by
            rw [bne_iff_ne]; omega
          have HSP := Lib.hid hsp
          clear hbad hsp hbv
          go_wp2
          go_roundw
          case rel => exact ⟨k + 1, m, c, A, by omega, by omega, by go_num, (by rw [bgS_in (by omega), bg_ch HSP.out]), rfl, by rw [flS_in (by omega), fl_ch HSP.out]; exact HO.out, HP.out, hb.out⟩
          case measure => simp [intOf]; omega
    · by_cases hend : k = s.size
      · subst hend
        have e0 := bgS_in (s := s) (Nat.le_refl s.size)
        rw [e0]
        clear e0
        have HO := Lib.hid (show OwnZ wr w.heap.size A m c (subs s (fl s s.size)) by rw [← flS_in (s := s) (Nat.le_refl s.size)]; exact ho.out)
        clear ho
        have HP := Lib.hid (show ∀ q, q < s.size + 1 → q < s.size → 32 ≤ bt s q ∧ bt s q ≤ 126 from fun q _ hqs => hp.out q hqs hqs)
        by_cases hbeg : bg s s.size < s.size
        · have L2 : (bg s s.size : Int) < (s.size : Int) := by omega
          have L3 : (bg s s.size : Int) ≤ (s.size : Int) := by omega
          have HF := Lib.hid (show flS s (s.size + 1) = fl s s.size ++ [(bg s s.size, s.size)] by rw [flS_end, ff, if_pos hbeg])
          go_wp2_with (at_builtin; refine wpList_pushZ _ (s.extract (bg s s.size) s.size) rfl _ _ rfl w.heap.size A m c _ (by rfl) HO.out (by rfl) (by rfl) (by omega) hb.out.size ?_; intro g4 c4 w4 ho4 hg4 _; have HO4 := Lib.hid ho4; have HB4 := Lib.hid (hb.out.trans (HO.out.belowOwn hg4 hb.out.size)); clear ho4 hg4)
          go_roundw
          case rel => exact ⟨s.size + 1, m + 1, c4, _, by omega, by omega, by go_num, (by rw [bgS_end]; go_num), rfl, by rw [HF.out, subs_snoc]; exact HO4.out, HP.out, HB4.out⟩
          case measure => (simp [intOf] <;> omega)
        · have L2 : ¬ (bg s s.size : Int) < (s.size : Int) := by omega
          have HF := Lib.hid (show flS s (s.size + 1) = fl s s.size by rw [flS_end, ff, if_neg hbeg])
          go_wp2
          go_roundw
          case rel => exact ⟨s.size + 1, m, c, A, by omega, by omega, by go_num, (by rw [bgS_end]; go_num), rfl, by rw [HF.out]; exact HO.out, HP.out, hb.out⟩
          case measure => (simp [intOf] <;> omega)
      · obtain rfl : k = s.size + 1 := by omega
        have HO := Lib.hid (show OwnZ wr w.heap.size A m c (subs s (ff s)) by rw [← flS_end]; exact ho.out)
        clear ho
        have hml := HO.out.len
        rw [subs_len] at hml
        have HM := Lib.hid hml
        clear hml
        have L1 : ¬ ((s.size + 1 : Nat) : Int) ≤ (s.size : Int) := by omega
        by_cases h24 : 24 < m
        · have HN := Lib.hid (show ¬ sfOk s from fun hf => by have h1 := hf.2.2; have h2 := HM.out; omega)
          have L2 : (24 : Int) < (m : Int) := by omega
          go_wp2
          go_ret2
          exact Fields.no HN.out (OwnG.empty hb.out.size) (hb.out.alloc hb.out.size _)
        · have HN := Lib.hid (show sfOk s from ⟨hs, fun q hq => hp.out q (by omega) hq, by rw [HM.out]; omega⟩)
          have L2 : ¬ (24 : Int) < (m : Int) := by omega
          go_wp2
          go_ret2
          exact Fields.yes HN.out HO.out hb.out
theorem spec_SplitFields (s : ByteArray) (w : World) (hs : s.size ≤ maxLen) : Calls Tryd.prog 22 #[.string s] w (Fields s w) := by
  by_cases h : 600 < s.size
  · exact spec_SplitFields_no s w h hs
  · exact spec_SplitFields_yes s w (by omega)

/-- the program's state: the open field's beginning, or -1 -/
def fr (s : ByteArray) (k : Nat) : Int := if bg s k < k then (bg s k : Int) else -1
theorem fr_t {s : ByteArray} {k : Nat} (h : bg s k < k) : fr s k = (bg s k : Int) := if_pos h
theorem fr_f {s : ByteArray} {k : Nat} (h : ¬ bg s k < k) : fr s k = -1 := if_neg h
theorem fr_sp {s : ByteArray} {k : Nat} (h : bt s k = 32) : fr s (k + 1) = -1 := fr_f (by rw [bg_sp h]; omega)
theorem fr_ch {s : ByteArray} {k : Nat} (h : bt s k ≠ 32) (h' : bg s k < k) : fr s (k + 1) = (bg s k : Int) := by rw [fr_t (by rw [bg_ch h]; omega), bg_ch h]
theorem fr_new {s : ByteArray} {k : Nat} (h : bt s k ≠ 32) (h' : ¬ bg s k < k) : fr s (k + 1) = (k : Int) := by
  have := bg_le s k
  rw [fr_t (by rw [bg_ch h]; omega), bg_ch h]; omega

set_option maxRecDepth 100000 in
set_option maxHeartbeats 2000000 in
theorem impl_SplitFields_yes (s : ByteArray) (w : World) (hs : s.size ≤ 600) :
    Calls Tryd.prog 21 #[.string s] w (Fields s w) := by
  go_enter Tryd.func21, Tryd.ntmps21
  go_wp2
  go_loopw [4, 5, 13] (fun v b i wr => ∃ (k m c : Nat) (A : Option Addr), k ≤ s.size ∧ m ≤ k ∧ i = .int .i64 k ∧ b = .int .i64 (fr s k) ∧ v = .slice A m c ∧ Hid (OwnZ wr w.heap.size A m c (subs s (fl s k))) ∧ Hid (∀ q, q < k → 32 ≤ bt s q ∧ bt s q ≤ 126) ∧ Hid (Below w.heap.size w wr)) (fun _ _ i _ => s.size - (intOf i).toNat)
  case atStart => exact ⟨0, 0, 0, some ⟨w.heap.size, 0, none⟩, by omega, by omega, rfl, (by rw [fr_f (by rw [bg]; omega)]), rfl, OwnG.empty (Nat.le_refl _), fun q hq => absurd hq (by omega), (Below.refl _ _).alloc (Nat.le_refl _) _⟩
  case round =>
    obtain ⟨k, m, c, A, hk, hm, rfl, rfl, rfl, HO, hp, hb⟩ := hrel
    have hbl := bg_le s k
    by_cases hlt : k < s.size
    · have hbv := bt_get hlt
      by_cases hbad : bt s k < 32 ∨ 126 < bt s k
      · have HN := Lib.hid (sf_char hlt hbad)
        by_cases hb1 : bt s k < 32
        · have d1 : (s[k].toNat : Int) < 32 := by omega
          clear hbad hb1 hbv
          go_wp2
          go_ret2
          exact Fields.no HN.out OwnG.nil_ hb.out
        · have d1 : ¬ (s[k].toNat : Int) < 32 := by omega
          have d2 : (126 : Int) < (s[k].toNat : Int) := by omega
          clear hbad hb1 hbv
          go_wp2
          go_ret2
          exact Fields.no HN.out OwnG.nil_ hb.out
      · have HP := Lib.hid (show ∀ q, q < k + 1 → 32 ≤ bt s q ∧ bt s q ≤ 126 from fun q hq => by
          by_cases hqk : q = k
          · subst hqk; omega
          · exact hp.out q (by omega))
        have d1 : ¬ (s[k].toNat : Int) < 32 := by omega
        have d2 : ¬ (126 : Int) < (s[k].toNat : Int) := by omega
        by_cases hsp : bt s k = 32
        · have q1 : ((s[k].toNat : Int) == 32) = true := by rw [hbv, hsp]; rfl
          have HSP := Lib.hid hsp
          clear hbad hsp hbv
          by_cases hbeg : bg s k < k
          · rw [fr_t hbeg]
            have L3 : (bg s k : Int) ≤ (k : Int) := by omega
            have L4 : (k : Int) ≤ (s.size : Int) := by omega
            go_wp2_with (at_builtin; refine wpList_pushZ _ (s.extract (bg s k) k) rfl _ _ rfl w.heap.size A m c _ (by rfl) HO.out (by rfl) (by rfl) (by omega) hb.out.size ?_; intro g4 c4 w4 ho4 hg4 _; have HO4 := Lib.hid ho4; have HB4 := Lib.hid (hb.out.trans (HO.out.belowOwn hg4 hb.out.size)); clear ho4 hg4)
            go_roundw
            case rel => exact ⟨k + 1, m + 1, c4, _, by omega, by omega, by go_num, (by rw [fr_sp HSP.out]), rfl, by rw [fl_hit HSP.out hbeg, subs_snoc]; exact HO4.out, HP.out, HB4.out⟩
            case measure => simp [intOf]; omega
          · rw [fr_f hbeg]
            go_wp2
            go_roundw
            case rel => exact ⟨k + 1, m, c, A, by omega, by omega, by go_num, (by rw [fr_sp HSP.out]), rfl, by rw [fl_sp hbeg]; exact HO.out, HP.out, hb.out⟩
            case measure => simp [intOf]; omega
        · have q1 : ((s[k].toNat : Int) == 32) = false := by
            rw [beq_eq_false_iff_ne]; omega
          have HSP := Lib.hid hsp
          clear hbad hsp hbv
          by_cases hbeg : bg s k < k
          · rw [fr_t hbeg]
            go_wp2
            go_roundw
            case rel => exact ⟨k + 1, m, c, A, by omega, by omega, by go_num, (by rw [fr_ch HSP.out hbeg]), rfl, by rw [fl_ch HSP.out]; exact HO.out, HP.out, hb.out⟩
            case measure => simp [intOf]; omega
          · rw [fr_f hbeg]
            go_wp2
            go_roundw
            case rel => exact ⟨k + 1, m, c, A, by omega, by omega, by go_num, (by rw [fr_new HSP.out hbeg]), rfl, by rw [fl_ch HSP.out]; exact HO.out, HP.out, hb.out⟩
            case measure => simp [intOf]; omega
    · obtain rfl : k = s.size := by omega
      have HP := Lib.hid (show ∀ q, q < s.size → 32 ≤ bt s q ∧ bt s q ≤ 126 from hp.out)
      have hml := HO.out.len
      rw [subs_len] at hml
      have HM := Lib.hid hml
      clear hml
      by_cases hbeg : bg s s.size < s.size
      · rw [fr_t hbeg]
        have HF := Lib.hid (show ff s = fl s s.size ++ [(bg s s.size, s.size)] by rw [ff, if_pos hbeg])
        have HFL := Lib.hid (show (ff s).length = m + 1 by rw [HF.out, List.length_append, HM.out]; rfl)
        have L3 : (bg s s.size : Int) ≤ (s.size : Int) := by omega
        by_cases h24 : 24 < m + 1
        · have HN := Lib.hid (show ¬ sfOk s from fun hf => by have h1 := hf.2.2; have h2 := HFL.out; omega)
          have L2 : (24 : Int) < ((m + 1 : Nat) : Int) := by omega
          have L5 : (24 : Int) < (m : Int) + 1 := by omega
          go_wp2_with (at_builtin; refine wpList_pushZ _ (s.extract (bg s s.size) s.size) rfl _ _ rfl w.heap.size A m c _ (by rfl) HO.out (by rfl) (by rfl) (by omega) hb.out.size ?_; intro g4 c4 w4 ho4 hg4 _; have HO4 := Lib.hid ho4; have HB4 := Lib.hid (hb.out.trans (HO.out.belowOwn hg4 hb.out.size)); clear ho4 hg4)
          go_ret2
          exact Fields.no HN.out OwnG.nil_ HB4.out
        · have HN := Lib.hid (show sfOk s from ⟨hs, fun q hq => hp.out q hq, by rw [HFL.out]; omega⟩)
          have L2 : ¬ (24 : Int) < ((m + 1 : Nat) : Int) := by omega
          have L5 : ¬ (24 : Int) < (m : Int) + 1 := by omega
          go_wp2_with (at_builtin; refine wpList_pushZ _ (s.extract (bg s s.size) s.size) rfl _ _ rfl w.heap.size A m c _ (by rfl) HO.out (by rfl) (by rfl) (by omega) hb.out.size ?_; intro g4 c4 w4 ho4 hg4 _; have HO4 := Lib.hid ho4; have HB4 := Lib.hid (hb.out.trans (HO.out.belowOwn hg4 hb.out.size)); clear ho4 hg4)
          go_ret2
          exact Fields.yes HN.out (by rw [HF.out, subs_snoc]; exact HO4.out) HB4.out
      · rw [fr_f hbeg]
        have HF := Lib.hid (show ff s = fl s s.size by rw [ff, if_neg hbeg])
        by_cases h24 : 24 < m
        · have HN := Lib.hid (show ¬ sfOk s from fun hf => by have h1 := hf.2.2; rw [HF.out, HM.out] at h1; omega)
          have L2 : (24 : Int) < (m : Int) := by omega
          go_wp2
          go_ret2
          exact Fields.no HN.out OwnG.nil_ hb.out
        · have HN := Lib.hid (show sfOk s from ⟨hs, fun q hq => hp.out q hq, by rw [HF.out, HM.out]; omega⟩)
          have L2 : ¬ (24 : Int) < (m : Int) := by omega
          go_wp2
          go_ret2
          exact Fields.yes HN.out (by rw [HF.out]; exact HO.out) hb.out
theorem impl_SplitFields (s : ByteArray) (w : World) (hs : s.size ≤ maxLen) : Calls Tryd.prog 21 #[.string s] w (Fields s w) := by
  by_cases h : 600 < s.size
  · exact impl_SplitFields_no s w h hs
  · exact impl_SplitFields_yes s w (by omega)
end Go.Proofs.YteoddpdjhkbaiaaDoor
