/- Layouts: the plain law of FnLayouts. All common sides together are the seams; a layout turned four times is the layout. No condition. -/
import Derived.Test.YtlcllpgbpjdofaaBe
import Derived.Test.YtlcllpgbpjdofaaTu
import Derived.Test.YtlcllpgbpjdofaaKp
set_option linter.unusedSimpArgs false
set_option linter.unusedVariables false
set_option maxRecDepth 100000
namespace Go.Proofs.Ytlcllpgbpjdofaa
open Go.RowKit

theorem sumN_zero {f : Nat → Nat} {n : Nat} (h : ∀ i, i < n → f i = 0) : sumN f n = 0 := by
  rw [sumN_congr h, sumN_const]; omega
theorem sumN_swap (f : Nat → Nat → Nat) (n m : Nat) : sumN (fun i => sumN (fun j => f i j) m) n = sumN (fun j => sumN (fun i => f i j) n) m := by
  induction n with
  | zero => exact (sumN_zero (fun j _ => rfl)).symm
  | succ n ih => simp only [sumN]; rw [ih, ← sumN_add]
theorem sumN_pairs (f : Nat → Nat → Nat) (n : Nat) : sumN (fun i => sumN (fun k => f i k + f k i) i) n + sumN (fun i => f i i) n = sumN (fun i => sumN (fun k => f i k) n) n := by
  induction n with
  | zero => rfl
  | succ n ih =>
    have e : sumN (fun k => f n k) n = sumN (f n) n := rfl
    simp only [sumN, sumN_add] at ih ⊢
    omega
theorem cnt_sum (ps : List Pt) (x y : Int) : ∀ k, k ≤ ps.length → cntP (ps.take k) x y = sumN (fun i => if hasP (pith ps i) x y = true then 1 else 0) k := by
  intro k
  induction k with
  | zero => intro _; simp [cntP, sumN]
  | succ k ih => intro h; rw [cntP_succ (by omega), ih (by omega), sumN]
theorem cnt_all (ps : List Pt) (x y : Int) : cntP ps x y = sumN (fun i => if hasP (pith ps i) x y = true then 1 else 0) ps.length := by
  have := cnt_sum ps x y ps.length (Nat.le_refl _)
  rwa [List.take_length] at this
theorem lay_once {z y : Int} {ps : List Pt} (h : layB z y ps = true) : once z y ps := (LayP_once (layB_p h).1 (layB_p h).2.1).1 (layB_p h)
theorem once_at {z y : Int} {ps : List Pt} (h : layB z y ps = true) {u v : Int} (h1 : 0 ≤ u) (h2 : u < z) (h3 : 0 ≤ v) (h4 : v < y) : cntP ps u v = 1 := by
  have := lay_once h v.toNat (by omega) u.toNat (by omega)
  rwa [Int.toNat_of_nonneg h1, Int.toNat_of_nonneg h3] at this
theorem ovl_comm (p q : Pt) : ovl p q = ovl q p := by
  rw [Bool.eq_iff_iff, ovl_t, ovl_t]
  constructor <;> rintro ⟨a, b, c, d⟩ <;> exact ⟨b, a, d, c⟩
theorem lay_apart {z y : Int} {ps : List Pt} (h : layB z y ps = true) {i k : Nat} (hi : i < ps.length) (hk : k < ps.length) (hne : i ≠ k) : ovl (pith ps i) (pith ps k) = false := by
  have ho := (layB_p h).2.2.1
  rcases Nat.lt_or_gt_of_ne hne with h1 | h1
  · rw [ovl_comm]; exact ho k hk i h1
  · exact ho i hi k h1
theorem has_one {z y : Int} {ps : List Pt} (h : layB z y ps = true) {i k : Nat} (hi : i < ps.length) (hk : k < ps.length) {u v : Int} (h1 : hasP (pith ps i) u v = true) (h2 : hasP (pith ps k) u v = true) : i = k := by
  rcases Nat.decEq i k with hne | e
  · exfalso
    have h3 := lay_apart h hi hk hne
    have h1 := hasP_t.1 h1
    have h2 := hasP_t.1 h2
    have h4 : ovl (pith ps i) (pith ps k) = true := ovl_t.2 (by omega)
    rw [h3] at h4; cases h4
  · exact e
/-- each square lies in just one patch -/
theorem at_once {z y : Int} {ps : List Pt} (h : layB z y ps = true) {u v : Int} (h1 : 0 ≤ u) (h2 : u < z) (h3 : 0 ≤ v) (h4 : v < y) : ∃ k, k < ps.length ∧ patchAtB z y ps u v = (k : Int) ∧ hasP (pith ps k) u v = true ∧ ∀ j, j < ps.length → j ≠ k → hasP (pith ps j) u v = false := by
  obtain ⟨p, hp, hh⟩ := cnt_pos (once_at h h1 h2 h3 h4)
  obtain ⟨k, hk, e⟩ := List.getElem_of_mem hp
  have hh' : hasP (pith ps k) u v = true := by rw [pith_get hk, e]; exact hh
  have hot : ∀ j, j < ps.length → j ≠ k → hasP (pith ps j) u v = false := by
    intro j hj hne
    cases hq : hasP (pith ps j) u v with
    | false => rfl
    | true => exact absurd (has_one h hj hk hq hh') hne
  refine ⟨k, hk, ?_, hh', hot⟩
  rw [patchAtB_t h]
  exact atP_hit hk (fun j hj => hot j (by omega) (by omega)) hh'

def inY (p : Pt) (b : Int) : Bool := decide (p.y ≤ b) && decide (b < p.y + p.h)
theorem inY_t {p : Pt} {b : Int} : inY p b = true ↔ p.y ≤ b ∧ b < p.y + p.h := by simp [inY]
def endsY (p q : Pt) (b : Int) : Prop := p.x + p.w = q.x ∧ inY p b = true ∧ inY q b = true
instance (p q : Pt) (b : Int) : Decidable (endsY p q b) := by unfold endsY; exact inferInstance
def nbY (ps : List Pt) (n i k : Nat) : Nat := sumN (fun b => if endsY (pith ps i) (pith ps k) (b : Nat) then 1 else 0) n
theorem edgeY {z y : Int} {p : Pt} (h : okPt z y p = true) (b : Nat) : (if inY p (b : Nat) = true ∧ 0 < p.x then 1 else 0) + (if hasP p 0 (b : Nat) = true then 1 else 0) = if inY p (b : Nat) = true then 1 else 0 := by
  obtain ⟨c1, c2, c3, c4, c5, c6, _, _⟩ := okPt_t h
  by_cases hi : inY p (b : Nat) = true
  · have hy := inY_t.1 hi
    rw [if_pos hi]
    by_cases hx : 0 < p.x
    · rw [if_pos ⟨hi, hx⟩, if_neg (fun g => by have := hasP_t.1 g; omega)]
    · rw [if_neg (fun g => hx g.2), if_pos (hasP_t.2 (by omega))]
  · rw [if_neg (fun g => hi g.1), if_neg hi, if_neg (fun g => hi (inY_t.2 (by have := hasP_t.1 g; omega)))]
theorem rowY {z y : Int} {ps : List Pt} (hl : layB z y ps = true) {b : Nat} (hb : (b : Int) < y) :
    sumN (fun k => sumN (fun i => if endsY (pith ps i) (pith ps k) (b : Nat) then 1 else 0) ps.length) ps.length + 1 = sumN (fun k => if inY (pith ps k) (b : Nat) = true then 1 else 0) ps.length := by
  obtain ⟨b1, b2, b3, b4, _, _⟩ := dimOk_t (layB_p hl).1
  have hok := (layB_p hl).2.1
  have e1 : ∀ k, k < ps.length → sumN (fun i => if endsY (pith ps i) (pith ps k) (b : Nat) then 1 else 0) ps.length = if inY (pith ps k) (b : Nat) = true ∧ 0 < (pith ps k).x then 1 else 0 := by
    intro k hk
    obtain ⟨c1, c2, c3, c4, c5, c6, _, _⟩ := okPt_t (hok k hk)
    by_cases hq : inY (pith ps k) (b : Nat) = true ∧ 0 < (pith ps k).x
    · rw [if_pos hq]
      have hy := inY_t.1 hq.1
      have h1 := once_at hl (u := (pith ps k).x - 1) (v := (b : Nat)) (by omega) (by omega) (by omega) hb
      rw [cnt_all] at h1
      refine Eq.trans (sumN_congr (fun i hi => ?_)) h1
      obtain ⟨d1, d2, d3, d4, d5, d6, _, _⟩ := okPt_t (hok i hi)
      have hiff : endsY (pith ps i) (pith ps k) (b : Nat) ↔ hasP (pith ps i) ((pith ps k).x - 1) (b : Nat) = true := by
        constructor
        · rintro ⟨g1, g2, _⟩
          have g2 := inY_t.1 g2
          exact hasP_t.2 (by omega)
        · intro g
          have g1 := hasP_t.1 g
          refine ⟨?_, inY_t.2 (by omega), hq.1⟩
          rcases Int.lt_or_le (pith ps k).x ((pith ps i).x + (pith ps i).w) with hlt | hle
          · exfalso
            have g2 : hasP (pith ps i) (pith ps k).x (b : Nat) = true := hasP_t.2 (by omega)
            have g3 : hasP (pith ps k) (pith ps k).x (b : Nat) = true := hasP_t.2 (by omega)
            have := has_one hl hi hk g2 g3
            subst this
            omega
          · omega
      by_cases hc : hasP (pith ps i) ((pith ps k).x - 1) (b : Nat) = true
      · rw [if_pos (hiff.2 hc), if_pos hc]
      · rw [if_neg (fun hx => hc (hiff.1 hx)), if_neg hc]
    · rw [if_neg hq]
      refine sumN_zero (fun i hi => ?_)
      obtain ⟨d1, d2, d3, d4, d5, d6, _, _⟩ := okPt_t (hok i hi)
      refine if_neg ?_
      rintro ⟨g1, g2, g3⟩
      exact hq ⟨g3, by omega⟩
  have e2 : sumN (fun k => if hasP (pith ps k) 0 (b : Nat) = true then 1 else 0) ps.length = 1 := by
    rw [← cnt_all]
    exact once_at hl (by omega) (by omega) (by omega) hb
  have h3 : sumN (fun k => if inY (pith ps k) (b : Nat) = true ∧ 0 < (pith ps k).x then 1 else 0) ps.length + sumN (fun k => if hasP (pith ps k) 0 (b : Nat) = true then 1 else 0) ps.length = sumN (fun k => if inY (pith ps k) (b : Nat) = true then 1 else 0) ps.length := by
    rw [← sumN_add]
    refine sumN_congr (fun k hk => ?_)
    exact edgeY (hok k hk) b
  rw [e2] at h3
  rw [sumN_congr e1]
  exact h3
theorem totY {z y : Int} {ps : List Pt} (hl : layB z y ps = true) : sumN (fun i => sumN (fun k => nbY ps y.toNat i k) ps.length) ps.length + y.toNat = sumN (fun k => (pith ps k).h.toNat) ps.length := by
  obtain ⟨b1, b2, b3, b4, _, _⟩ := dimOk_t (layB_p hl).1
  have hok := (layB_p hl).2.1
  have e0 : sumN (fun b => sumN (fun k => if inY (pith ps k) (b : Nat) = true then 1 else 0) ps.length) y.toNat = sumN (fun k => (pith ps k).h.toNat) ps.length := by
    rw [sumN_swap]
    refine sumN_congr (fun k hk => ?_)
    obtain ⟨c1, c2, c3, c4, c5, c6, _, _⟩ := okPt_t (hok k hk)
    rw [← sumN_range (pith ps k).y.toNat (pith ps k).h.toNat y.toNat (by omega)]
    refine sumN_congr (fun b hb => ?_)
    by_cases hi : inY (pith ps k) (b : Nat) = true
    · rw [if_pos hi, if_pos (by have := inY_t.1 hi; omega)]
    · rw [if_neg hi, if_neg (fun g => hi (inY_t.2 (by omega)))]
  have e1 : sumN (fun b => sumN (fun k => sumN (fun i => if endsY (pith ps i) (pith ps k) (b : Nat) then 1 else 0) ps.length) ps.length + 1) y.toNat = sumN (fun b => sumN (fun k => if inY (pith ps k) (b : Nat) = true then 1 else 0) ps.length) y.toNat :=
    sumN_congr (fun b hb => rowY hl (by omega))
  rw [sumN_add, sumN_const, e0, sumN_swap] at e1
  have e2 : sumN (fun k => sumN (fun b => sumN (fun i => if endsY (pith ps i) (pith ps k) (b : Nat) then 1 else 0) ps.length) y.toNat) ps.length = sumN (fun i => sumN (fun k => nbY ps y.toNat i k) ps.length) ps.length := by
    rw [sumN_swap (fun i k => nbY ps y.toNat i k)]
    refine sumN_congr (fun k hk => ?_)
    rw [sumN_swap]; rfl
  rw [e2] at e1
  omega
theorem nbY_eq {z y : Int} {ps : List Pt} (hl : layB z y ps = true) {i k : Nat} (hi : i < ps.length) (hk : k < ps.length) : nbY ps y.toNat i k = if (pith ps i).x + (pith ps i).w = (pith ps k).x then (comm (pith ps i).y (pith ps i).h (pith ps k).y (pith ps k).h).toNat else 0 := by
  have hok := (layB_p hl).2.1
  obtain ⟨c1, c2, c3, c4, c5, c6, _, _⟩ := okPt_t (hok k hk)
  obtain ⟨d1, d2, d3, d4, d5, d6, _, _⟩ := okPt_t (hok i hi)
  unfold nbY
  by_cases he : (pith ps i).x + (pith ps i).w = (pith ps k).x
  · rw [if_pos he]
    by_cases hp : 0 < comm (pith ps i).y (pith ps i).h (pith ps k).y (pith ps k).h
    · unfold comm at hp ⊢
      refine Eq.trans ?_ (sumN_range (max (pith ps i).y (pith ps k).y).toNat (min ((pith ps i).y + (pith ps i).h) ((pith ps k).y + (pith ps k).h) - max (pith ps i).y (pith ps k).y).toNat y.toNat (by omega))
      refine sumN_congr (fun b hb => ?_)
      by_cases g : endsY (pith ps i) (pith ps k) (b : Nat)
      · rw [if_pos g]
        obtain ⟨_, g2, g3⟩ := g
        have g2 := inY_t.1 g2
        have g3 := inY_t.1 g3
        rw [if_pos (by omega)]
      · rw [if_neg g, if_neg (fun g2 => g ⟨he, inY_t.2 (by omega), inY_t.2 (by omega)⟩)]
    · rw [sumN_zero (fun b hb => ?_)]
      · omega
      · refine if_neg ?_
        rintro ⟨_, g2, g3⟩
        have g2 := inY_t.1 g2
        have g3 := inY_t.1 g3
        unfold comm at hp
        omega
  · rw [if_neg he]
    exact sumN_zero (fun b hb => if_neg (fun g => he g.1))
theorem nbY_self {z y : Int} {ps : List Pt} (hl : layB z y ps = true) {i : Nat} (hi : i < ps.length) : nbY ps y.toNat i i = 0 := by
  obtain ⟨d1, d2, d3, d4, d5, d6, _, _⟩ := okPt_t ((layB_p hl).2.1 i hi)
  rw [nbY_eq hl hi hi, if_neg (by omega)]
theorem pairsY {z y : Int} {ps : List Pt} (hl : layB z y ps = true) : sumN (fun i => sumN (fun k => nbY ps y.toNat i k + nbY ps y.toNat k i) i) ps.length + y.toNat = sumN (fun k => (pith ps k).h.toNat) ps.length := by
  have h1 := sumN_pairs (nbY ps y.toNat) ps.length
  rw [sumN_zero (fun i hi => nbY_self hl hi), Nat.add_zero] at h1
  rw [h1]; exact totY hl

def inX (p : Pt) (b : Int) : Bool := decide (p.x ≤ b) && decide (b < p.x + p.w)
theorem inX_t {p : Pt} {b : Int} : inX p b = true ↔ p.x ≤ b ∧ b < p.x + p.w := by simp [inX]
def endsX (p q : Pt) (b : Int) : Prop := p.y + p.h = q.y ∧ inX p b = true ∧ inX q b = true
instance (p q : Pt) (b : Int) : Decidable (endsX p q b) := by unfold endsX; exact inferInstance
def nbX (ps : List Pt) (n i k : Nat) : Nat := sumN (fun b => if endsX (pith ps i) (pith ps k) (b : Nat) then 1 else 0) n
theorem edgeX {z y : Int} {p : Pt} (h : okPt z y p = true) (b : Nat) : (if inX p (b : Nat) = true ∧ 0 < p.y then 1 else 0) + (if hasP p (b : Nat) 0 = true then 1 else 0) = if inX p (b : Nat) = true then 1 else 0 := by
  obtain ⟨c1, c2, c3, c4, c5, c6, _, _⟩ := okPt_t h
  by_cases hi : inX p (b : Nat) = true
  · have hy := inX_t.1 hi
    rw [if_pos hi]
    by_cases hx : 0 < p.y
    · rw [if_pos ⟨hi, hx⟩, if_neg (fun g => by have := hasP_t.1 g; omega)]
    · rw [if_neg (fun g => hx g.2), if_pos (hasP_t.2 (by omega))]
  · rw [if_neg (fun g => hi g.1), if_neg hi, if_neg (fun g => hi (inX_t.2 (by have := hasP_t.1 g; omega)))]
theorem rowX {z y : Int} {ps : List Pt} (hl : layB z y ps = true) {b : Nat} (hb : (b : Int) < z) :
    sumN (fun k => sumN (fun i => if endsX (pith ps i) (pith ps k) (b : Nat) then 1 else 0) ps.length) ps.length + 1 = sumN (fun k => if inX (pith ps k) (b : Nat) = true then 1 else 0) ps.length := by
  obtain ⟨b1, b2, b3, b4, _, _⟩ := dimOk_t (layB_p hl).1
  have hok := (layB_p hl).2.1
  have e1 : ∀ k, k < ps.length → sumN (fun i => if endsX (pith ps i) (pith ps k) (b : Nat) then 1 else 0) ps.length = if inX (pith ps k) (b : Nat) = true ∧ 0 < (pith ps k).y then 1 else 0 := by
    intro k hk
    obtain ⟨c1, c2, c3, c4, c5, c6, _, _⟩ := okPt_t (hok k hk)
    by_cases hq : inX (pith ps k) (b : Nat) = true ∧ 0 < (pith ps k).y
    · rw [if_pos hq]
      have hy := inX_t.1 hq.1
      have h1 := once_at hl (u := (b : Nat)) (v := (pith ps k).y - 1) (by omega) hb (by omega) (by omega)
      rw [cnt_all] at h1
      refine Eq.trans (sumN_congr (fun i hi => ?_)) h1
      obtain ⟨d1, d2, d3, d4, d5, d6, _, _⟩ := okPt_t (hok i hi)
      have hiff : endsX (pith ps i) (pith ps k) (b : Nat) ↔ hasP (pith ps i) (b : Nat) ((pith ps k).y - 1) = true := by
        constructor
        · rintro ⟨g1, g2, _⟩
          have g2 := inX_t.1 g2
          exact hasP_t.2 (by omega)
        · intro g
          have g1 := hasP_t.1 g
          refine ⟨?_, inX_t.2 (by omega), hq.1⟩
          rcases Int.lt_or_le (pith ps k).y ((pith ps i).y + (pith ps i).h) with hlt | hle
          · exfalso
            have g2 : hasP (pith ps i) (b : Nat) (pith ps k).y = true := hasP_t.2 (by omega)
            have g3 : hasP (pith ps k) (b : Nat) (pith ps k).y = true := hasP_t.2 (by omega)
            have := has_one hl hi hk g2 g3
            subst this
            omega
          · omega
      by_cases hc : hasP (pith ps i) (b : Nat) ((pith ps k).y - 1) = true
      · rw [if_pos (hiff.2 hc), if_pos hc]
      · rw [if_neg (fun hx => hc (hiff.1 hx)), if_neg hc]
    · rw [if_neg hq]
      refine sumN_zero (fun i hi => ?_)
      obtain ⟨d1, d2, d3, d4, d5, d6, _, _⟩ := okPt_t (hok i hi)
      refine if_neg ?_
      rintro ⟨g1, g2, g3⟩
      exact hq ⟨g3, by omega⟩
  have e2 : sumN (fun k => if hasP (pith ps k) (b : Nat) 0 = true then 1 else 0) ps.length = 1 := by
    rw [← cnt_all]
    exact once_at hl (by omega) hb (by omega) (by omega)
  have h3 : sumN (fun k => if inX (pith ps k) (b : Nat) = true ∧ 0 < (pith ps k).y then 1 else 0) ps.length + sumN (fun k => if hasP (pith ps k) (b : Nat) 0 = true then 1 else 0) ps.length = sumN (fun k => if inX (pith ps k) (b : Nat) = true then 1 else 0) ps.length := by
    rw [← sumN_add]
    refine sumN_congr (fun k hk => ?_)
    exact edgeX (hok k hk) b
  rw [e2] at h3
  rw [sumN_congr e1]
  exact h3
theorem totX {z y : Int} {ps : List Pt} (hl : layB z y ps = true) : sumN (fun i => sumN (fun k => nbX ps z.toNat i k) ps.length) ps.length + z.toNat = sumN (fun k => (pith ps k).w.toNat) ps.length := by
  obtain ⟨b1, b2, b3, b4, _, _⟩ := dimOk_t (layB_p hl).1
  have hok := (layB_p hl).2.1
  have e0 : sumN (fun b => sumN (fun k => if inX (pith ps k) (b : Nat) = true then 1 else 0) ps.length) z.toNat = sumN (fun k => (pith ps k).w.toNat) ps.length := by
    rw [sumN_swap]
    refine sumN_congr (fun k hk => ?_)
    obtain ⟨c1, c2, c3, c4, c5, c6, _, _⟩ := okPt_t (hok k hk)
    rw [← sumN_range (pith ps k).x.toNat (pith ps k).w.toNat z.toNat (by omega)]
    refine sumN_congr (fun b hb => ?_)
    by_cases hi : inX (pith ps k) (b : Nat) = true
    · rw [if_pos hi, if_pos (by have := inX_t.1 hi; omega)]
    · rw [if_neg hi, if_neg (fun g => hi (inX_t.2 (by omega)))]
  have e1 : sumN (fun b => sumN (fun k => sumN (fun i => if endsX (pith ps i) (pith ps k) (b : Nat) then 1 else 0) ps.length) ps.length + 1) z.toNat = sumN (fun b => sumN (fun k => if inX (pith ps k) (b : Nat) = true then 1 else 0) ps.length) z.toNat :=
    sumN_congr (fun b hb => rowX hl (by omega))
  rw [sumN_add, sumN_const, e0, sumN_swap] at e1
  have e2 : sumN (fun k => sumN (fun b => sumN (fun i => if endsX (pith ps i) (pith ps k) (b : Nat) then 1 else 0) ps.length) z.toNat) ps.length = sumN (fun i => sumN (fun k => nbX ps z.toNat i k) ps.length) ps.length := by
    rw [sumN_swap (fun i k => nbX ps z.toNat i k)]
    refine sumN_congr (fun k hk => ?_)
    rw [sumN_swap]; rfl
  rw [e2] at e1
  omega
theorem nbX_eq {z y : Int} {ps : List Pt} (hl : layB z y ps = true) {i k : Nat} (hi : i < ps.length) (hk : k < ps.length) : nbX ps z.toNat i k = if (pith ps i).y + (pith ps i).h = (pith ps k).y then (comm (pith ps i).x (pith ps i).w (pith ps k).x (pith ps k).w).toNat else 0 := by
  have hok := (layB_p hl).2.1
  obtain ⟨c1, c2, c3, c4, c5, c6, _, _⟩ := okPt_t (hok k hk)
  obtain ⟨d1, d2, d3, d4, d5, d6, _, _⟩ := okPt_t (hok i hi)
  unfold nbX
  by_cases he : (pith ps i).y + (pith ps i).h = (pith ps k).y
  · rw [if_pos he]
    by_cases hp : 0 < comm (pith ps i).x (pith ps i).w (pith ps k).x (pith ps k).w
    · unfold comm at hp ⊢
      refine Eq.trans ?_ (sumN_range (max (pith ps i).x (pith ps k).x).toNat (min ((pith ps i).x + (pith ps i).w) ((pith ps k).x + (pith ps k).w) - max (pith ps i).x (pith ps k).x).toNat z.toNat (by omega))
      refine sumN_congr (fun b hb => ?_)
      by_cases g : endsX (pith ps i) (pith ps k) (b : Nat)
      · rw [if_pos g]
        obtain ⟨_, g2, g3⟩ := g
        have g2 := inX_t.1 g2
        have g3 := inX_t.1 g3
        rw [if_pos (by omega)]
      · rw [if_neg g, if_neg (fun g2 => g ⟨he, inX_t.2 (by omega), inX_t.2 (by omega)⟩)]
    · rw [sumN_zero (fun b hb => ?_)]
      · omega
      · refine if_neg ?_
        rintro ⟨_, g2, g3⟩
        have g2 := inX_t.1 g2
        have g3 := inX_t.1 g3
        unfold comm at hp
        omega
  · rw [if_neg he]
    exact sumN_zero (fun b hb => if_neg (fun g => he g.1))
theorem nbX_self {z y : Int} {ps : List Pt} (hl : layB z y ps = true) {i : Nat} (hi : i < ps.length) : nbX ps z.toNat i i = 0 := by
  obtain ⟨d1, d2, d3, d4, d5, d6, _, _⟩ := okPt_t ((layB_p hl).2.1 i hi)
  rw [nbX_eq hl hi hi, if_neg (by omega)]
theorem pairsX {z y : Int} {ps : List Pt} (hl : layB z y ps = true) : sumN (fun i => sumN (fun k => nbX ps z.toNat i k + nbX ps z.toNat k i) i) ps.length + z.toNat = sumN (fun k => (pith ps k).w.toNat) ps.length := by
  have h1 := sumN_pairs (nbX ps z.toNat) ps.length
  rw [sumN_zero (fun i hi => nbX_self hl hi), Nat.add_zero] at h1
  rw [h1]; exact totX hl

/-- the common side of two patches, as the law reckons it -/
def smZ (p q : Pt) : Int := if besP p q = true then max (comm p.x p.w q.x q.w) (comm p.y p.h q.y q.h) else 0
def rowZ (ps : List Pt) (i : Nat) : Nat → Int
  | 0 => 0
  | k + 1 => rowZ ps i k + smZ (pith ps i) (pith ps k)
def totZ (ps : List Pt) : Nat → Int
  | 0 => 0
  | i + 1 => totZ ps i + rowZ ps i i
theorem comm_symm (a m b n : Int) : comm b n a m = comm a m b n := by unfold comm; omega
theorem smZ_eq {p q : Pt} (hp1 : 1 ≤ p.w) (hp2 : 1 ≤ p.h) (hq1 : 1 ≤ q.w) (hq2 : 1 ≤ q.h) (ho : ovl p q = false) :
    smZ p q = (((if p.x + p.w = q.x then (comm p.y p.h q.y q.h).toNat else 0) + (if q.x + q.w = p.x then (comm p.y p.h q.y q.h).toNat else 0) + ((if p.y + p.h = q.y then (comm p.x p.w q.x q.w).toNat else 0) + (if q.y + q.h = p.y then (comm p.x p.w q.x q.w).toNat else 0)) : Nat) : Int) := by
  have ho' : ¬ (p.x < q.x + q.w ∧ q.x < p.x + p.w ∧ p.y < q.y + q.h ∧ q.y < p.y + p.h) := fun h => by rw [ovl_t.2 h] at ho; cases ho
  have hx : comm p.x p.w q.x q.w = 0 ↔ p.x + p.w = q.x ∨ q.x + q.w = p.x := by unfold comm; omega
  have hy : comm p.y p.h q.y q.h = 0 ↔ p.y + p.h = q.y ∨ q.y + q.h = p.y := by unfold comm; omega
  have hn : comm p.x p.w q.x q.w ≤ 0 ∨ comm p.y p.h q.y q.h ≤ 0 := by unfold comm; omega
  have hb : besP p q = true ↔ (comm p.x p.w q.x q.w = 0 ∧ 0 < comm p.y p.h q.y q.h) ∨ (comm p.y p.h q.y q.h = 0 ∧ 0 < comm p.x p.w q.x q.w) := by simp [besP]
  unfold smZ
  generalize comm p.x p.w q.x q.w = cw at hx hn hb ⊢
  generalize comm p.y p.h q.y q.h = ch at hy hn hb ⊢
  by_cases h1 : besP p q = true
  · rw [if_pos h1]
    have h2 := hb.1 h1
    split <;> split <;> split <;> split <;> omega
  · rw [if_neg h1]
    have h2 : ¬ ((cw = 0 ∧ 0 < ch) ∨ (ch = 0 ∧ 0 < cw)) := fun h => h1 (hb.2 h)
    split <;> split <;> split <;> split <;> omega
theorem rowZ_eq {z y : Int} {ps : List Pt} (hl : layB z y ps = true) {i : Nat} (hi : i < ps.length) : ∀ k, k ≤ i → rowZ ps i k = ((sumN (fun k => (nbY ps y.toNat i k + nbY ps y.toNat k i) + (nbX ps z.toNat i k + nbX ps z.toNat k i)) k : Nat) : Int) := by
  have hok := (layB_p hl).2.1
  obtain ⟨d1, d2, d3, d4, d5, d6, _, _⟩ := okPt_t (hok i hi)
  intro k
  induction k with
  | zero => intro _; rfl
  | succ k ih =>
    intro hk
    obtain ⟨c1, c2, c3, c4, c5, c6, _, _⟩ := okPt_t (hok k (by omega))
    rw [rowZ, ih (by omega), sumN, Int.natCast_add, smZ_eq d3 d4 c3 c4 (lay_apart hl hi (by omega) (by omega)), nbY_eq hl hi (by omega), nbY_eq hl (by omega) hi, nbX_eq hl hi (by omega), nbX_eq hl (by omega) hi, comm_symm (pith ps i).y, comm_symm (pith ps i).x]
theorem totZ_eq {z y : Int} {ps : List Pt} (hl : layB z y ps = true) : ∀ i, i ≤ ps.length → totZ ps i = ((sumN (fun i => sumN (fun k => (nbY ps y.toNat i k + nbY ps y.toNat k i) + (nbX ps z.toNat i k + nbX ps z.toNat k i)) i) i : Nat) : Int) := by
  intro i
  induction i with
  | zero => intro _; rfl
  | succ i ih => intro hi; rw [totZ, ih (by omega), sumN, Int.natCast_add, rowZ_eq hl (by omega) i (Nat.le_refl _)]
theorem sumWH_eq {z y : Int} {ps : List Pt} (hl : layB z y ps = true) : ∀ k, k ≤ ps.length → sumWH ps k = ((sumN (fun k => (pith ps k).h.toNat) k + sumN (fun k => (pith ps k).w.toNat) k : Nat) : Int) := by
  intro k
  induction k with
  | zero => intro _; simp [sumWH, sumN]
  | succ k ih =>
    intro hk
    obtain ⟨c1, c2, c3, c4, c5, c6, _, _⟩ := okPt_t ((layB_p hl).2.1 k (by omega))
    rw [sumWH_succ (by omega), ih (by omega), sumN, sumN]
    omega
/-- all common sides together are the seams -/
theorem tot_seam {z y : Int} {ps : List Pt} (hl : layB z y ps = true) : totZ ps ps.length = seamB z y ps := by
  obtain ⟨b1, b2, b3, b4, _, _⟩ := dimOk_t (layB_p hl).1
  have h1 := pairsY hl
  have h2 := pairsX hl
  rw [seamB_t hl, totZ_eq hl _ (Nat.le_refl _), sumWH_eq hl _ (Nat.le_refl _)]
  simp only [sumN_add] at h1 h2 ⊢
  omega
theorem smZ_bd {z y : Int} {ps : List Pt} (hl : layB z y ps = true) {i k : Nat} (hi : i < ps.length) (hk : k < ps.length) : 0 ≤ smZ (pith ps i) (pith ps k) ∧ smZ (pith ps i) (pith ps k) ≤ 12 := by
  obtain ⟨b1, b2, b3, b4, _, _⟩ := dimOk_t (layB_p hl).1
  obtain ⟨c1, c2, c3, c4, c5, c6, _, _⟩ := okPt_t ((layB_p hl).2.1 k hk)
  obtain ⟨d1, d2, d3, d4, d5, d6, _, _⟩ := okPt_t ((layB_p hl).2.1 i hi)
  unfold smZ
  split
  · rename_i hb
    simp [besP] at hb
    unfold comm at hb ⊢
    omega
  · omega
theorem rowZ_bd {z y : Int} {ps : List Pt} (hl : layB z y ps = true) {i : Nat} (hi : i < ps.length) : ∀ k, k ≤ ps.length → 0 ≤ rowZ ps i k ∧ rowZ ps i k ≤ 12 * k := by
  intro k
  induction k with
  | zero => intro _; simp [rowZ]
  | succ k ih => intro hk; have := ih (by omega); have := smZ_bd hl hi (show k < ps.length by omega); rw [rowZ]; omega
theorem totZ_bd {z y : Int} {ps : List Pt} (hl : layB z y ps = true) : ∀ i, i ≤ ps.length → 0 ≤ totZ ps i ∧ totZ ps i ≤ 144 * i := by
  intro i
  obtain ⟨b1, b2, b3, b4, b5, b6⟩ := dimOk_t (layB_p hl).1
  induction i with
  | zero => intro _; simp [totZ]
  | succ i ih => intro hi; have := ih (by omega); have := rowZ_bd hl (show i < ps.length by omega) i (by omega); rw [totZ]; omega

/-- the squares of a patch among the rows ahead of Y and the first X squares of row Y -/
def cntG (W : Nat) (p : Pt) (Y X : Nat) : Nat := sumN (fun b => sumN (fun a => if hasP p (a : Nat) (b : Nat) = true then 1 else 0) W) Y + sumN (fun a => if hasP p (a : Nat) (Y : Nat) = true then 1 else 0) X
def cntL (W : Nat) (ps : List Pt) (Y X : Nat) : List Int := ps.map (fun p => (cntG W p Y X : Int))
theorem cntL_len (W : Nat) (ps : List Pt) (Y X : Nat) : (cntL W ps Y X).length = ps.length := by simp [cntL]
theorem ith_cntL {W : Nat} {ps : List Pt} {Y X k : Nat} (h : k < ps.length) : ith (cntL W ps Y X) k = (cntG W (pith ps k) Y X : Int) := by
  rw [ith_get (by rw [cntL_len]; exact h), pith_get h]; simp [cntL]
theorem cntL_zero (W : Nat) (ps : List Pt) : cntL W ps 0 0 = List.replicate ps.length 0 := by
  refine ext_ith (by rw [cntL_len, List.length_replicate]) (fun j hj => ?_)
  rw [cntL_len] at hj
  rw [ith_cntL hj, ith_get (by rw [List.length_replicate]; exact hj)]
  simp [cntG, sumN]
theorem cntL_row (W : Nat) (ps : List Pt) (Y : Nat) : cntL W ps Y W = cntL W ps (Y + 1) 0 := by
  unfold cntL
  refine List.map_congr_left (fun p _ => ?_)
  simp only [cntG, sumN, Nat.add_zero]
theorem cntL_step {W : Nat} {ps : List Pt} {Y X k : Nat} (hk : k < ps.length) (h1 : hasP (pith ps k) (X : Nat) (Y : Nat) = true) (h2 : ∀ j, j < ps.length → j ≠ k → hasP (pith ps j) (X : Nat) (Y : Nat) = false) : cntL W ps Y (X + 1) = (cntL W ps Y X).set k ((cntG W (pith ps k) Y X : Int) + 1) := by
  refine ext_ith (by rw [List.length_set, cntL_len, cntL_len]) (fun j hj => ?_)
  rw [cntL_len] at hj
  rw [ith_cntL hj]
  by_cases e : j = k
  · subst e
    rw [ith_set_self (by rw [cntL_len]; exact hj)]
    simp only [cntG, sumN, h1, if_true]
    omega
  · rw [ith_set_other e, ith_cntL hj]
    simp only [cntG, sumN, h2 j hj e]
    simp
theorem cntG_end {z y : Int} {ps : List Pt} (hl : layB z y ps = true) {k : Nat} (hk : k < ps.length) : (cntG z.toNat (pith ps k) y.toNat 0 : Int) = (pith ps k).w * (pith ps k).h := by
  obtain ⟨b1, b2, b3, b4, _, _⟩ := dimOk_t (layB_p hl).1
  have hok := (layB_p hl).2.1 k hk
  obtain ⟨c1, c2, c3, c4, c5, c6, _, _⟩ := okPt_t hok
  have h1 := grid_has (W := z.toNat) (H := y.toNat) (p := pith ps k) (by rw [Int.toNat_of_nonneg (by omega), Int.toNat_of_nonneg (by omega)]; exact hok)
  have h2 : cntG z.toNat (pith ps k) y.toNat 0 = grid (fun x y => if hasP (pith ps k) x y = true then 1 else 0) z.toNat y.toNat := by
    unfold cntG grid
    simp [sumN]
  rw [h2, h1]
  exact Int.toNat_of_nonneg (Int.mul_nonneg (by omega) (by omega))
theorem cntG_le (W : Nat) (p : Pt) (Y X : Nat) : cntG W p Y X ≤ Y * W + X := by
  have h1 : ∀ b n, sumN (fun a => if hasP p (a : Nat) (b : Nat) = true then 1 else 0) n ≤ n := by
    intro b n
    have := sumN_mono (f := fun a => if hasP p (a : Nat) (b : Nat) = true then 1 else 0) (g := fun _ => 1) (n := n) (fun i _ => by split <;> omega)
    rw [sumN_const] at this; omega
  have h2 := sumN_mono (f := fun b => sumN (fun a => if hasP p (a : Nat) (b : Nat) = true then 1 else 0) W) (g := fun _ => W) (n := Y) (fun i _ => h1 i W)
  rw [sumN_const] at h2
  have := h1 Y X
  unfold cntG
  omega

theorem turn_has {y : Int} {p : Pt} {u v : Int} : hasP (turnPt y p) u v = hasP p v (y - 1 - u) := by
  rw [Bool.eq_iff_iff, hasP_t, hasP_t]
  simp only [turnPt]
  omega
theorem turn_all (y : Int) (ps : List Pt) : turnTo y ps ps.length = ps.map (turnPt y) := by rw [turnTo, List.take_length]
/-- a turned layout is one -/
theorem turn_lay {z y : Int} {ps : List Pt} (hl : layB z y ps = true) : layB y z (ps.map (turnPt y)) = true := by
  obtain ⟨hd, hok, _, _⟩ := layB_p hl
  obtain ⟨b1, b2, b3, b4, b5, b6⟩ := dimOk_t hd
  have hm := allOk_mem.1 hok
  have hd1 : dimOk y z (ps.map (turnPt y)).length = true := dimOk_mk (by omega) (by omega) (by omega) (by omega) (by simp; omega) (by simp; omega)
  have hk1 : allOk y z (ps.map (turnPt y)) := by
    refine allOk_mem.2 (fun p hp => ?_)
    rw [List.mem_map] at hp
    obtain ⟨q, hq, rfl⟩ := hp
    obtain ⟨c1, c2, c3, c4, c5, c6, c7, c8⟩ := okPt_t (hm q hq)
    exact okPt_mk (by simp only [turnPt]; omega) (by simp only [turnPt]; omega) (by simp only [turnPt]; omega) (by simp only [turnPt]; omega) (by simp only [turnPt]; omega) (by simp only [turnPt]; omega) (by simp only [turnPt]; omega) (by simp only [turnPt]; omega)
  refine layB_t ((LayP_once hd1 hk1).2 ?_)
  intro v hv u hu
  rw [cnt_map (x' := (v : Int)) (y' := y - 1 - (u : Int)) (fun p => turn_has)]
  exact once_at hl (by omega) hv (by omega) (by omega)
theorem turn_four (z y : Int) (ps : List Pt) : (((ps.map (turnPt y)).map (turnPt z)).map (turnPt y)).map (turnPt z) = ps := by
  rw [List.map_map, List.map_map, List.map_map]
  conv => rhs; rw [← List.map_id ps]
  refine List.map_congr_left (fun p _ => ?_)
  exact Pt_eq (by simp only [Function.comp, turnPt, id]; omega) (by simp only [Function.comp, turnPt, id]; omega) rfl rfl rfl
theorem turn_sum (y : Int) (ps : List Pt) : sumWH (ps.map (turnPt y)) (ps.map (turnPt y)).length = sumWH ps ps.length := by
  unfold sumWH
  rw [List.take_length, List.take_length, List.map_map]
  congr 1
  refine List.map_congr_left (fun p _ => ?_)
  simp only [Function.comp, turnPt]; omega
theorem turn_seam {z y : Int} {ps : List Pt} (hl : layB z y ps = true) : seamB y z (ps.map (turnPt y)) = seamB z y ps := by
  rw [seamB_t hl, seamB_t (turn_lay hl), turn_sum]; omega
theorem sample_lay : layB 3 3 sampleL = true := by
  refine layB_t ⟨by decide, ?_, ?_, by decide⟩
  · intro k hk
    have : k = 0 ∨ k = 1 ∨ k = 2 ∨ k = 3 ∨ k = 4 := by simp [sampleL] at hk; omega
    rcases this with rfl | rfl | rfl | rfl | rfl <;> decide
  · intro k hk i hi
    have h1 : k = 0 ∨ k = 1 ∨ k = 2 ∨ k = 3 ∨ k = 4 := by simp [sampleL] at hk; omega
    have h2 : i = 0 ∨ i = 1 ∨ i = 2 ∨ i = 3 := by omega
    rcases h1 with rfl | rfl | rfl | rfl | rfl <;> rcases h2 with rfl | rfl | rfl | rfl <;> first | omega | decide
theorem sample_seam : seamB 3 3 sampleL = 8 := by rw [seamB_t sample_lay]; decide
end Go.Proofs.Ytlcllpgbpjdofaa
