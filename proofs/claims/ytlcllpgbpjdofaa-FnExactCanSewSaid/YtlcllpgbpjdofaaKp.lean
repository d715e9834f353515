/- The parts of a cut are layouts; what it means that a layout can be sewn. No condition. -/
import Derived.Test.YtlcllpgbpjdofaaCk
import Derived.Test.YtlcllpgbpjdofaaSd
set_option linter.unusedSimpArgs false
set_option linter.unusedVariables false
set_option maxRecDepth 100000
namespace Go.Proofs.Ytlcllpgbpjdofaa
open Go.RowKit

theorem cutB_parts {z y a : Int} {ps : List Pt} {u : Bool} (h : cutB z y ps u a = true) : layB z y ps = true ∧ 1 ≤ a ∧ a ≤ sideOf u z y - 1 ∧ ∀ p ∈ ps, crossP u a p = false := by
  unfold cutB at h
  simp only [Bool.and_eq_true, List.all_eq_true, Bool.not_eq_true'] at h
  obtain ⟨h1, h2, h3⟩ := h
  have h4 := inB_r h2
  exact ⟨h1, h4.1, h4.2, h3⟩
theorem cnt_pos {ps : List Pt} {x y : Int} (h : cntP ps x y = 1) : ∃ p ∈ ps, hasP p x y = true := by
  have h1 : 0 < ps.countP (fun p => hasP p x y) := by show 0 < cntP ps x y; omega
  obtain ⟨p, hp, e⟩ := List.countP_pos_iff.1 h1
  exact ⟨p, hp, e⟩
theorem inB_iff {x a b : Int} : inB x a b = true ↔ a ≤ x ∧ x ≤ b := by simp [inB]
theorem okPt_mk {W H : Int} {p : Pt} (h1 : 0 ≤ p.x) (h2 : 0 ≤ p.y) (h3 : 1 ≤ p.w) (h4 : 1 ≤ p.h) (h5 : p.x + p.w ≤ W) (h6 : p.y + p.h ≤ H) (h7 : 0 ≤ p.c) (h8 : p.c ≤ 5) : okPt W H p = true := by
  unfold okPt
  rw [Bool.and_eq_true, Bool.and_eq_true, Bool.and_eq_true, Bool.and_eq_true, inB_iff, inB_iff, inB_iff, inB_iff, inB_iff]
  omega
theorem dimOk_mk {W H : Int} {n : Nat} (h1 : 1 ≤ W) (h2 : W ≤ 12) (h3 : 1 ≤ H) (h4 : H ≤ 12) (h5 : 1 ≤ n) (h6 : n ≤ 12) : dimOk W H n = true := by
  unfold dimOk
  rw [Bool.and_eq_true, Bool.and_eq_true, inB_iff, inB_iff, inB_iff]
  omega
theorem cnt_filter {ps : List Pt} {q : Pt → Bool} {x y : Int} (h : ∀ p ∈ ps, hasP p x y = true → q p = true) : cntP (ps.filter q) x y = cntP ps x y := by
  unfold cntP
  rw [List.countP_filter]
  refine List.countP_congr (fun p hp => ?_)
  constructor
  · intro h1; simp only [Bool.and_eq_true] at h1; exact h1.1
  · intro h1; simp only [Bool.and_eq_true]; exact ⟨h1, h p hp h1⟩
theorem cnt_map {ps : List Pt} {f : Pt → Pt} {x y x' y' : Int} (h : ∀ p, hasP (f p) x y = hasP p x' y') : cntP (ps.map f) x y = cntP ps x' y' := by
  unfold cntP
  rw [List.countP_map]
  refine List.countP_congr (fun p _ => ?_)
  show hasP (f p) x y = true ↔ _
  rw [h p]

theorem parts_true {z y a : Int} {ps : List Pt} (h : cutB z y ps true a = true) : layB a y (fstL true a ps) = true ∧ layB (z - a) y (sndL true a ps) = true := by
  obtain ⟨hl, ha1, ha2, hc⟩ := cutB_parts h
  have ha2 : a ≤ z - 1 := ha2
  obtain ⟨hd, hok, _, _⟩ := layB_p hl
  obtain ⟨b1, b2, b3, b4, b5, b6⟩ := dimOk_t hd
  have ho : once z y ps := (LayP_once hd hok).1 (layB_p hl)
  have hm := allOk_mem.1 hok
  have hcr : ∀ p ∈ ps, p.x < a → p.x + p.w ≤ a := by
    intro p hp hlt
    have := hc p hp
    unfold crossP at this
    simp at this
    have := this hlt
    omega
  have hfl : ∀ p, fstB true a p = true ↔ p.x < a := fun p => by simp [fstB]
  constructor
  · have hd1 : dimOk a y (fstL true a ps).length = true := by
      obtain ⟨p, hp, hh⟩ := cnt_pos (ho 0 (by omega) 0 (by omega))
      have hh := hasP_t.1 hh
      have hpm : p ∈ fstL true a ps := List.mem_filter.2 ⟨hp, (hfl p).2 (by omega)⟩
      have := List.length_pos_of_mem hpm
      have h2 : (fstL true a ps).length ≤ ps.length := List.length_filter_le _ _
      exact dimOk_mk (by omega) (by omega) (by omega) (by omega) (by omega) (by omega)
    have hk1 : allOk a y (fstL true a ps) := by
      refine allOk_mem.2 (fun p hp => ?_)
      obtain ⟨hp, hf⟩ := List.mem_filter.1 hp
      have hf := (hfl p).1 hf
      obtain ⟨c1, c2, c3, c4, c5, c6, c7, c8⟩ := okPt_t (hm p hp)
      have := hcr p hp hf
      exact okPt_mk (by omega) (by omega) (by omega) (by omega) (by omega) (by omega) (by omega) (by omega)
    refine layB_t ((LayP_once hd1 hk1).2 ?_)
    intro yy hy x hx
    rw [fstL, cnt_filter]
    · exact ho yy hy x (by omega)
    · intro p hp hh
      have hh := hasP_t.1 hh
      exact (hfl p).2 (by omega)
  · have hd1 : dimOk (z - a) y (sndL true a ps).length = true := by
      obtain ⟨p, hp, hh⟩ := cnt_pos (ho 0 (by omega) a.toNat (by omega))
      have hh := hasP_t.1 hh
      have hpm : p ∈ ps.filter (fun p => !fstB true a p) := List.mem_filter.2 ⟨hp, by
        have : ¬ fstB true a p = true := fun e => by
          have e := (hfl p).1 e
          have := hcr p hp e
          omega
        simpa using this⟩
      have := List.length_pos_of_mem hpm
      have h2 : (ps.filter (fun p => !fstB true a p)).length ≤ ps.length := List.length_filter_le _ _
      have h3 : (sndL true a ps).length = (ps.filter (fun p => !fstB true a p)).length := by rw [sndL, List.length_map]
      exact dimOk_mk (by omega) (by omega) (by omega) (by omega) (by omega) (by omega)
    have hk1 : allOk (z - a) y (sndL true a ps) := by
      refine allOk_mem.2 (fun p hp => ?_)
      rw [sndL, List.mem_map] at hp
      obtain ⟨q, hq, rfl⟩ := hp
      obtain ⟨hp, hf⟩ := List.mem_filter.1 hq
      have hf : ¬ q.x < a := fun e => by rw [(hfl q).2 e] at hf; cases hf
      obtain ⟨c1, c2, c3, c4, c5, c6, c7, c8⟩ := okPt_t (hm q hp)
      exact okPt_mk (by simp [behP]; omega) (by simp [behP]; omega) (by simp [behP]; omega) (by simp [behP]; omega) (by simp [behP]; omega) (by simp [behP]; omega) (by simp [behP]; omega) (by simp [behP]; omega)
    refine layB_t ((LayP_once hd1 hk1).2 ?_)
    intro yy hy x hx
    rw [sndL, cnt_map (x' := (x : Int) + a) (y' := (yy : Int)), cnt_filter]
    · have h5 := ho yy hy (x + a.toNat) (by omega)
      rw [Int.natCast_add, Int.toNat_of_nonneg (by omega)] at h5
      exact h5
    · intro p hp hh
      have hh := hasP_t.1 hh
      have : ¬ fstB true a p = true := fun e => by
        have e := (hfl p).1 e
        have := hcr p hp e
        omega
      simpa using this
    · intro p
      rw [Bool.eq_iff_iff, hasP_t, hasP_t]
      simp [behP]
      omega

theorem parts_false {z y a : Int} {ps : List Pt} (h : cutB z y ps false a = true) : layB z a (fstL false a ps) = true ∧ layB z (y - a) (sndL false a ps) = true := by
  obtain ⟨hl, ha1, ha2, hc⟩ := cutB_parts h
  have ha2 : a ≤ y - 1 := ha2
  obtain ⟨hd, hok, _, _⟩ := layB_p hl
  obtain ⟨b1, b2, b3, b4, b5, b6⟩ := dimOk_t hd
  have ho : once z y ps := (LayP_once hd hok).1 (layB_p hl)
  have hm := allOk_mem.1 hok
  have hcr : ∀ p ∈ ps, p.y < a → p.y + p.h ≤ a := by
    intro p hp hlt
    have := hc p hp
    unfold crossP at this
    simp at this
    have := this hlt
    omega
  have hfl : ∀ p, fstB false a p = true ↔ p.y < a := fun p => by simp [fstB]
  constructor
  · have hd1 : dimOk z a (fstL false a ps).length = true := by
      obtain ⟨p, hp, hh⟩ := cnt_pos (ho 0 (by omega) 0 (by omega))
      have hh := hasP_t.1 hh
      have hpm : p ∈ fstL false a ps := List.mem_filter.2 ⟨hp, (hfl p).2 (by omega)⟩
      have := List.length_pos_of_mem hpm
      have h2 : (fstL false a ps).length ≤ ps.length := List.length_filter_le _ _
      exact dimOk_mk (by omega) (by omega) (by omega) (by omega) (by omega) (by omega)
    have hk1 : allOk z a (fstL false a ps) := by
      refine allOk_mem.2 (fun p hp => ?_)
      obtain ⟨hp, hf⟩ := List.mem_filter.1 hp
      have hf := (hfl p).1 hf
      obtain ⟨c1, c2, c3, c4, c5, c6, c7, c8⟩ := okPt_t (hm p hp)
      have := hcr p hp hf
      exact okPt_mk (by omega) (by omega) (by omega) (by omega) (by omega) (by omega) (by omega) (by omega)
    refine layB_t ((LayP_once hd1 hk1).2 ?_)
    intro yy hy x hx
    rw [fstL, cnt_filter]
    · exact ho yy (by omega) x hx
    · intro p hp hh
      have hh := hasP_t.1 hh
      exact (hfl p).2 (by omega)
  · have hd1 : dimOk z (y - a) (sndL false a ps).length = true := by
      obtain ⟨p, hp, hh⟩ := cnt_pos (ho a.toNat (by omega) 0 (by omega))
      have hh := hasP_t.1 hh
      have hpm : p ∈ ps.filter (fun p => !fstB false a p) := List.mem_filter.2 ⟨hp, by
        have : ¬ fstB false a p = true := fun e => by
          have e := (hfl p).1 e
          have := hcr p hp e
          omega
        simpa using this⟩
      have := List.length_pos_of_mem hpm
      have h2 : (ps.filter (fun p => !fstB false a p)).length ≤ ps.length := List.length_filter_le _ _
      have h3 : (sndL false a ps).length = (ps.filter (fun p => !fstB false a p)).length := by rw [sndL, List.length_map]
      exact dimOk_mk (by omega) (by omega) (by omega) (by omega) (by omega) (by omega)
    have hk1 : allOk z (y - a) (sndL false a ps) := by
      refine allOk_mem.2 (fun p hp => ?_)
      rw [sndL, List.mem_map] at hp
      obtain ⟨q, hq, rfl⟩ := hp
      obtain ⟨hp, hf⟩ := List.mem_filter.1 hq
      have hf : ¬ q.y < a := fun e => by rw [(hfl q).2 e] at hf; cases hf
      obtain ⟨c1, c2, c3, c4, c5, c6, c7, c8⟩ := okPt_t (hm q hp)
      exact okPt_mk (by simp [behP]; omega) (by simp [behP]; omega) (by simp [behP]; omega) (by simp [behP]; omega) (by simp [behP]; omega) (by simp [behP]; omega) (by simp [behP]; omega) (by simp [behP]; omega)
    refine layB_t ((LayP_once hd1 hk1).2 ?_)
    intro yy hy x hx
    rw [sndL, cnt_map (x' := (x : Int)) (y' := (yy : Int) + a), cnt_filter]
    · have h5 := ho (yy + a.toNat) (by omega) x hx
      rw [Int.natCast_add, Int.toNat_of_nonneg (by omega)] at h5
      exact h5
    · intro p hp hh
      have hh := hasP_t.1 hh
      have : ¬ fstB false a p = true := fun e => by
        have e := (hfl p).1 e
        have := hcr p hp e
        omega
      simpa using this
    · intro p
      rw [Bool.eq_iff_iff, hasP_t, hasP_t]
      simp [behP]
      omega

/-- both parts of a line through a layout: sides -/
def dvZ1 (u : Bool) (z a : Int) : Int := if u then a else z
def dvY1 (u : Bool) (y a : Int) : Int := if u then y else a
def dvZ2 (u : Bool) (z a : Int) : Int := if u then z - a else z
def dvY2 (u : Bool) (y a : Int) : Int := if u then y else y - a
theorem parts_lay {z y a : Int} {ps : List Pt} {u : Bool} (h : cutB z y ps u a = true) : layB (dvZ1 u z a) (dvY1 u y a) (fstL u a ps) = true ∧ layB (dvZ2 u z a) (dvY2 u y a) (sndL u a ps) = true := by
  cases u with
  | true => exact parts_true h
  | false => exact parts_false h
theorem parts_less {z y a : Int} {ps : List Pt} {u : Bool} (h : cutB z y ps u a = true) : (dvZ1 u z a + dvY1 u y a).toNat < (z + y).toNat ∧ (dvZ2 u z a + dvY2 u y a).toNat < (z + y).toNat := by
  obtain ⟨hl, ha1, ha2, _⟩ := cutB_parts h
  obtain ⟨b1, b2, b3, b4, _, _⟩ := dimOk_t (layB_p hl).1
  cases u with
  | true =>
    have ha2 : a ≤ z - 1 := ha2
    simp [dvZ1, dvY1, dvZ2, dvY2]; omega
  | false =>
    have ha2 : a ≤ y - 1 := ha2
    simp [dvZ1, dvY1, dvZ2, dvY2]; omega
theorem cutsTo_mem {z y : Int} {ps : List Pt} {u : Bool} {k : Nat} {c : Ct} (h : c ∈ cutsTo z y ps u k) : cutB z y ps c.u c.a = true := by
  unfold cutsTo at h
  rw [List.mem_map] at h
  obtain ⟨a, ha, rfl⟩ := h
  exact (List.mem_filter.1 ha).2
theorem cutsB_mem {z y : Int} {ps : List Pt} {c : Ct} (h : c ∈ cutsB z y ps) : cutB z y ps c.u c.a = true := by
  unfold cutsB at h
  rcases List.mem_append.1 h with h | h
  · exact cutsTo_mem h
  · exact cutsTo_mem h
/-- a part that cannot be cut is met -/
noncomputable def knotB : Nat → Int → Int → List Pt → Bool
  | 0, _, _, _ => false
  | f + 1, z, y, ps => if layB z y ps = false ∨ ps.length = 1 then false else
    if (cutsB z y ps).length = 0 then true else
      knotB f (dvZ1 (kith (cutsB z y ps) 0).u z (kith (cutsB z y ps) 0).a) (dvY1 (kith (cutsB z y ps) 0).u y (kith (cutsB z y ps) 0).a) (fstL (kith (cutsB z y ps) 0).u (kith (cutsB z y ps) 0).a ps) ||
      knotB f (dvZ2 (kith (cutsB z y ps) 0).u z (kith (cutsB z y ps) 0).a) (dvY2 (kith (cutsB z y ps) 0).u y (kith (cutsB z y ps) 0).a) (sndL (kith (cutsB z y ps) 0).u (kith (cutsB z y ps) 0).a ps)
noncomputable def sewB : Nat → Int → Int → List Pt → Bool
  | 0, _, _, _ => false
  | f + 1, z, y, ps => if layB z y ps = false then false else if ps.length = 1 then true else
    if (cutsB z y ps).length = 0 then false else
      sewB f (dvZ1 (kith (cutsB z y ps) 0).u z (kith (cutsB z y ps) 0).a) (dvY1 (kith (cutsB z y ps) 0).u y (kith (cutsB z y ps) 0).a) (fstL (kith (cutsB z y ps) 0).u (kith (cutsB z y ps) 0).a ps) &&
      sewB f (dvZ2 (kith (cutsB z y ps) 0).u z (kith (cutsB z y ps) 0).a) (dvY2 (kith (cutsB z y ps) 0).u y (kith (cutsB z y ps) 0).a) (sndL (kith (cutsB z y ps) 0).u (kith (cutsB z y ps) 0).a ps)
theorem kith_mem {ks : List Ct} (h : ¬ ks.length = 0) : kith ks 0 ∈ ks := by
  rw [kith_get (by omega)]; exact List.getElem_mem _
theorem lay_pos {z y : Int} {ps : List Pt} (h : layB z y ps = true) : 2 ≤ (z + y).toNat := by
  obtain ⟨b1, b2, b3, b4, _, _⟩ := dimOk_t (layB_p h).1
  omega
theorem sew_knot : ∀ (f : Nat) (z y : Int) (ps : List Pt), (z + y).toNat ≤ f → sewB f z y ps = (layB z y ps && !knotB f z y ps) := by
  intro f
  induction f with
  | zero =>
    intro z y ps h
    cases hl : layB z y ps with
    | false => rfl
    | true => have := lay_pos hl; omega
  | succ f ih =>
    intro z y ps h
    rw [sewB, knotB]
    cases hl : layB z y ps with
    | false => simp
    | true =>
      by_cases h1 : ps.length = 1
      · simp [h1]
      · by_cases h2 : (cutsB z y ps).length = 0
        · simp [h1, h2]
        · have hc := cutsB_mem (kith_mem h2)
          obtain ⟨p1, p2⟩ := parts_lay hc
          obtain ⟨l1, l2⟩ := parts_less hc
          have e1 := ih (dvZ1 (kith (cutsB z y ps) 0).u z (kith (cutsB z y ps) 0).a) (dvY1 (kith (cutsB z y ps) 0).u y (kith (cutsB z y ps) 0).a) (fstL (kith (cutsB z y ps) 0).u (kith (cutsB z y ps) 0).a ps) (by omega)
          have e2 := ih (dvZ2 (kith (cutsB z y ps) 0).u z (kith (cutsB z y ps) 0).a) (dvY2 (kith (cutsB z y ps) 0).u y (kith (cutsB z y ps) 0).a) (sndL (kith (cutsB z y ps) 0).u (kith (cutsB z y ps) 0).a ps) (by omega)
          rw [p1, Bool.true_and] at e1
          rw [p2, Bool.true_and] at e2
          simp [h1, h2, e1, e2]

end Go.Proofs.Ytlcllpgbpjdofaa
