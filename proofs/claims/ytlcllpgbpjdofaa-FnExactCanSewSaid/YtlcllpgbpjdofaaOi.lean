/- A drawn region by a law that every operation keeps: proved once for an operation, not once for an order. No condition. -/
import Derived.RegionTactic
namespace Go.Proofs.Ytlcllpgbpjdofaa
open Go

theorem count_set : ∀ (l : List Bool) (i : Nat), l[i]? = some false → (l.set i true).count false + 1 = l.count false
  | [], i, h => by simp at h
  | b :: l, 0, h => by
    simp at h
    subst h
    simp
  | b :: l, i + 1, h => by
    have := count_set l i (by simpa using h)
    simp [List.count_cons]
    omega

/-- what an operation waits for stands ahead of it -/
def edgesBack (md : Region.Mode) (ops : Array Oper) : Bool := (List.range ops.size).all fun i => match ops[i]? with
  | some o => o.after.all fun e => !Region.binds md e || decide (e.on < i)
  | none => true

theorem wpAny_inv {P : Program} {md : Region.Mode} {ops : Array Oper} {Q : Exit → Act → World → Prop} (I : (Nat → Bool) → Act → World → Prop) (hb : edgesBack md ops = true)
    (hstep : ∀ i o, ops[i]? = some o → ∀ L a w, L i = false → (∀ e ∈ o.after, Region.binds md e = true → L e.on = true) → I L a w → wpOp P ops Q i (I (fun k => k == i || L k)) a w)
    (hfin : ∀ L a w, (∀ i, i < ops.size → L i = true) → I L a w → Q .normal a w) :
    ∀ (fuel : Nat) (listed : Array Bool) (a : Act) (w : World), listed.size = ops.size → listed.toList.count false ≤ fuel → I (fun k => listed.getD k false) a w → wpAny P md ops Q fuel listed a w := by
  have hedge : ∀ (i : Nat) (o : Oper), ops[i]? = some o → ∀ e ∈ o.after, Region.binds md e = true → e.on < i := by
    intro i o ho e he hbe
    simp only [edgesBack, List.all_eq_true, List.mem_range] at hb
    have := hb i (Array.getElem?_eq_some_iff.1 ho).1
    simp only [ho, Array.all_eq_true_iff_forall_mem, Bool.or_eq_true, Bool.not_eq_true', decide_eq_true_eq] at this
    exact (this e he).resolve_left (by simp [hbe])
  have hall : ∀ listed : Array Bool, listed.size = ops.size → Region.ready md ops listed = [] → ∀ i, i < ops.size → listed.getD i false = true := by
    intro listed hsz hr i
    induction i using Nat.strongRecOn with
    | ind i ih =>
      intro hi
      cases hl : listed.getD i false with
      | true => rfl
      | false =>
        have hm : i ∈ Region.ready md ops listed := by
          rw [mem_ready]
          refine ⟨?_, ops[i], by simp [hi], fun e he hbe => ih e.on (hedge i _ (by simp [hi]) e he hbe) (Nat.lt_trans (hedge i _ (by simp [hi]) e he hbe) hi)⟩
          have : i < listed.size := by omega
          simp [this] at hl ⊢
          exact hl
        rw [hr] at hm
        cases hm
  intro fuel
  induction fuel with
  | zero =>
    intro listed a w hsz hc hI
    have hno : Region.ready md ops listed = [] := by
      cases hr : Region.ready md ops listed with
      | nil => rfl
      | cons i is =>
        have hm : i ∈ Region.ready md ops listed := by rw [hr]; simp
        obtain ⟨h0, o, ho, _⟩ := mem_ready.1 hm
        have hlt := (Array.getElem?_eq_some_iff.1 ho).1
        have : listed.toList[i]? = some false := by
          have : i < listed.size := by omega
          simp [this] at h0 ⊢
          exact h0
        have := count_set listed.toList i this
        omega
    exact ⟨hno, hfin _ a w (hall listed hsz hno) hI⟩
  | succ fuel ih =>
    intro listed a w hsz hc hI
    refine ⟨fun hno => hfin _ a w (hall listed hsz hno) hI, fun i hm => ?_⟩
    obtain ⟨h0, o, ho, haf⟩ := mem_ready.1 hm
    have hlt := (Array.getElem?_eq_some_iff.1 ho).1
    have hlt' : i < listed.size := by omega
    have hf : listed.toList[i]? = some false := by
      simp [hlt'] at h0 ⊢
      exact h0
    refine wpOp_mono (fun a' w' h => ih (listed.setIfInBounds i true) a' w' (by simpa using hsz) ?_ ?_) (hstep i o ho (fun k => listed.getD k false) a w ?_ haf hI)
    · have := count_set listed.toList i hf
      simp only [Array.toList_setIfInBounds]
      omega
    · have he : (fun k => (listed.setIfInBounds i true).getD k false) = (fun k => k == i || listed.getD k false) := by
        funext k
        by_cases hk : k = i
        · subst hk; simp [hlt']
        · rw [getD_set_ne false (Ne.symm hk)]; simp [hk]
      rw [he]
      exact h
    · simp [hlt'] at h0 ⊢
      exact h0

theorem wp_region_inv {P : Program} {ops : Array Oper} {Q : Exit → Act → World → Prop} (I : (Nat → Bool) → Act → World → Prop) {id : Nat} {a : Act} {w : World} (hm : P.follows .mixedOrders = true) (hb : edgesBack .any ops = true)
    (h0 : I (fun _ => false) a { w with drawn := w.drawn + 1 })
    (hstep : ∀ i o, ops[i]? = some o → ∀ L a w, L i = false → (∀ e ∈ o.after, Region.binds .any e = true → L e.on = true) → I L a w → wpOp P ops Q i (I (fun k => k == i || L k)) a w)
    (hfin : ∀ L a w, (∀ i, i < ops.size → L i = true) → I L a w → Q .normal a w) : (Code.region id ops true).wp P Q a w := by
  refine wp_region_any hm (wpAny_inv I hb hstep hfin _ _ _ _ (by simp) ?_ ?_)
  · simp
  · have : (fun k => (Array.replicate ops.size false).getD k false) = (fun _ => false) := by
      funext k
      rcases Nat.lt_or_ge k ops.size with h | h
      · simp [h]
      · simp [h]
    rw [this]
    exact h0

/-- each operation of the list keeps the law -/
def Steps (P : Program) (md : Region.Mode) (ops : Array Oper) (Q : Exit → Act → World → Prop) (I : (Nat → Bool) → Act → World → Prop) (is : List Nat) : Prop :=
  ∀ i ∈ is, ∀ o, ops[i]? = some o → ∀ L a w, L i = false → (∀ e ∈ o.after, Region.binds md e = true → L e.on = true) → I L a w → wpOp P ops Q i (I (fun k => k == i || L k)) a w
section
variable {P : Program} {md : Region.Mode} {ops : Array Oper} {Q : Exit → Act → World → Prop} {I : (Nat → Bool) → Act → World → Prop}
theorem Steps.nil : Steps P md ops Q I [] := fun _ h => by cases h
theorem Steps.cons {i : Nat} {o : Oper} {is : List Nat} (ds : List Nat) (ho : ops[i]? = some o) (hd : (ds.all fun d => o.after.any fun e => Region.binds md e && e.on == d) = true)
    (h : ∀ L a w, L i = false → (∀ d ∈ ds, L d = true) → I L a w → ∀ K' : Act → World → Prop, (∀ a w, I (fun k => k == i || L k) a w → K' a w) → if Region.wanted o (yielded ops a.tmps) = true then Oper.wp P o a w K' Q else K' (a.put o.dst undef) w)
    (hs : Steps P md ops Q I is) : Steps P md ops Q I (i :: is) := fun j hj => by
  rcases List.mem_cons.1 hj with rfl | hj
  · intro o' ho' L a w hL hdep hI
    rw [ho] at ho'
    obtain rfl : o = o' := by simpa using ho'
    refine wpOp_step ho (fun K' hK => h L a w hL (fun d hdm => ?_) hI K' hK)
    have := List.all_eq_true.1 hd d hdm
    obtain ⟨e, he, hb⟩ := Array.any_eq_true'.1 this
    simp only [Bool.and_eq_true, beq_iff_eq] at hb
    rw [← hb.2]
    exact hdep e he hb.1
  · exact hs j hj
theorem wp_region_steps (J : Act → (Nat → Bool) → Act → World → Prop) {id : Nat} {a : Act} {w : World} (is : List Nat) (his : List.range ops.size = is) (hm : P.follows .mixedOrders = true) (hb : edgesBack .any ops = true)
    (h0 : J a (fun _ => false) a w.drew) (hs : Steps P .any ops Q (J a) is)
    (hfin : ∀ L a' w, (∀ i ∈ is, L i = true) → J a L a' w → Q .normal a' w) : (Code.region id ops true).wp P Q a w :=
  wp_region_inv (J a) hm hb h0 (fun i o ho => hs i (by rw [← his]; exact List.mem_range.2 (Array.getElem?_eq_some_iff.1 ho).1) o ho) (fun L a' w hL => hfin L a' w (fun i hi => hL i (by rw [← his] at hi; exact List.mem_range.1 hi)))
end

end Go.Proofs.Ytlcllpgbpjdofaa
