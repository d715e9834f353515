/- How the arguments of the laws on layouts are opened. No condition. -/
import Derived.Test.YtlcllpgbpjdofaaPa
import Derived.Test.YtlcllpgbpjdofaaR0
set_option linter.unusedSimpArgs false
set_option linter.unusedVariables false
set_option maxRecDepth 100000
namespace Go.Proofs.Ytlcllpgbpjdofaa
open Go.ChangeShapes Go.WideShapes Go.ChangeAt Go.RowKit Go.Joins Go.Deep

section
variable {H : Type} {enc : TypeId × Value → H} {W : World} {base : Nat} {v : Value} {d : DataW H} {p : List MemPlace}

/-- a slice of structs whose fields are all ints: each field of each element is a number -/
theorem rows_of_ints {t e : TypeId} {fs : Array Field} {fuel : Nat} {cs : List Value} {x : DataW H × List MemPlace} (ht : Try.prog.underlying t = some (.slice e)) (he : Try.prog.underlying e = some (.struct fs))
    (hone : oneCellFields Try.prog fs = true) (hC : Try.prog.cellsOf e = fs.size) (hint : fs.all (fun f => f.type == 3) = true) (h : DataW.trod enc Try.prog W 0 (fun _ => true) true fuel t cs = some x) :
    cs = [.slice none 0 0] ∨ ∃ (a : Addr) (len cap : Nat), cs = [.slice (some a) len cap] ∧ len ≤ maxLen ∧ ∀ i, i < len → ∀ j, j < fs.size → ∃ q, W.cell? (a.add (i * fs.size + j)) = some (.int .i64 q) := by
  rcases open_slice ht h with h0 | ⟨a, len, cap, m, n, D, Pl, hcs, _, hl, hm, hmm, _, hi⟩
  · exact .inl h0.1
  · refine .inr ⟨a, len, cap, hcs, by omega, fun i hil j hj => ?_⟩
    have hmm' : m = cap := by simpa using hmm
    obtain ⟨cs', hc, ht'⟩ := hi i (by omega)
    rw [hC] at hc
    obtain ⟨ys, n', _, _, _, hyl, hf⟩ := DataW.trod_struct he ht'
    obtain ⟨_, hcl, hat⟩ := World.cells?_some hc
    have hfj : fs[j]? = some fs[j] := Array.getElem?_eq_getElem hj
    obtain ⟨ho, hk⟩ := hone_of hone j _ hfj
    have hty : fs[j].type = 3 := by
      rw [Array.all_eq_true] at hint
      simpa using hint j hj
    have h1 := hf j _ hfj
    rw [ho, hk, hty] at h1
    have hone' : (cs'.drop j).take 1 = [cs'[j]'(by omega)] := by
      rw [List.drop_eq_getElem_cons (by omega)]; rfl
    rw [hone'] at h1
    rw [List.getElem?_eq_getElem (show j < ys.length by omega)] at h1
    obtain ⟨q, hq, _, _⟩ := DataW.trod_int Try.underlying3 h1
    simp only [List.cons.injEq, and_true] at hq
    refine ⟨q, ?_⟩
    have h2 := hat j hj
    rw [List.getElem?_eq_getElem (by omega), hq] at h2
    rw [← h2, add_add]

theorem addr_none {a : Addr} (ha : a = ⟨a.block, a.off, none⟩) (k : Nat) : a.add k = ⟨a.block, a.off + k, none⟩ := by
  rw [ha]
  unfold Addr.add
  by_cases h0 : k = 0 <;> simp [h0]

/-- an argument that is a slice of patches: it reads as the list xs -/
def ArgP (w : World) (A : Option Addr) (n : Nat) (xs : List Pt) : Prop := n ≤ maxLen ∧ (n ≤ 2097152 → RdP w w.heap.size A n xs)

theorem openLayout (hv : Value.okWide Try.prog W .any base 66 v) (h : DataW.Trod enc Try.prog W 0 (fun _ => true) true 66 v d p) : ∃ z y A n c xs, v = .agg #[.int .i64 z, .int .i64 y, .slice A n c] ∧ I64 z ∧ I64 y ∧ ArgP W A n xs := by
  obtain ⟨c0, c1, c2, y0, y1, y2, m, rfl, _, _, hy0, hy1, hy2⟩ := open_agg3 Try.underlying66 (by kernel_rfl) (by kernel_rfl) hv h
  obtain ⟨z, e0, _, wz⟩ := DataW.trod_int Try.underlying3 hy0
  obtain ⟨y, e1, _, wy⟩ := DataW.trod_int Try.underlying3 hy1
  simp only [List.cons.injEq, and_true] at e0 e1
  subst e0 e1
  rcases rows_of_ints Try.underlying64 Try.underlying130 (by kernel_rfl) (by kernel_rfl) (by kernel_rfl) hy2 with h0 | ⟨a, len, cap, hcs, hm, hi⟩
  · simp only [List.cons.injEq, and_true] at h0
    subst h0
    exact ⟨z, y, none, 0, 0, [], rfl, wz, wy, by unfold maxLen; omega, fun _ => ⟨rfl, by omega, fun h => absurd h (by omega)⟩⟩
  · simp only [List.cons.injEq, and_true] at hcs
    subst hcs
    have hex : ∀ i, ∃ c : Pt, i < len → W.cell? (a.add (i * 5 + 0)) = some (.int .i64 c.x) ∧ W.cell? (a.add (i * 5 + 1)) = some (.int .i64 c.y) ∧ W.cell? (a.add (i * 5 + 2)) = some (.int .i64 c.w) ∧ W.cell? (a.add (i * 5 + 3)) = some (.int .i64 c.h) ∧ W.cell? (a.add (i * 5 + 4)) = some (.int .i64 c.c) := by
      intro i
      by_cases hil : i < len
      · obtain ⟨q0, h0⟩ := hi i hil 0 (by decide)
        obtain ⟨q1, h1⟩ := hi i hil 1 (by decide)
        obtain ⟨q2, h2⟩ := hi i hil 2 (by decide)
        obtain ⟨q3, h3⟩ := hi i hil 3 (by decide)
        obtain ⟨q4, h4⟩ := hi i hil 4 (by decide)
        exact ⟨⟨q0, q1, q2, q3, q4⟩, fun _ => ⟨h0, h1, h2, h3, h4⟩⟩
      · exact ⟨⟨0, 0, 0, 0, 0⟩, fun h => absurd h hil⟩
    obtain ⟨f, hf⟩ : ∃ f : Nat → Pt, ∀ i, i < len → W.cell? (a.add (i * 5 + 0)) = some (.int .i64 (f i).x) ∧ W.cell? (a.add (i * 5 + 1)) = some (.int .i64 (f i).y) ∧ W.cell? (a.add (i * 5 + 2)) = some (.int .i64 (f i).w) ∧ W.cell? (a.add (i * 5 + 3)) = some (.int .i64 (f i).h) ∧ W.cell? (a.add (i * 5 + 4)) = some (.int .i64 (f i).c) :=
      ⟨fun i => Classical.choose (hex i), fun i => Classical.choose_spec (hex i)⟩
    refine ⟨z, y, some a, len, cap, (List.range len).map f, rfl, wz, wy, hm, fun hn => ⟨by simp, hn, fun h0 => ?_⟩⟩
    have hc0 := (hf 0 h0).1
    rw [show a.add (0 * 5 + 0) = a from by simp [Addr.add]] at hc0
    have ha := at_none hc0
    refine ⟨a.block, a.off, congrArg some ha, World.block_lt_of_cell? W a hc0, fun k x hx j v hv => ?_⟩
    have hk : k < len := by
      have := (List.getElem?_eq_some_iff.1 hx).1
      simpa using this
    have hxe : x = f k := by
      rw [List.getElem?_map, List.getElem?_range hk] at hx
      simpa using hx.symm
    subst hxe
    obtain ⟨h0, h1, h2, h3, h4⟩ := hf k hk
    rw [addr_none ha] at h0 h1 h2 h3 h4
    match j, hv with
    | 0, hv => simp [Pt.vals] at hv; subst hv; exact h0
    | 1, hv => simp [Pt.vals] at hv; subst hv; exact h1
    | 2, hv => simp [Pt.vals] at hv; subst hv; exact h2
    | 3, hv => simp [Pt.vals] at hv; subst hv; exact h3
    | 4, hv => simp [Pt.vals] at hv; subst hv; exact h4
    | j + 5, hv => simp [Pt.vals] at hv
theorem openCut (hv : Value.okWide Try.prog W .any base 77 v) (h : DataW.Trod enc Try.prog W 0 (fun _ => true) true 77 v d p) : ∃ u a, v = .agg #[.bool u, .int .i64 a] ∧ I64 a := by
  obtain ⟨c0, c1, y0, y1, m, rfl, _, _, hy0, hy1⟩ := open_agg2 Try.underlying77 (by kernel_rfl) (by kernel_rfl) hv h
  obtain ⟨u, e0, _⟩ := DataW.trod_bool Try.underlying4 hy0
  obtain ⟨a, e1, _, wa⟩ := DataW.trod_int Try.underlying3 hy1
  simp only [List.cons.injEq, and_true] at e0 e1
  subst e0 e1
  exact ⟨u, a, rfl, wa⟩
end
end Go.Proofs.Ytlcllpgbpjdofaa
