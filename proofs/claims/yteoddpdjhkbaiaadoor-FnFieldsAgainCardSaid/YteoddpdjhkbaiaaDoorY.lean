/- Rows of bytes of the call's own; several elements appended at once; a row of bytes as a string. No condition. -/
import Derived.Test.YteoddpdjhkbaiaaDoorG
import Derived.Laws.IdiomStrings
import Derived.Laws.BytesArg
import Derived.Shelf.Bytes.SlSmallAll
import Derived.Deep.AppendLies
import Derived.Deep.RegionLaw
set_option linter.unusedSimpArgs false
set_option linter.unusedVariables false
set_option maxRecDepth 100000
namespace Go.Proofs.YteoddpdjhkbaiaaDoor
open Go.RowKit

/-- several elements, laid in one new block, are appended -/
theorem wpList_pushN {P : Program} (w0 : World) (q : Nat) (cs : Array Value) {ops : Array Oper} {rest : List Oper} {o : Oper} {a : Act} {Q : Exit → Act → World → Prop} (hgd : o.guard = none) (s x : Operand) (t : TypeId)
    (ho : o.op = .call { callee := .builtin .append, args := #[s, x], argTypes := #[t, t] })
    (B : Nat) (e : TypeId) (i : TypeInfo) (z : Value) (size bytes : Nat) (ht : P.underlying t = some (.slice e)) (hi : P.info? e = some i) (hz : i.zero = some z)
    (hsize : i.size = size) (hby : i.bytes = bytes) (hzs : z.cells.size = size) (hsz : 0 < size)
    (A : Option Addr) (n c : Nat) (xs : List Value) (hs : a.eval s = .slice A n c) (hown : w0.ownsRow B e size (.slice A n c) n xs)
    (hx : a.eval x = .slice (some ⟨w0.heap.size, 0, none⟩) q q) (hq : 0 < q) (hcs : cs.size = q * size) (h1 : ∀ u ∈ cs.toList, u.oneCell' = true)
    (h63 : n + q ≤ maxLen) (hbytes : (n + q) * bytes ≤ 140737488355328) (hbase : B ≤ w0.heap.size)
    (hK : ∀ g' c' w', w'.ownsRow B e size (.slice (some ⟨g', 0, none⟩) (n + q) c') (n + q) (xs ++ cs.toList) → w0.grownBy w' (Value.slice A n c).ownBlock → ((Value.slice A n c).ownBlock = some g' ∨ w0.heap.size ≤ g') →
      wpList P ops Q rest (a.put o.dst (.slice (some ⟨g', 0, none⟩) (n + q) c')) w') : wpList P ops Q (o :: rest) a (w0.alloc (.cells cs e)) := by
  obtain ⟨v', w', hr, h2, h3, _, h5⟩ := run_append_own_at (P := P) (w0.alloc (.cells cs e)) B t o.type e i z size bytes ht hi hz hsize hby hzs hsz (.slice A n c) n xs (hown.alloc _) ⟨w0.heap.size, 0, none⟩ q q cs.toList (by simpa using hcs)
    (by
      intro j u hj
      have hj' : cs[j]? = some u := by simpa using hj
      have he : (⟨w0.heap.size, 0, none⟩ : Addr).add j = ⟨w0.heap.size, j, none⟩ := by
        unfold Addr.add
        by_cases h0 : j = 0 <;> simp [h0]
      rw [he, World.cell?_alloc_new]
      exact hj') h1 h63 hbytes (by simp; omega)
  obtain ⟨g', c', rfl⟩ := slice_form h2 (by omega)
  refine wpList_plain hgd fun K hK' => ?_
  unfold Oper.wp execOp
  simp only [ho, resolve, invoke, builtin, Sem.run_bind, Sem.run_pure, Result.andThen_ok, List.map_toArray, List.map_cons, List.map_nil, hs, hx, hr]
  refine hK' _ _ (hK g' c' w' h2 ⟨h3.os, h3.tape, h3.output, Nat.le_trans (by simp) h3.size, fun k hk hne => (h3.block k (by simp; omega) hne).trans (Below.heap_alloc w0 _ k hk)⟩ ?_)
  rcases h5 with h5 | h5
  · exact .inl h5.symm
  · refine .inr ?_
    simp [Value.ownBlock] at h5
    omega

section
variable {α : Type} {vals : α → List Value} {m : Nat}
/-- several elements are appended -/
theorem wpList_pushGN {P : Program} (hv : ∀ x, (vals x).length = m) (w0 : World) (q : Nat) (ys : List α) (cs : Array Value) {ops : Array Oper} {rest : List Oper} {o : Oper} {a : Act} {Q : Exit → Act → World → Prop} (hgd : o.guard = none) (s x : Operand) (t : TypeId)
    (ho : o.op = .call { callee := .builtin .append, args := #[s, x], argTypes := #[t, t] })
    (B : Nat) (T : TypeId) (i : TypeInfo) (z : Value) (bytes : Nat) (ht : P.underlying t = some (.slice T)) (hi : P.info? T = some i) (hz : i.zero = some z)
    (hsize : i.size = m) (hby : i.bytes = bytes) (hb1 : bytes ≤ 1000) (hzs : z.cells.size = m) (hsz : 0 < m) (hq : 0 < q) (hys : ys.length = q) (hcs : cs.toList = ys.flatMap vals) (h1 : ∀ u ∈ cs.toList, u.oneCell' = true)
    (A : Option Addr) (n c : Nat) (xs : List α) (hs : a.eval s = .slice A n c) (hown : OwnG vals m T w0 B A n c xs)
    (hx : a.eval x = .slice (some ⟨w0.heap.size, 0, none⟩) q q) (hn : n + q ≤ 2097152) (hbase : B ≤ w0.heap.size)
    (hK : ∀ g' c' w', OwnG vals m T w' B (some ⟨g', 0, none⟩) (n + q) c' (xs ++ ys) → w0.grownBy w' (Value.slice A n c).ownBlock → ((Value.slice A n c).ownBlock = some g' ∨ w0.heap.size ≤ g') →
      wpList P ops Q rest (a.put o.dst (.slice (some ⟨g', 0, none⟩) (n + q) c')) w') : wpList P ops Q (o :: rest) a (w0.alloc (.cells cs T)) := by
  refine wpList_pushN w0 q cs hgd s x _ ho B T i z m bytes ht hi hz hsize hby hzs hsz A n c (xs.flatMap vals) hs hown.2.2 hx hq (by rw [← Array.length_toList, hcs, flatG_len hv, hys]) h1 (by unfold maxLen; omega) ?_ hbase ?_
  · have : (n + q) * bytes ≤ 2097152 * 1000 := Nat.mul_le_mul hn hb1
    omega
  · intro g' c' w' h2 h3 h4
    refine hK g' c' w' ⟨hn, by rw [List.length_append, hown.2.1, hys], ?_⟩ h3 h4
    rw [List.flatMap_append, ← hcs]
    exact h2
end

def bval (b : UInt8) : List Value := [.int .u8 (b.toNat : Int)]
theorem blen (b : UInt8) : (bval b).length = 1 := rfl
abbrev OwnY (w : World) (B : Nat) (A : Option Addr) (n c : Nat) (l : List UInt8) : Prop := OwnG bval 1 5 w B A n c l
theorem byte_info : (Tryd.prog.info? 5).map (fun i => (i.zero, i.size, i.bytes)) = some (some (.int .u8 0), 1, 1) := by kernel_rfl
theorem wpList_pushY (w0 : World) (q : Nat) (ys : List UInt8) (cs : Array Value) {ops : Array Oper} {rest : List Oper} {o : Oper} {a : Act} {Q : Exit → Act → World → Prop} (hgd : o.guard = none) (s x : Operand)
    (ho : o.op = .call { callee := .builtin .append, args := #[s, x], argTypes := #[27, 27] }) (hq : 0 < q) (hys : ys.length = q) (hcs : cs.toList = ys.flatMap bval)
    (B : Nat) (A : Option Addr) (n c : Nat) (xs : List UInt8) (hs : a.eval s = .slice A n c) (hown : OwnY w0 B A n c xs)
    {N : Nat} (hx : a.eval x = .slice (some ⟨N, 0, none⟩) q q) (hN : w0.heap.size = N) (hn : n + q ≤ 2097152) (hbase : B ≤ w0.heap.size)
    (hK : ∀ g' c' w', OwnY w' B (some ⟨g', 0, none⟩) (n + q) c' (xs ++ ys) → w0.grownBy w' (Value.slice A n c).ownBlock → ((Value.slice A n c).ownBlock = some g' ∨ w0.heap.size ≤ g') →
      wpList Tryd.prog ops Q rest (a.put o.dst (.slice (some ⟨g', 0, none⟩) (n + q) c')) w') : wpList Tryd.prog ops Q (o :: rest) a (w0.alloc (.cells cs 5)) := by
  subst hN
  obtain ⟨i0, hi, hz0, hz1, hz2⟩ := info_parts byte_info
  refine wpList_pushGN blen w0 q ys cs hgd s x _ ho B 5 i0 (.int .u8 0) 1 Tryd.underlying27 hi hz0 hz1 hz2 (by omega) rfl (by omega) hq hys hcs ?_ A n c xs hs hown hx hn hbase hK
  intro u hu
  rw [hcs, List.mem_flatMap] at hu
  obtain ⟨b, _, hb⟩ := hu
  simp [bval] at hb
  subst hb; rfl

/-- bytes are appended: a step of a region that draws its order -/
theorem step_pushY (w0 : World) (q : Nat) (ys : List UInt8) (cs : Array Value) {ops : Array Oper} {o : Oper} {a : Act} {K : Act → World → Prop} {Q : Exit → Act → World → Prop} {E : Prop} (hgd : o.guard = none) (s x : Operand)
    (ho : o.op = .call { callee := .builtin .append, args := #[s, x], argTypes := #[27, 27] }) (hq : 0 < q) (hys : ys.length = q) (hcs : cs.toList = ys.flatMap bval)
    (B : Nat) (A : Option Addr) (n c : Nat) (xs : List UInt8) (hs : a.eval s = .slice A n c) (hown : OwnY w0 B A n c xs)
    {N : Nat} (hx : a.eval x = .slice (some ⟨N, 0, none⟩) q q) (hN : w0.heap.size = N) (hn : n + q ≤ 2097152) (hbase : B ≤ w0.heap.size)
    (hK : ∀ g' c' w', OwnY w' B (some ⟨g', 0, none⟩) (n + q) c' (xs ++ ys) → w0.grownBy w' (Value.slice A n c).ownBlock → ((Value.slice A n c).ownBlock = some g' ∨ w0.heap.size ≤ g') →
      K (a.put o.dst (.slice (some ⟨g', 0, none⟩) (n + q) c')) w') : if Region.wanted o (yielded ops a.tmps) = true then Oper.wp Tryd.prog o a (w0.alloc (.cells cs 5)) K Q else E := by
  subst hN
  obtain ⟨i0, hi, hz0, hz1, hz2⟩ := info_parts byte_info
  have hl : cs.toList.length = q * 1 := by rw [hcs, flatG_len blen, hys]
  refine step_append_lies (w0.alloc (.cells cs 5)) hgd s x 27 ho B 5 i0 (.int .u8 0) 1 1 Tryd.underlying27 hi hz0 hz1 hz2 rfl (by omega) (.slice A n c) n (xs.flatMap bval) hs (hown.2.2.alloc _) ⟨w0.heap.size, 0, none⟩ q q cs.toList hx hl ?_ ?_ (by omega) (by unfold maxLen; omega) (by omega) (by simp; omega) (w0.heap.size + 1) (by simp) ?_
  · intro j u hj
    have hj' : cs[j]? = some u := by simpa using hj
    have he : (⟨w0.heap.size, 0, none⟩ : Addr).add j = ⟨w0.heap.size, j, none⟩ := by
      unfold Addr.add
      by_cases h0 : j = 0 <;> simp [h0]
    rw [he, World.cell?_alloc_new]
    exact hj'
  · intro u hu
    rw [hcs, List.mem_flatMap] at hu
    obtain ⟨b, _, hb⟩ := hu
    simp [bval] at hb
    subst hb; rfl
  · intro g' c' w' h2 h3 h5 _
    refine hK g' c' w' ⟨hn, by rw [List.length_append, hown.2.1, hys], by rw [List.flatMap_append, ← hcs]; exact h2⟩ ⟨h3.os, h3.tape, h3.output, Nat.le_trans (by simp) h3.size, fun k hk hne => (h3.block k (by simp; omega) hne).trans (Below.heap_alloc w0 _ k hk)⟩ ?_
    rcases h5 with h5 | h5
    · exact .inl h5
    · exact .inr (by omega)

def bt (s : ByteArray) (j : Nat) : Nat := (s.data.toList.getD j 0).toNat
theorem bt_lt (s : ByteArray) (j : Nat) : bt s j < 256 := (s.data.toList.getD j 0).toNat_lt
theorem bt_get {s : ByteArray} {j : Nat} (h : j < s.size) : s[j].toNat = bt s j := by
  unfold bt
  rw [List.getD_eq_getElem?_getD, List.getElem?_eq_getElem (by simpa using h)]; rfl
def bstr (l : List UInt8) : ByteArray := ⟨l.toArray⟩
theorem bstr_size (l : List UInt8) : (bstr l).size = l.length := by simp [bstr, ByteArray.size]
/-- 'string(b)' of a row of the call's own -/
theorem OwnY.run_string {w : World} {B n c : Nat} {A : Option Addr} {l : List UInt8} (h : OwnY w B A n c l) : (convert 27 9 (.slice A n c)).run Tryd.prog w = .ok (.string (bstr l)) w := by
  have hl := h.len
  by_cases hn : 0 < n
  · obtain ⟨g, rfl, _, _⟩ := h.form hn
    have h2 := run_convert_bytes_back (P := Tryd.prog) w 27 9 5 ⟨g, 0, none⟩ c l Tryd.underlying27 Tryd.underlying5 Tryd.underlying9 (fun j hj => by
      have he : (⟨g, 0, none⟩ : Addr).add j = ⟨g, j, none⟩ := by
        unfold Addr.add
        by_cases h0 : j = 0 <;> simp [h0]
      rw [he]
      have h3 := h.cellAt blen (k := j) (x := l[j]) (List.getElem?_eq_getElem hj) (j := 0) (v := .int .u8 (l[j].toNat : Int)) rfl
      rw [Nat.mul_one, Nat.add_zero] at h3
      exact h3)
    rw [hl] at h2
    exact h2
  · obtain rfl : n = 0 := by omega
    obtain rfl : l = [] := List.eq_nil_of_length_eq_zero hl
    exact run_convert_bytes_zero w _ _ Tryd.underlying27 Tryd.underlying5 A c _ Tryd.underlying9
end Go.Proofs.YteoddpdjhkbaiaaDoor
