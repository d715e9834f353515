/- Walks of ColorsOf and IsBalanced, both sides. No condition. -/
import Derived.Test.YtlcllpgbpjdofaaM
import Derived.Deep.RegionHeld3
import Derived.Deep.QuietTactic
import Derived.BigQuiet
set_option linter.unusedSimpArgs false
set_option linter.unusedVariables false
set_option maxRecDepth 100000
namespace Go.Proofs.Ytlcllpgbpjdofaa
open Go.RowKit

def usedTo (xs : List C) (a : Int) (k : Nat) : Bool := (xs.take k).any (fun c => c.a == a || c.b == a)
theorem usedTo_succ {xs : List C} {a : Int} {k : Nat} (h : k < xs.length) : usedTo xs a (k + 1) = (usedTo xs a k || ((cith xs k).a == a || (cith xs k).b == a)) := by
  unfold usedTo
  rw [List.take_succ_eq_append_getElem h, List.any_append, cith_get h]; simp
def colTo (z : Int) (xs : List C) (k : Nat) : List Int := ((List.range k).filter (fun a => decide (0 < areaN z xs a))).map (fun (a : Nat) => (a : Int))
def colB (z : Int) (xs : List C) : List Int := if bOk z xs then colTo z xs 6 else []
theorem colTo_t {z : Int} {xs : List C} {k : Nat} (h : 0 < areaN z xs k) : colTo z xs (k + 1) = colTo z xs k ++ [(k : Int)] := by
  simp [colTo, List.range_succ, List.filter_append, h]
theorem colTo_f {z : Int} {xs : List C} {k : Nat} (h : ¬ 0 < areaN z xs k) : colTo z xs (k + 1) = colTo z xs k := by
  simp [colTo, List.range_succ, List.filter_append, h]
theorem colTo_len (z : Int) (xs : List C) (k : Nat) : (colTo z xs k).length ≤ k := by
  rw [colTo, List.length_map]
  exact Nat.le_trans (List.length_filter_le _ _) (by simp)
theorem colTo_mem {z : Int} {xs : List C} {k : Nat} {a : Int} : a ∈ colTo z xs k ↔ ∃ j : Nat, j < k ∧ 0 < areaN z xs j ∧ a = (j : Int) := by
  simp only [colTo, List.mem_map, List.mem_filter, List.mem_range, decide_eq_true_eq]
  exact ⟨fun ⟨j, ⟨h1, h2⟩, h3⟩ => ⟨j, h1, h2, h3.symm⟩, fun ⟨j, h1, h2, h3⟩ => ⟨j, ⟨h1, h2⟩, h3.symm⟩⟩
theorem bcell_le {B : Nat} {W w1 : World} (hb : Below B W w1) {b : Nat} (h : b < B) (hw : b < W.heap.size) : (∀ o, w1.cell? ⟨b, o, none⟩ = W.cell? ⟨b, o, none⟩) ∧ (∀ o, w1.frozen? ⟨b, o, none⟩ = W.frozen? ⟨b, o, none⟩) ∧ b < w1.heap.size :=
  ⟨fun o => hb.cell (p := ⟨b, o, none⟩) h, fun o => hb.frozen (p := ⟨b, o, none⟩) h, Nat.lt_of_lt_of_le hw hb.size⟩
/-- a color has an area in a block if, and only if, some cell bears it -/
theorem used_area {z : Int} {xs : List C} (hb : bOk z xs = true) (a : Nat) : 0 < areaN z xs a ↔ usedTo xs a xs.length = true := by
  have hall := (bOk_size hb).2.2.2
  have e : areaN z xs a = sumTo (areaF a) xs xs.length := by rw [areaN, areaB, if_pos hb]
  have key : ∀ k, k ≤ xs.length → 0 ≤ sumTo (areaF a) xs k ∧ (0 < sumTo (areaF a) xs k ↔ usedTo xs a k = true) := by
    intro k
    induction k with
    | zero => intro _; rw [sumTo_zero]; simp [usedTo]
    | succ k ih =>
      intro hk
      obtain ⟨i1, i2⟩ := ih (by omega)
      have hc := allOkC_at hall (show k < xs.length by omega)
      have hf : areaF a (cith xs k) = (if (cith xs k).a = a then 2 else 0) + (if (cith xs k).b = a then 2 else 0) := by rw [areaF, areaC, if_pos hc]
      rw [sumTo_succ _ _ _ (by omega), usedTo_succ (by omega), hf]
      constructor
      · split <;> split <;> omega
      · simp only [Bool.or_eq_true, beq_iff_eq, ← i2]
        split <;> split <;> simp_all <;> omega
  rw [e]
  exact (key _ (Nat.le_refl _)).2
theorem colB_pos {z : Int} {xs : List C} (hb : bOk z xs = true) : 0 < (colB z xs).length := by
  obtain ⟨h1, h2, h3, hall⟩ := bOk_size hb
  have hpos : 0 < xs.length := by
    have := mul_le16 (y := 0) (z := z) (by omega) (by omega) h2
    have h4 : 0 < z * z := Int.mul_pos (by omega) (by omega)
    omega
  have hc := cOk_t (allOkC_at hall hpos)
  obtain ⟨a, ha⟩ := Int.eq_ofNat_of_zero_le hc.2.2.1
  have hu : usedTo xs a xs.length = true := by
    unfold usedTo
    rw [List.any_eq_true]
    refine ⟨cith xs 0, ?_, by simp [ha]⟩
    rw [List.take_length, cith_get hpos]
    exact List.getElem_mem _
  have hm : (a : Int) ∈ colB z xs := by
    rw [colB, if_pos hb, colTo_mem]
    exact ⟨a, by omega, (used_area hb a).2 hu, rfl⟩
  exact List.length_pos_of_mem hm

set_option maxHeartbeats 1000000 in
theorem impl_ColorsOf_yes (z : Int) (A : Option Addr) (n c : Nat) (xs : List C) (w : World) (h : RdC w w.heap.size A n xs) (hbk : bOk z xs = true) :
    Calls Try.prog 74 #[.agg #[.int .i64 z, .slice A n c]] w fun e w' => ∃ A n c, e = .returned (.slice A n c) ∧ OwnI w' w.heap.size A n c (colB z xs) ∧ Below w.heap.size w w' := by
  have hs := lt2
  have H := Lib.hid h
  clear h
  go_enter Try.func74, Try.ntmps74
  go_wp2_with (go_at_call 72; refine (impl_BlockOk _ _ _ _ _ _ (H.out.below' (by (repeat' (first | (with_reducible exact Below.refl _ _) | (with_reducible refine Below.setCell ?_ ?_ _) | (with_reducible refine Below.alloc ?_ ?_ _) | (with_reducible refine Below.drew ?_) | (with_reducible refine Below.drewN ?_ _) | (with_reducible refine Below.trans ?_ (Below.mono (by with_reducible assumption) ?_)) | go_size | (dsimp only; omega)))) (by go_size))).mono ?_; rintro e w1 ⟨rfl, hb1⟩; obtain ⟨hc1, hf1, hz1⟩ := bcell hb1 (b := w.heap.size) (by go_size))
  have HW := Lib.hid (show Below w.heap.size w w1 by (repeat' (first | (with_reducible exact Below.refl _ _) | (with_reducible refine Below.setCell ?_ ?_ _) | (with_reducible refine Below.alloc ?_ ?_ _) | (with_reducible refine Below.drew ?_) | (with_reducible refine Below.drewN ?_ _) | (with_reducible refine Below.trans ?_ (Below.mono (by with_reducible assumption) ?_)) | go_size | (dsimp only; omega))))
  have H1 := Lib.hid (H.out.next HW.out)
  clear hb1
  go_loopw [3, 9] (fun v i wr => ∃ (k g m c' : Nat), k ≤ 6 ∧ m ≤ k ∧ i = .int .i64 k ∧ v = .slice (some ⟨g, 0, none⟩) m c' ∧ Hid (OwnI wr w1.heap.size (some ⟨g, 0, none⟩) m c' (colTo z xs k)) ∧ Hid (Below w1.heap.size w1 wr)) (fun _ i _ => 6 - (intOf i).toNat)
  case atStart => exact ⟨0, _, 0, _, by omega, by omega, rfl, rfl, OwnI.empty (Nat.le_refl _), (Below.refl _ _).alloc (Nat.le_refl _) _⟩
  case round =>
    obtain ⟨k, g, m, c', hk, hmk, rfl, rfl, ho, hb⟩ := hrel
    obtain ⟨bc, bf, bz⟩ := bcell hb.out (b := w.heap.size) hz1
    have hcz : ∀ o, wr.cell? ⟨w.heap.size, o, none⟩ = (w.alloc (.cells #[.int .i64 z, .slice A n c] 42)).cell? ⟨w.heap.size, o, none⟩ := fun o => (bc o).trans (hc1 o)
    have p0 : wr.cell? ⟨w.heap.size, 0, none⟩ = some (.int .i64 z) := (hcz 0).trans (by rw [World.cell?_alloc_new]; rfl)
    have p1 : wr.cell? ⟨w.heap.size, 1, none⟩ = some (.slice A n c) := (hcz 1).trans (by rw [World.cell?_alloc_new]; rfl)
    clear bc bf hcz
    have hy := hb.out.size
    have hbo : Below w1.heap.size w1 wr := hb.out
    by_cases hlt : k < 6
    · by_cases hq : 0 < areaB z xs (k : Int)
      · have HE := Lib.hid (colTo_t (z := z) (xs := xs) (k := k) hq)
        go_wp2_with (first
          | (go_at_call 25; refine (impl_AreaOf _ _ _ _ _ _ _ (H1.out.below' (by (repeat' (first | (with_reducible exact Below.refl _ _) | (with_reducible refine Below.setCell ?_ ?_ _) | (with_reducible refine Below.alloc ?_ ?_ _) | (with_reducible refine Below.drew ?_) | (with_reducible refine Below.drewN ?_ _) | (with_reducible refine Below.trans ?_ (Below.mono (by with_reducible assumption) ?_)) | go_size | (dsimp only; omega)))) (by go_size))).mono ?_; rintro e w3 ⟨rfl, hb3⟩; obtain ⟨bc3, bf3, bz3⟩ := bcell hb3 (b := w.heap.size) (by go_size); have hx3 := bsize hb3; (try simp at hx3))
          | (at_builtin; refine wpList_pushI _ _ rfl _ _ rfl w1.heap.size _ _ _ _ rfl (ho.out.next (show Below wr.heap.size wr w3 by (repeat' (first | (with_reducible exact Below.refl _ _) | (with_reducible refine Below.setCell ?_ ?_ _) | (with_reducible refine Below.alloc ?_ ?_ _) | (with_reducible refine Below.drew ?_) | (with_reducible refine Below.drewN ?_ _) | (with_reducible refine Below.trans ?_ (Below.mono (by with_reducible assumption) ?_)) | go_size | (dsimp only; omega))))) rfl (by omega) (by omega) ?_; intro g4 c4 w4 ho4 hg4 _; have HO4 := Lib.hid ho4; have HB4 := Lib.hid ((show Below w1.heap.size wr w3 by (repeat' (first | (with_reducible exact Below.refl _ _) | (with_reducible refine Below.setCell ?_ ?_ _) | (with_reducible refine Below.alloc ?_ ?_ _) | (with_reducible refine Below.drew ?_) | (with_reducible refine Below.drewN ?_ _) | (with_reducible refine Below.trans ?_ (Below.mono (by with_reducible assumption) ?_)) | go_size | (dsimp only; omega)))).trans ((ho.out.next (show Below wr.heap.size wr w3 by (repeat' (first | (with_reducible exact Below.refl _ _) | (with_reducible refine Below.setCell ?_ ?_ _) | (with_reducible refine Below.alloc ?_ ?_ _) | (with_reducible refine Below.drew ?_) | (with_reducible refine Below.drewN ?_ _) | (with_reducible refine Below.trans ?_ (Below.mono (by with_reducible assumption) ?_)) | go_size | (dsimp only; omega))))).belowOwn hg4 (by omega))); clear ho4 hg4))
        go_roundw
        case rel => exact ⟨k + 1, g4, m + 1, c4, by omega, by omega, by go_num, rfl, by rw [HE.out]; exact HO4.out, hb.out.trans HB4.out⟩
        case measure => simp [intOf]; omega
      · have HE := Lib.hid (colTo_f (z := z) (xs := xs) (k := k) hq)
        go_wp2_with (go_at_call 25; refine (impl_AreaOf _ _ _ _ _ _ _ (H1.out.below' (by (repeat' (first | (with_reducible exact Below.refl _ _) | (with_reducible refine Below.setCell ?_ ?_ _) | (with_reducible refine Below.alloc ?_ ?_ _) | (with_reducible refine Below.drew ?_) | (with_reducible refine Below.drewN ?_ _) | (with_reducible refine Below.trans ?_ (Below.mono (by with_reducible assumption) ?_)) | go_size | (dsimp only; omega)))) (by go_size))).mono ?_; rintro e w3 ⟨rfl, hb3⟩; obtain ⟨bc3, bf3, bz3⟩ := bcell hb3 (b := w.heap.size) (by go_size); have hx3 := bsize hb3; (try simp at hx3); have HO4 := Lib.hid (ho.out.next (show Below wr.heap.size wr w3 by (repeat' (first | (with_reducible exact Below.refl _ _) | (with_reducible refine Below.setCell ?_ ?_ _) | (with_reducible refine Below.alloc ?_ ?_ _) | (with_reducible refine Below.drew ?_) | (with_reducible refine Below.drewN ?_ _) | (with_reducible refine Below.trans ?_ (Below.mono (by with_reducible assumption) ?_)) | go_size | (dsimp only; omega))))); have HB4 := Lib.hid (show Below w1.heap.size wr w3 by (repeat' (first | (with_reducible exact Below.refl _ _) | (with_reducible refine Below.setCell ?_ ?_ _) | (with_reducible refine Below.alloc ?_ ?_ _) | (with_reducible refine Below.drew ?_) | (with_reducible refine Below.drewN ?_ _) | (with_reducible refine Below.trans ?_ (Below.mono (by with_reducible assumption) ?_)) | go_size | (dsimp only; omega)))))
        go_roundw
        case rel => exact ⟨k + 1, g, m, c', by omega, by omega, by go_num, rfl, by rw [HE.out]; exact HO4.out, hb.out.trans HB4.out⟩
        case measure => simp [intOf]; omega
    · go_wp2
      go_ret
      obtain rfl : k = 6 := by omega
      have e : colB z xs = colTo z xs 6 := if_pos hbk
      exact ⟨_, _, _, rfl, e ▸ ho.out.base HW.out.size, HW.out.trans (hb.out.mono HW.out.size)⟩
set_option maxHeartbeats 1000000 in
theorem impl_ColorsOf_no (z : Int) (A : Option Addr) (n c : Nat) (xs : List C) (w : World) (h : RdC w w.heap.size A n xs) (hbk : bOk z xs = false) :
    Calls Try.prog 74 #[.agg #[.int .i64 z, .slice A n c]] w fun e w' => ∃ A n c, e = .returned (.slice A n c) ∧ OwnI w' w.heap.size A n c (colB z xs) ∧ Below w.heap.size w w' := by
  have hs := lt2
  have H := Lib.hid h
  clear h
  have HE := Lib.hid (show colB z xs = [] by rw [colB, hbk]; rfl)
  go_enter Try.func74, Try.ntmps74
  go_wp2_with (go_at_call 72; refine (impl_BlockOk _ _ _ _ _ _ (H.out.below' (by (repeat' (first | (with_reducible exact Below.refl _ _) | (with_reducible refine Below.setCell ?_ ?_ _) | (with_reducible refine Below.alloc ?_ ?_ _) | (with_reducible refine Below.drew ?_) | (with_reducible refine Below.drewN ?_ _) | (with_reducible refine Below.trans ?_ (Below.mono (by with_reducible assumption) ?_)) | go_size | (dsimp only; omega)))) (by go_size))).mono ?_; rintro e w1 ⟨rfl, hb1⟩)
  go_ret
  exact ⟨_, _, _, rfl, HE.out ▸ OwnI.nil_, by (repeat' (first | (with_reducible exact Below.refl _ _) | (with_reducible refine Below.setCell ?_ ?_ _) | (with_reducible refine Below.alloc ?_ ?_ _) | (with_reducible refine Below.drew ?_) | (with_reducible refine Below.drewN ?_ _) | (with_reducible refine Below.trans ?_ (Below.mono (by with_reducible assumption) ?_)) | go_size | (dsimp only; omega)))⟩
theorem impl_ColorsOf (z : Int) (A : Option Addr) (n c : Nat) (xs : List C) (w : World) (h : RdC w w.heap.size A n xs) :
    Calls Try.prog 74 #[.agg #[.int .i64 z, .slice A n c]] w fun e w' => ∃ A n c, e = .returned (.slice A n c) ∧ OwnI w' w.heap.size A n c (colB z xs) ∧ Below w.heap.size w w' := by
  cases hp : bOk z xs with
  | true => exact impl_ColorsOf_yes z A n c xs w h hp
  | false => exact impl_ColorsOf_no z A n c xs w h hp

set_option maxRecDepth 100000 in
set_option maxHeartbeats 2000000 in
theorem spec_ColorsOf_yes (z : Int) (A : Option Addr) (n c : Nat) (xs : List C) (w : World) (h : RdC w w.heap.size A n xs) (hbk : bOk z xs = true) :
    Calls Try.prog 24 #[.agg #[.int .i64 z, .slice A n c]] w fun e w' => ∃ A n c, e = .returned (.slice A n c) ∧ OwnI w' w.heap.size A n c (colB z xs) ∧ Below w.heap.size w w' := by
  have hs := lt2
  have hle := h.le
  have HL := Lib.hid h.1
  have H := Lib.hid h
  clear h
  have HU := Lib.hid (fun a : Nat => used_area hbk a)
  go_enter Try.func24, Try.ntmps24
  go_wp2_with (go_at_call 73; refine (spec_BlockOk _ _ _ _ _ _ (H.out.below' (by (repeat' (first | (with_reducible exact Below.refl _ _) | (with_reducible refine Below.setCell ?_ ?_ _) | (with_reducible refine Below.alloc ?_ ?_ _) | (with_reducible refine Below.drew ?_) | (with_reducible refine Below.drewN ?_ _) | (with_reducible refine Below.trans ?_ (Below.mono (by with_reducible assumption) ?_)) | go_size | (dsimp only; omega)))) (by go_size))).mono ?_; rintro e w1 ⟨rfl, hb1⟩; have hx1 := bsize hb1; (try simp at hx1); obtain ⟨hc1, hf1, hz1⟩ := bcell hb1 (b := w.heap.size) (by go_size))
  have HW := Lib.hid (show Below w.heap.size w w1 by (repeat' (first | (with_reducible exact Below.refl _ _) | (with_reducible refine Below.setCell ?_ ?_ _) | (with_reducible refine Below.alloc ?_ ?_ _) | (with_reducible refine Below.drew ?_) | (with_reducible refine Below.drewN ?_ _) | (with_reducible refine Below.trans ?_ (Below.mono (by with_reducible assumption) ?_)) | go_size | (dsimp only; omega))))
  have H1 := Lib.hid (H.out.next HW.out)
  have HOE : OwnI w1 (w.heap.size + 1) (some ⟨w.heap.size + 1, 0, none⟩) 0 0 [] := by
    have h0 := OwnI.empty (w := w.alloc (.cells #[.int .i64 z, .slice A n c] 42)) (B := w.heap.size + 1) (by simp)
    have h1 := OwnI.next h0 hb1
    simpa using h1
  have HO := Lib.hid HOE
  clear HOE
  clear hb1
  go_loopw [3, 4] (fun v i wr => ∃ (k m c' : Nat) (A' : Option Addr), k ≤ 6 ∧ m ≤ k ∧ i = .int .i64 k ∧ v = .slice A' m c' ∧ Hid (OwnI wr (w.heap.size + 1) A' m c' (colTo z xs k)) ∧ Hid (Below (w.heap.size + 1) w1 wr)) (fun _ i _ => 6 - (intOf i).toNat)
  case atStart => exact ⟨0, 0, 0, _, by omega, by omega, rfl, rfl, HO.out, Below.refl _ _⟩
  case round =>
    obtain ⟨k, m, c', A', hk, hmk, rfl, rfl, ho, hb⟩ := hrel
    obtain ⟨bc, bf, bz⟩ := bcell_le hb.out (b := w.heap.size) (by omega) hz1
    have hcz : ∀ o, wr.cell? ⟨w.heap.size, o, none⟩ = (w.alloc (.cells #[.int .i64 z, .slice A n c] 42)).cell? ⟨w.heap.size, o, none⟩ := fun o => (bc o).trans ((hc1 o).trans (World.cell?_alloc_lt _ _ _ (by go_size)))
    have p0 : wr.cell? ⟨w.heap.size, 0, none⟩ = some (.int .i64 z) := (hcz 0).trans (by rw [World.cell?_alloc_new]; rfl)
    have p1 : wr.cell? ⟨w.heap.size, 1, none⟩ = some (.slice A n c) := (hcz 1).trans (by rw [World.cell?_alloc_new]; rfl)
    clear bc bf hcz
    have hy := hb.out.size
    have HRD := Lib.hid (H.out.below ((show Below w.heap.size w w1 from HW.out).trans (hb.out.mono (by omega))))
    obtain ⟨wo, rfl⟩ : ∃ wo : World, wo = wr := ⟨_, rfl⟩
    by_cases hlt : k < 6
    · go_wp2
      go_loop [5, 6] (fun u i => ∃ (j : Nat) (t : Bool), j ≤ n ∧ i = .int .i64 j ∧ u = .bool t ∧ Hid (t = usedTo xs k j)) (fun _ i => n - (intOf i).toNat)
      case atStart => exact ⟨0, false, by omega, rfl, rfl, rfl⟩
      case round =>
        obtain ⟨j, t, hj, rfl, rfl, ht⟩ := hrel
        by_cases hjn : j < n
        · obtain ⟨g, off, rfl, d0, d1, d2⟩ := HRD.out.at_ hjn
          have hst := usedTo_succ (xs := xs) (a := (k : Int)) (k := j) (by rw [HL.out]; exact hjn)
          rw [← ht.out] at hst
          have hj0 : (0 : Int) ≤ (j : Int) := by omega
          have hj1 : (j : Int) < (n : Int) := by omega
          cases t with
          | true =>
            have HE := Lib.hid (show true = usedTo xs k (j + 1) by rw [hst]; rfl)
            clear hst
            go_wp2
            go_round
            case rel => exact ⟨j + 1, _, by omega, by go_num, rfl, HE.out⟩
            case measure => simp [intOf]; omega
          | false =>
            cases ha : (cith xs j).a == (k : Int) with
            | true =>
              have HE := Lib.hid (show true = usedTo xs k (j + 1) by rw [hst, ha]; rfl)
              clear hst
              go_wp2
              go_round
              case rel => exact ⟨j + 1, _, by omega, by go_num, rfl, HE.out⟩
              case measure => simp [intOf]; omega
            | false =>
              have HE := Lib.hid (show ((cith xs j).b == (k : Int)) = usedTo xs k (j + 1) by rw [hst, ha]; rfl)
              clear hst
              go_wp2
              go_round
              case rel => exact ⟨j + 1, _, by omega, by go_num, rfl, HE.out⟩
              case measure => simp [intOf]; omega
        · have ej : j = n := by omega
          cases t with
          | true =>
            have hq : 0 < areaN z xs k := by rw [HU.out k, HL.out, ← ej]; exact ht.out.symm
            have HE := Lib.hid (colTo_t (z := z) (xs := xs) (k := k) hq)
            clear hq ej
            go_wp2_with (at_builtin; refine wpList_pushI _ _ rfl _ _ rfl (w.heap.size + 1) _ _ _ _ rfl ho.out rfl (by omega) (by omega) ?_; intro g4 c4 w4 ho4 hg4 _; have HO4 := Lib.hid ho4; have HB4 := Lib.hid (ho.out.belowOwn hg4 (by omega)); clear ho4 hg4)
            go_roundw
            case rel => exact ⟨k + 1, m + 1, c4, _, by omega, by omega, by go_num, rfl, by rw [HE.out]; exact HO4.out, hb.out.trans HB4.out⟩
            case measure => simp [intOf]; omega
          | false =>
            have hq : ¬ 0 < areaN z xs k := by rw [HU.out k, HL.out, ← ej, ← ht.out]; simp
            have HE := Lib.hid (colTo_f (z := z) (xs := xs) (k := k) hq)
            clear hq ej
            go_wp2
            go_roundw
            case rel => exact ⟨k + 1, m, c', _, by omega, by omega, by go_num, rfl, by rw [HE.out]; exact ho.out, hb.out⟩
            case measure => simp [intOf]; omega
    · go_wp2
      go_ret
      obtain rfl : k = 6 := by omega
      have e : colB z xs = colTo z xs 6 := if_pos hbk
      exact ⟨_, _, _, rfl, e ▸ ho.out.base (by omega), HW.out.trans (hb.out.mono (by omega))⟩
set_option maxHeartbeats 1000000 in
theorem spec_ColorsOf_no (z : Int) (A : Option Addr) (n c : Nat) (xs : List C) (w : World) (h : RdC w w.heap.size A n xs) (hbk : bOk z xs = false) :
    Calls Try.prog 24 #[.agg #[.int .i64 z, .slice A n c]] w fun e w' => ∃ A n c, e = .returned (.slice A n c) ∧ OwnI w' w.heap.size A n c (colB z xs) ∧ Below w.heap.size w w' := by
  have hs := lt2
  have H := Lib.hid h
  clear h
  have HE := Lib.hid (show colB z xs = [] by rw [colB, hbk]; rfl)
  go_enter Try.func24, Try.ntmps24
  go_wp2_with (go_at_call 73; refine (spec_BlockOk _ _ _ _ _ _ (H.out.below' (by (repeat' (first | (with_reducible exact Below.refl _ _) | (with_reducible refine Below.setCell ?_ ?_ _) | (with_reducible refine Below.alloc ?_ ?_ _) | (with_reducible refine Below.drew ?_) | (with_reducible refine Below.drewN ?_ _) | (with_reducible refine Below.trans ?_ (Below.mono (by with_reducible assumption) ?_)) | go_size | (dsimp only; omega)))) (by go_size))).mono ?_; rintro e w1 ⟨rfl, hb1⟩)
  go_ret
  have h0 := OwnI.empty (w := w.alloc (.cells #[.int .i64 z, .slice A n c] 42)) (B := w.heap.size) (by simp)
  have h1 := OwnI.next h0 hb1
  exact ⟨_, _, _, rfl, by rw [HE.out]; simpa using h1, by (repeat' (first | (with_reducible exact Below.refl _ _) | (with_reducible refine Below.setCell ?_ ?_ _) | (with_reducible refine Below.alloc ?_ ?_ _) | (with_reducible refine Below.drew ?_) | (with_reducible refine Below.drewN ?_ _) | (with_reducible refine Below.trans ?_ (Below.mono (by with_reducible assumption) ?_)) | go_size | (dsimp only; omega)))⟩
theorem spec_ColorsOf (z : Int) (A : Option Addr) (n c : Nat) (xs : List C) (w : World) (h : RdC w w.heap.size A n xs) :
    Calls Try.prog 24 #[.agg #[.int .i64 z, .slice A n c]] w fun e w' => ∃ A n c, e = .returned (.slice A n c) ∧ OwnI w' w.heap.size A n c (colB z xs) ∧ Below w.heap.size w w' := by
  cases hp : bOk z xs with
  | true => exact spec_ColorsOf_yes z A n c xs w h hp
  | false => exact spec_ColorsOf_no z A n c xs w h hp

/-- a block is balanced -/
def balB (z : Int) (xs : List C) : Bool := bOk z xs && (List.range (colB z xs).length).all (fun j => decide (areaB z xs (ith (colB z xs) j) = areaB z xs (ith (colB z xs) 0)))
theorem balB_f {z : Int} {xs : List C} {j : Nat} (hj : j < (colB z xs).length) (h : areaB z xs (ith (colB z xs) j) ≠ areaB z xs (ith (colB z xs) 0)) : balB z xs = false := by
  have e : (List.range (colB z xs).length).all (fun j => decide (areaB z xs (ith (colB z xs) j) = areaB z xs (ith (colB z xs) 0))) = false := by
    rw [List.all_eq_false]
    exact ⟨j, List.mem_range.2 hj, by simpa using h⟩
  rw [balB, e, Bool.and_false]
theorem balB_t {z : Int} {xs : List C} (hb : bOk z xs = true) (h : ∀ j, j < (colB z xs).length → areaB z xs (ith (colB z xs) j) = areaB z xs (ith (colB z xs) 0)) : balB z xs = true := by
  have e : (List.range (colB z xs).length).all (fun j => decide (areaB z xs (ith (colB z xs) j) = areaB z xs (ith (colB z xs) 0))) = true := by
    rw [List.all_eq_true]
    intro j hj
    exact decide_eq_true (h j (List.mem_range.1 hj))
  rw [balB, e, hb]; rfl

set_option maxRecDepth 100000 in
set_option maxHeartbeats 1000000 in
theorem impl_IsBalanced_yes (z : Int) (A : Option Addr) (n c : Nat) (xs : List C) (w : World) (h : RdC w w.heap.size A n xs) (hbk : bOk z xs = true) :
    Calls Try.prog 29 #[.agg #[.int .i64 z, .slice A n c]] w fun e w' => e = .returned (.bool (balB z xs)) ∧ Below w.heap.size w w' := by
  have hs := lt2
  have H := Lib.hid h
  clear h
  go_enter Try.func29, Try.ntmps29
  go_wp2_with (first
    | (go_at_call 72; refine (impl_BlockOk _ _ _ _ _ _ (H.out.below' (by (repeat' (first | (with_reducible exact Below.refl _ _) | (with_reducible refine Below.setCell ?_ ?_ _) | (with_reducible refine Below.alloc ?_ ?_ _) | (with_reducible refine Below.drew ?_) | (with_reducible refine Below.drewN ?_ _) | (with_reducible refine Below.trans ?_ (Below.mono (by with_reducible assumption) ?_)) | go_size | (dsimp only; omega)))) (by go_size))).mono ?_; rintro e w1 ⟨rfl, hb1⟩; obtain ⟨hc1, hf1, hz1⟩ := bcell hb1 (b := w.heap.size) (by go_size); have hx1 := bsize hb1; (try simp at hx1))
    | (go_at_call 74; refine (impl_ColorsOf _ _ _ _ _ _ (H.out.below' (by (repeat' (first | (with_reducible exact Below.refl _ _) | (with_reducible refine Below.setCell ?_ ?_ _) | (with_reducible refine Below.alloc ?_ ?_ _) | (with_reducible refine Below.drew ?_) | (with_reducible refine Below.drewN ?_ _) | (with_reducible refine Below.trans ?_ (Below.mono (by with_reducible assumption) ?_)) | go_size | (dsimp only; omega)))) (by go_size))).mono ?_; rintro e w2 ⟨A2, n2, c2, rfl, ho2, hb2⟩; obtain ⟨hc2, hf2, hz2⟩ := bcell hb2 (b := w.heap.size) (by go_size); have hx2 := bsize hb2))
  have HW := Lib.hid (show Below w.heap.size w w2 by (repeat' (first | (with_reducible exact Below.refl _ _) | (with_reducible refine Below.setCell ?_ ?_ _) | (with_reducible refine Below.alloc ?_ ?_ _) | (with_reducible refine Below.drew ?_) | (with_reducible refine Below.drewN ?_ _) | (with_reducible refine Below.trans ?_ (Below.mono (by with_reducible assumption) ?_)) | go_size | (dsimp only; omega))))
  have H1 := Lib.hid (H.out.next HW.out)
  have HR := Lib.hid ho2.rd
  have HN := Lib.hid ho2.len
  have hle := ho2.rd.le
  clear hb1 hb2 ho2
  go_loopw [13] (fun i wr => ∃ (k : Nat), k ≤ n2 ∧ i = .int .i64 k ∧ Hid (∀ j, j < k → areaB z xs (ith (colB z xs) j) = areaB z xs (ith (colB z xs) 0)) ∧ Hid (Below w2.heap.size w2 wr)) (fun i _ => n2 - (intOf i).toNat)
  case atStart => exact ⟨0, by omega, rfl, fun j hj => absurd hj (by omega), Below.refl _ _⟩
  case round =>
    obtain ⟨k, hk, rfl, hp, hb⟩ := hrel
    obtain ⟨bc, bf, bz⟩ := bcell hb.out (b := w.heap.size) hz2
    have hcz : ∀ o, wr.cell? ⟨w.heap.size, o, none⟩ = (w.alloc (.cells #[.int .i64 z, .slice A n c] 42)).cell? ⟨w.heap.size, o, none⟩ := fun o => (bc o).trans ((hc2 o).trans (hc1 o))
    have p0 : wr.cell? ⟨w.heap.size, 0, none⟩ = some (.int .i64 z) := (hcz 0).trans (by rw [World.cell?_alloc_new]; rfl)
    have p1 : wr.cell? ⟨w.heap.size, 1, none⟩ = some (.slice A n c) := (hcz 1).trans (by rw [World.cell?_alloc_new]; rfl)
    clear bc bf hcz
    have hy := hb.out.size
    have hbo : Below w2.heap.size w2 wr := hb.out
    by_cases hlt : k < n2
    · obtain ⟨g, off, rfl, hgl, hd01⟩ := (HR.out.below hb.out).2.2 (show 0 < n2 by omega)
      have d1 := hd01 k hlt
      have d0 := hd01 0 (by omega)
      clear hd01
      rw [Nat.add_zero] at d0
      have i1 : (0 : Int) < (n2 : Int) := by omega
      have i2 : 0 < n2 := by omega
      by_cases hq : areaB z xs (ith (colB z xs) k) = areaB z xs (ith (colB z xs) 0)
      · have HE := Lib.hid hq
        have hd : (areaB z xs (ith (colB z xs) k) != areaB z xs (ith (colB z xs) 0)) = false := by simpa using hq
        clear hq
        go_wp2
        go_region_held3 (fun w' => w'.cell? ⟨w.heap.size, 0, none⟩ = some (.int .i64 z) ∧ w'.cell? ⟨w.heap.size, 1, none⟩ = some (.slice A n c) ∧ w'.cell? ⟨g, off, none⟩ = some (.int .i64 (ith (colB z xs) 0))) (go_keep) (first
          | (go_at_call 25; refine (impl_AreaOf _ _ _ _ _ _ _ (H1.out.below' (by (repeat' (first | (with_reducible exact Below.refl _ _) | (with_reducible refine Below.setCell ?_ ?_ _) | (with_reducible refine Below.alloc ?_ ?_ _) | (with_reducible refine Below.drew ?_) | (with_reducible refine Below.drewN ?_ _) | (with_reducible refine Below.trans ?_ (Below.mono (by with_reducible assumption) ?_)) | go_size | (dsimp only; omega)))) (by go_size))).mono ?_; rintro e w3 ⟨rfl, hb3⟩; obtain ⟨bc3, bf3, bz3⟩ := bcell hb3 (b := w.heap.size) (by go_size); obtain ⟨bc4, bf4, bz4⟩ := bcell hb3 (b := g) (by go_size); have hx3 := bsize hb3; (try simp at hx3)))
        have HB3 := Lib.hid (show Below w2.heap.size w2 w3 by (repeat' (first | (with_reducible exact Below.refl _ _) | (with_reducible refine Below.setCell ?_ ?_ _) | (with_reducible refine Below.alloc ?_ ?_ _) | (with_reducible refine Below.drew ?_) | (with_reducible refine Below.drewN ?_ _) | (with_reducible refine Below.trans ?_ (Below.mono (by with_reducible assumption) ?_)) | go_size | (dsimp only; omega))))
        go_wp2
        go_roundw
        case rel => exact ⟨k + 1, by omega, by go_num, step_all (P := fun j => areaB z xs (ith (colB z xs) j) = areaB z xs (ith (colB z xs) 0)) hp.out HE.out, HB3.out⟩
        case measure => simp [intOf]; omega
      · have HE := Lib.hid hq
        have hd : (areaB z xs (ith (colB z xs) k) != areaB z xs (ith (colB z xs) 0)) = true := by simpa using hq
        clear hq
        go_wp2
        go_region_held3 (fun w' => w'.cell? ⟨w.heap.size, 0, none⟩ = some (.int .i64 z) ∧ w'.cell? ⟨w.heap.size, 1, none⟩ = some (.slice A n c) ∧ w'.cell? ⟨g, off, none⟩ = some (.int .i64 (ith (colB z xs) 0))) (go_keep) (first
          | (go_at_call 25; refine (impl_AreaOf _ _ _ _ _ _ _ (H1.out.below' (by (repeat' (first | (with_reducible exact Below.refl _ _) | (with_reducible refine Below.setCell ?_ ?_ _) | (with_reducible refine Below.alloc ?_ ?_ _) | (with_reducible refine Below.drew ?_) | (with_reducible refine Below.drewN ?_ _) | (with_reducible refine Below.trans ?_ (Below.mono (by with_reducible assumption) ?_)) | go_size | (dsimp only; omega)))) (by go_size))).mono ?_; rintro e w3 ⟨rfl, hb3⟩; obtain ⟨bc3, bf3, bz3⟩ := bcell hb3 (b := w.heap.size) (by go_size); obtain ⟨bc4, bf4, bz4⟩ := bcell hb3 (b := g) (by go_size); have hx3 := bsize hb3; (try simp at hx3)))
        have HB3 := Lib.hid (show Below w2.heap.size w2 w3 by (repeat' (first | (with_reducible exact Below.refl _ _) | (with_reducible refine Below.setCell ?_ ?_ _) | (with_reducible refine Below.alloc ?_ ?_ _) | (with_reducible refine Below.drew ?_) | (with_reducible refine Below.drewN ?_ _) | (with_reducible refine Below.trans ?_ (Below.mono (by with_reducible assumption) ?_)) | go_size | (dsimp only; omega))))
        go_wp2
        go_ret
        exact ⟨ret_bool (balB_f (j := k) (by rw [HN.out]; exact hlt) HE.out).symm, HW.out.trans (HB3.out.mono HW.out.size)⟩
    · go_wp2
      go_ret
      exact ⟨ret_bool (balB_t hbk (fun j hj => hp.out j (by have := HN.out; omega))).symm, HW.out.trans (hb.out.mono HW.out.size)⟩
theorem impl_IsBalanced_no (z : Int) (A : Option Addr) (n c : Nat) (xs : List C) (w : World) (h : RdC w w.heap.size A n xs) (hbk : bOk z xs = false) :
    Calls Try.prog 29 #[.agg #[.int .i64 z, .slice A n c]] w fun e w' => e = .returned (.bool (balB z xs)) ∧ Below w.heap.size w w' := by
  have hs := lt2
  have H := Lib.hid h
  clear h
  have HE := Lib.hid (show balB z xs = false by rw [balB, hbk]; rfl)
  go_enter Try.func29, Try.ntmps29
  go_wp2_with (go_at_call 72; refine (impl_BlockOk _ _ _ _ _ _ (H.out.below' (by (repeat' (first | (with_reducible exact Below.refl _ _) | (with_reducible refine Below.setCell ?_ ?_ _) | (with_reducible refine Below.alloc ?_ ?_ _) | (with_reducible refine Below.drew ?_) | (with_reducible refine Below.drewN ?_ _) | (with_reducible refine Below.trans ?_ (Below.mono (by with_reducible assumption) ?_)) | go_size | (dsimp only; omega)))) (by go_size))).mono ?_; rintro e w1 ⟨rfl, hb1⟩)
  go_ret
  exact ⟨ret_bool HE.out.symm, by (repeat' (first | (with_reducible exact Below.refl _ _) | (with_reducible refine Below.setCell ?_ ?_ _) | (with_reducible refine Below.alloc ?_ ?_ _) | (with_reducible refine Below.drew ?_) | (with_reducible refine Below.drewN ?_ _) | (with_reducible refine Below.trans ?_ (Below.mono (by with_reducible assumption) ?_)) | go_size | (dsimp only; omega)))⟩
theorem impl_IsBalanced (z : Int) (A : Option Addr) (n c : Nat) (xs : List C) (w : World) (h : RdC w w.heap.size A n xs) :
    Calls Try.prog 29 #[.agg #[.int .i64 z, .slice A n c]] w fun e w' => e = .returned (.bool (balB z xs)) ∧ Below w.heap.size w w' := by
  cases hp : bOk z xs with
  | true => exact impl_IsBalanced_yes z A n c xs w h hp
  | false => exact impl_IsBalanced_no z A n c xs w h hp

end Go.Proofs.Ytlcllpgbpjdofaa
