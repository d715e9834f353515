/- Walks of the laws on SplitLayout: each returns true. No condition. -/
import Derived.Test.YtlcllpgbpjdofaaR2
import Derived.Test.YtlcllpgbpjdofaaSl
import Derived.Test.YtlcllpgbpjdofaaSm
import Derived.Test.YtlcllpgbpjdofaaSi
import Derived.Deep.DeepCutAuto
import Derived.Deep.RegionHeld3
set_option linter.unusedSimpArgs false
set_option linter.unusedVariables false
set_option maxRecDepth 100000
namespace Go.Proofs.Ytlcllpgbpjdofaa
open Go.RowKit

set_option maxHeartbeats 400000 in
theorem laws_toCut (u : Bool) (a : Int) (w : World) :
    Calls Try.prog 59 #[.agg #[.bool u, .int .i64 a]] w fun e w' => e = .returned (.agg #[.bool u, .int .i64 a]) ∧ Below w.heap.size w w' := by
  go_enter Try.func59, Try.ntmps59
  go_wp2
  refine bodyPost_ret (v := .agg #[.bool u, .int .i64 a]) (by simp [results, Try.results59, go_sem]) rfl ⟨rfl, ?_⟩
  (repeat' (first | (with_reducible exact Below.refl _ _) | (with_reducible refine Below.setCell ?_ ?_ _) | (with_reducible refine Below.alloc ?_ ?_ _) | (with_reducible refine Below.drew ?_) | (with_reducible refine Below.drewN ?_ _) | (with_reducible refine Below.trans ?_ (Below.mono (by with_reducible assumption) ?_)) | go_size | (dsimp only; omega)))

set_option maxHeartbeats 400000 in
theorem laws_markLayoutK (z y : Int) (A : Option Addr) (n c B : Nat) (xs : List Pt) (k0 : Int) (w : World) (h : OwnP w B A n c xs) (hB : B ≤ w.heap.size) (hk0 : 0 ≤ k0) (hk1 : k0 ≤ 1000000000000) :
    Calls Try.prog 53 #[.agg #[.int .i64 z, .int .i64 y, .slice A n c], .int .i64 k0] w fun e w' => e = .returned (.int .i64 (k0 + 5 * n)) ∧ OwnP w' B A n c (marksP k0 n) ∧ w.grownBy w' (Value.slice A n c).ownBlock := by
  have hs := lt2
  have H := Lib.hid h
  clear h
  go_enter Try.func53, Try.ntmps53
  go_wp2_with fail
  refine (laws_markPatchS _ _ _ _ _ _ _ (H.out.next (by go_grown)) hk0 hk1).mono ?_
  rintro e w1 ⟨rfl, ho1, hg1⟩
  have HO := Lib.hid ho1
  have HG := Lib.hid hg1
  clear ho1 hg1
  go_wp2
  go_ret
  refine ⟨rfl, HO.out, grown_tr (grown_of_below ?_ _) HG.out⟩
  (repeat' (first | (with_reducible exact Below.refl _ _) | (with_reducible refine Below.setCell ?_ ?_ _) | (with_reducible refine Below.alloc ?_ ?_ _) | (with_reducible refine Below.drew ?_) | (with_reducible refine Below.drewN ?_ _) | (with_reducible refine Below.trans ?_ (Below.mono (by with_reducible assumption) ?_)) | go_size | (dsimp only; omega)))

set_option maxHeartbeats 400000 in
theorem laws_heldLayoutK (z y : Int) (A : Option Addr) (n c : Nat) (k0 : Int) (w : World) (h : RdP w w.heap.size A n (marksP k0 n)) (hk0 : 0 ≤ k0) (hk1 : k0 ≤ 1000000000000) :
    Calls Try.prog 61 #[.agg #[.int .i64 z, .int .i64 y, .slice A n c], .int .i64 k0] w fun e w' => e = .returned (.int .i64 (k0 + 5 * n)) ∧ Below w.heap.size w w' := by
  have hs := lt2
  have hle := h.le
  have H := Lib.hid h
  clear h
  go_enter Try.func61, Try.ntmps61
  go_wp2_with fail
  refine (laws_heldPatchS _ _ _ _ _ (H.out.below' (by go_grown) (by go_size)) hk0 hk1).mono ?_
  rintro e w1 ⟨rfl, rfl⟩
  go_wp2
  go_ret
  exact ⟨rfl, by go_grown⟩

set_option maxRecDepth 100000 in
set_option maxHeartbeats 40000000 in
theorem walk_FnExactSplitLayout_small (z y : Int) (A : Option Addr) (n c : Nat) (xs : List Pt) (u : Bool) (a : Int) (w : World) (hz : I64 z) (hy : I64 y) (h : RdP w w.heap.size A n xs) (hn : n ≤ 1048576) (ha : I64 a) :
    Calls Try.prog 11 #[.agg #[.int .i64 z, .int .i64 y, .slice A n c], .agg #[.bool u, .int .i64 a]] w fun e w' => e = .returned (.bool true) ∧ Below w.heap.size w w' := by
  have hsz := szB_small hn
  have hq : (cutB z y xs u a != cutB z y xs u a) = false := by simp
  have a_x := h
  have HW := Below.refl w.heap.size w
  have hs := lt2
  have hs3 := lt3
  go_enter Try.func11, Try.ntmps11
  go_wp2_with fail
  refine (laws_szLayout _ _ _ _ _ _ (by omega)).mono ?_
  rintro e w1 ⟨rfl, hb1⟩
  have hy1 := bsize hb1
  try simp at hy1
  have HB1 : Below w.heap.size w w1 := by (repeat' (first | (with_reducible exact Below.refl _ _) | (with_reducible refine Below.setCell ?_ ?_ _) | (with_reducible refine Below.alloc ?_ ?_ _) | (with_reducible refine Below.drew ?_) | (with_reducible refine Below.drewN ?_ _) | (with_reducible refine Below.trans ?_ (Below.mono (by with_reducible assumption) ?_)) | go_size | (dsimp only; omega)))
  have hx1 := HB1.size
  obtain ⟨bc1, bf1, bz1⟩ := bcell hb1 (b := w.heap.size) (by go_size)
  have t0_0 : w1.cell? ⟨w.heap.size, 0, none⟩ = some (.int .i64 z) := (bc1 0).trans (by first | (rw [World.cell?_alloc_new]; done) | (rw [World.cell?_alloc_new]; rfl) | (simp [go_sem]; done) | (rw [World.cell?_alloc_lt _ _ _ (by go_size), World.cell?_alloc_new]; rfl))
  have t0_1 : w1.cell? ⟨w.heap.size, 1, none⟩ = some (.int .i64 y) := (bc1 1).trans (by first | (rw [World.cell?_alloc_new]; done) | (rw [World.cell?_alloc_new]; rfl) | (simp [go_sem]; done) | (rw [World.cell?_alloc_lt _ _ _ (by go_size), World.cell?_alloc_new]; rfl))
  have t0_2 : w1.cell? ⟨w.heap.size, 2, none⟩ = some (.slice A n c) := (bc1 2).trans (by first | (rw [World.cell?_alloc_new]; done) | (rw [World.cell?_alloc_new]; rfl) | (simp [go_sem]; done) | (rw [World.cell?_alloc_lt _ _ _ (by go_size), World.cell?_alloc_new]; rfl))
  clear bc1 bf1
  obtain ⟨bc1, bf1, bz1⟩ := bcell hb1 (b := w.heap.size + 1) (by go_size)
  have t1_0 : w1.cell? ⟨w.heap.size + 1, 0, none⟩ = some (.bool u) := (bc1 0).trans (by first | (rw [World.cell?_alloc_new]; done) | (rw [World.cell?_alloc_new]; rfl) | (simp [go_sem]; done) | (rw [World.cell?_alloc_lt _ _ _ (by go_size), World.cell?_alloc_new]; rfl))
  have t1_1 : w1.cell? ⟨w.heap.size + 1, 1, none⟩ = some (.int .i64 a) := (bc1 1).trans (by first | (rw [World.cell?_alloc_new]; done) | (rw [World.cell?_alloc_new]; rfl) | (simp [go_sem]; done) | (rw [World.cell?_alloc_lt _ _ _ (by go_size), World.cell?_alloc_new]; rfl))
  clear bc1 bf1
  replace a_x := a_x.below (HB1.mono (by omega))
  replace HW := HW.trans (HB1.mono (by omega))
  clear hb1 HB1
  go_upto_region 5 with fail
  go_cut [6, 7, 8] (fun s0 s1 s2 wx => ∃ (P7 P8 : Nat) (A1 : Option Addr) (n1 c1 : Nat) (A2 : Option Addr) (n2 c2 : Nat), s0 = .pointer (some ⟨P7, 0, none⟩) ∧ s1 = .pointer (some ⟨P8, 0, none⟩) ∧ s2 = .bool (cutB z y xs u a) ∧ Hid (Mid w1 wx true true true true true P7 P8 A1 n1 c1 A2 n2 c2 (spZ1 z y xs u a) (spY1 z y xs u a) (spZ2 z y xs u a) (spY2 z y xs u a) (spL1 z y xs u a) (spL2 z y xs u a)))
  case first =>
    refine wp_region_steps (fun a0 L a' wx => ∃ (v25 v26 v27 v28 v29 v24 v30 v31 v32 v6 v7 v8 : Value) (gl P7 P8 : Nat) (A1 : Option Addr) (n1 c1 : Nat) (A2 : Option Addr) (n2 c2 : Nat), a' = ((((((((((((a0.put (some 25) v25).put (some 26) v26).put (some 27) v27).put (some 28) v28).put (some 29) v29).put (some 24) v24).put (some 30) v30).put (some 31) v31).put (some 32) v32).put (some 6) v6).put (some 7) v7).put (some 8) v8) ∧
        (L 0 = true → v25 = .agg #[.int .i64 z, .int .i64 y, .slice A n c]) ∧
        (L 1 = true → v26 = .agg #[.int .i64 z, .int .i64 y, .slice (some ⟨gl, 0, none⟩) n n] ∧ (L 4 = false → OwnP wx w1.heap.size (some ⟨gl, 0, none⟩) n n xs)) ∧
        (L 2 = true → v27 = .agg #[.bool u, .int .i64 a]) ∧
        (L 3 = true → v28 = .agg #[.bool u, .int .i64 a]) ∧
        (L 4 = true → v29 = .tuple #[.agg #[.int .i64 (spZ1 z y xs u a), .int .i64 (spY1 z y xs u a), .slice A1 n1 c1], .agg #[.int .i64 (spZ2 z y xs u a), .int .i64 (spY2 z y xs u a), .slice A2 n2 c2], .bool (cutB z y xs u a)]) ∧
        (L 5 = true → L 4 = true ∧ v24 = .tuple #[.agg #[.int .i64 (spZ1 z y xs u a), .int .i64 (spY1 z y xs u a), .slice A1 n1 c1], .agg #[.int .i64 (spZ2 z y xs u a), .int .i64 (spY2 z y xs u a), .slice A2 n2 c2], .bool (cutB z y xs u a)]) ∧
        (L 6 = true → L 4 = true ∧ v30 = .agg #[.int .i64 (spZ1 z y xs u a), .int .i64 (spY1 z y xs u a), .slice A1 n1 c1]) ∧
        (L 7 = true → L 4 = true ∧ v31 = .agg #[.int .i64 (spZ2 z y xs u a), .int .i64 (spY2 z y xs u a), .slice A2 n2 c2]) ∧
        (L 8 = true → v32 = .bool (cutB z y xs u a)) ∧
        (L 9 = true → v6 = .pointer (some ⟨P7, 0, none⟩)) ∧
        (L 10 = true → v7 = .pointer (some ⟨P8, 0, none⟩)) ∧
        (L 13 = true → v8 = .bool (cutB z y xs u a)) ∧
        (L 11 = true → L 4 = true ∧ L 9 = true ∧ L 10 = true) ∧
        (L 12 = true → L 11 = true) ∧
        Mid w1 wx (L 4) (L 9) (L 10) (L 11) (L 12) P7 P8 A1 n1 c1 A2 n2 c2 (spZ1 z y xs u a) (spY1 z y xs u a) (spZ2 z y xs u a) (spY2 z y xs u a) (spL1 z y xs u a) (spL2 z y xs u a)) [0, 1, 2, 3, 4, 5, 6, 7, 8, 9, 10, 11, 12, 13] (by kernel_rfl) (by kernel_rfl) (by kernel_rfl) ?h0 ?hs ?hfin
    case h0 =>
      refine ⟨?_, ?_, ?_, ?_, ?_, ?_, ?_, ?_, ?_, ?_, ?_, ?_, 0, 0, 0, none, 0, 0, none, 0, 0, ?eq, nofun, nofun, nofun, nofun, nofun, nofun, nofun, nofun, nofun, nofun, nofun, nofun, nofun, nofun, Mid.start _⟩
      case eq =>
        simp only [Act.put, List.setIfInBounds_toArray, List.set_cons_zero, List.set_cons_succ]
        try rfl
    case hs =>
      refine Steps.cons [] rfl (by kernel_rfl) ?p0 ?_
      case p0 =>
        rintro L a' wx hL hd ⟨v25, v26, v27, v28, v29, v24, v30, v31, v32, v6, v7, v8, gl, P7, P8, A1, n1, c1, A2, n2, c2, rfl, h0, h1, h2, h3, h4, h5, h6, h7, h8, h9, h10, h13, hC1, hC2, M⟩ K' hK
        have q0 := (M.be.cell (p := ⟨w.heap.size, 0, none⟩) (by first | (dsimp only; omega) | (simp only [World.size_alloc]; omega))).trans t0_0; have q1 := (M.be.cell (p := ⟨w.heap.size, 1, none⟩) (by first | (dsimp only; omega) | (simp only [World.size_alloc]; omega))).trans t0_1; have q2 := (M.be.cell (p := ⟨w.heap.size, 2, none⟩) (by first | (dsimp only; omega) | (simp only [World.size_alloc]; omega))).trans t0_2
        simp only [Act.put, List.setIfInBounds_toArray, List.set_cons_zero, List.set_cons_succ]
        go_simp
        exact hK _ _ ⟨_, v26, v27, v28, v29, v24, v30, v31, v32, v6, v7, v8, gl, P7, P8, A1, n1, c1, A2, n2, c2, by simp only [Act.put, List.setIfInBounds_toArray, List.set_cons_zero, List.set_cons_succ], fun _ => rfl, h1, h2, h3, h4, h5, h6, h7, h8, h9, h10, h13, hC1, hC2, M⟩
      refine Steps.cons [0] rfl (by kernel_rfl) ?p1 ?_
      case p1 =>
        rintro L a' wx hL hd ⟨v25, v26, v27, v28, v29, v24, v30, v31, v32, v6, v7, v8, gl, P7, P8, A1, n1, c1, A2, n2, c2, rfl, h0, h1, h2, h3, h4, h5, h6, h7, h8, h9, h10, h13, hC1, hC2, M⟩ K' hK
        have e0 := h0 (hd 0 (by simp)); subst e0
        simp only [Act.put, List.setIfInBounds_toArray, List.set_cons_zero, List.set_cons_succ]
        go_simp
        refine (laws_toLayout _ _ _ _ _ _ _ (a_x.below' (M.be.mono (by omega)) (by have := M.be.size; omega))).mono ?_
        rintro e w' ⟨g', rfl, f', hb⟩
        have M' := M.read hb
        go_simp
        exact hK _ _ ⟨_, _, v27, v28, v29, v24, v30, v31, v32, v6, v7, v8, g', P7, P8, A1, n1, c1, A2, n2, c2, by simp only [Act.put, List.setIfInBounds_toArray, List.set_cons_zero, List.set_cons_succ], h0, fun _ => ⟨rfl, fun _ => f'.base M.be.size⟩, h2, h3, h4, h5, h6, h7, h8, h9, h10, h13, hC1, hC2, M'⟩
      refine Steps.cons [] rfl (by kernel_rfl) ?p2 ?_
      case p2 =>
        rintro L a' wx hL hd ⟨v25, v26, v27, v28, v29, v24, v30, v31, v32, v6, v7, v8, gl, P7, P8, A1, n1, c1, A2, n2, c2, rfl, h0, h1, h2, h3, h4, h5, h6, h7, h8, h9, h10, h13, hC1, hC2, M⟩ K' hK
        have q0 := (M.be.cell (p := ⟨w.heap.size + 1, 0, none⟩) (by first | (dsimp only; omega) | (simp only [World.size_alloc]; omega))).trans t1_0; have q1 := (M.be.cell (p := ⟨w.heap.size + 1, 1, none⟩) (by first | (dsimp only; omega) | (simp only [World.size_alloc]; omega))).trans t1_1
        simp only [Act.put, List.setIfInBounds_toArray, List.set_cons_zero, List.set_cons_succ]
        go_simp
        exact hK _ _ ⟨v25, v26, _, v28, v29, v24, v30, v31, v32, v6, v7, v8, gl, P7, P8, A1, n1, c1, A2, n2, c2, by simp only [Act.put, List.setIfInBounds_toArray, List.set_cons_zero, List.set_cons_succ], h0, h1, fun _ => rfl, h3, h4, h5, h6, h7, h8, h9, h10, h13, hC1, hC2, M⟩
      refine Steps.cons [2] rfl (by kernel_rfl) ?p3 ?_
      case p3 =>
        rintro L a' wx hL hd ⟨v25, v26, v27, v28, v29, v24, v30, v31, v32, v6, v7, v8, gl, P7, P8, A1, n1, c1, A2, n2, c2, rfl, h0, h1, h2, h3, h4, h5, h6, h7, h8, h9, h10, h13, hC1, hC2, M⟩ K' hK
        have e2 := h2 (hd 2 (by simp)); subst e2
        simp only [Act.put, List.setIfInBounds_toArray, List.set_cons_zero, List.set_cons_succ]
        go_simp
        refine (laws_toCut u a _).mono ?_
        rintro e w' ⟨rfl, hb⟩
        have M' := M.read hb
        go_simp
        exact hK _ _ ⟨v25, v26, _, _, v29, v24, v30, v31, v32, v6, v7, v8, gl, P7, P8, A1, n1, c1, A2, n2, c2, by simp only [Act.put, List.setIfInBounds_toArray, List.set_cons_zero, List.set_cons_succ], h0, fun e => ⟨(h1 e).1, fun d => ((h1 e).2 d).next hb⟩, h2, fun _ => rfl, h4, h5, h6, h7, h8, h9, h10, h13, hC1, hC2, M'⟩
      refine Steps.cons [1, 3] rfl (by kernel_rfl) ?p4 ?_
      case p4 =>
        rintro L a' wx hL hd ⟨v25, v26, v27, v28, v29, v24, v30, v31, v32, v6, v7, v8, gl, P7, P8, A1, n1, c1, A2, n2, c2, rfl, h0, h1, h2, h3, h4, h5, h6, h7, h8, h9, h10, h13, hC1, hC2, M⟩ K' hK
        have l11 : L 11 = false := Bool.eq_false_iff.2 (fun e => absurd (hC1 e).1 (by rw [hL]; nofun))
        have l12 : L 12 = false := Bool.eq_false_iff.2 (fun e => absurd (hC2 e) (by rw [l11]; nofun))
        have rw_ : RdP wx wx.heap.size _ n xs := (((h1 (hd 1 (by simp))).2 hL).rd Pt.len)
        have e1 := (h1 (hd 1 (by simp))).1; subst e1
        have e3 := h3 (hd 3 (by simp)); subst e3
        simp only [Act.put, List.setIfInBounds_toArray, List.set_cons_zero, List.set_cons_succ]
        go_simp
        refine (spec_SplitLayout _ _ _ _ _ xs _ _ _ rw_).mono ?_
        rintro e w' ⟨A1', n1', c1', A2', n2', c2', rfl, o1, o2, ap, hb⟩
        have M' := (M.cast hL rfl rfl l11 l12).call hb o1 o2 ap
        go_simp
        exact hK _ _ ⟨v25, _, v27, _, _, v24, v30, v31, v32, v6, v7, v8, gl, P7, P8, A1', n1', c1', A2', n2', c2', by simp only [Act.put, List.setIfInBounds_toArray, List.set_cons_zero, List.set_cons_succ], h0, fun e => ⟨(h1 e).1, fun d => by cases d⟩, h2, h3, fun _ => rfl, fun e => absurd (h5 e).1 (by rw [hL]; nofun), fun e => absurd (h6 e).1 (by rw [hL]; nofun), fun e => absurd (h7 e).1 (by rw [hL]; nofun), h8, h9, h10, h13, fun e => absurd (hC1 e).1 (by rw [hL]; nofun), hC2, M'.cast rfl rfl rfl l11.symm l12.symm⟩
      refine Steps.cons [4] rfl (by kernel_rfl) ?p5 ?_
      case p5 =>
        rintro L a' wx hL hd ⟨v25, v26, v27, v28, v29, v24, v30, v31, v32, v6, v7, v8, gl, P7, P8, A1, n1, c1, A2, n2, c2, rfl, h0, h1, h2, h3, h4, h5, h6, h7, h8, h9, h10, h13, hC1, hC2, M⟩ K' hK
        have e4 := h4 (hd 4 (by simp)); subst e4
        simp only [Act.put, List.setIfInBounds_toArray, List.set_cons_zero, List.set_cons_succ]
        go_simp
        exact hK _ _ ⟨v25, v26, v27, v28, _, _, v30, v31, v32, v6, v7, v8, gl, P7, P8, A1, n1, c1, A2, n2, c2, by simp only [Act.put, List.setIfInBounds_toArray, List.set_cons_zero, List.set_cons_succ], h0, h1, h2, h3, h4, fun _ => ⟨hd 4 (by simp), rfl⟩, h6, h7, h8, h9, h10, h13, hC1, hC2, M⟩
      refine Steps.cons [5] rfl (by kernel_rfl) ?p6 ?_
      case p6 =>
        rintro L a' wx hL hd ⟨v25, v26, v27, v28, v29, v24, v30, v31, v32, v6, v7, v8, gl, P7, P8, A1, n1, c1, A2, n2, c2, rfl, h0, h1, h2, h3, h4, h5, h6, h7, h8, h9, h10, h13, hC1, hC2, M⟩ K' hK
        have hc := (h5 (hd 5 (by simp))).1
        have e5 := (h5 (hd 5 (by simp))).2; subst e5
        have e4 := h4 hc; subst e4
        simp only [Act.put, List.setIfInBounds_toArray, List.set_cons_zero, List.set_cons_succ]
        go_simp
        exact hK _ _ ⟨v25, v26, v27, v28, _, _, _, v31, v32, v6, v7, v8, gl, P7, P8, A1, n1, c1, A2, n2, c2, by simp only [Act.put, List.setIfInBounds_toArray, List.set_cons_zero, List.set_cons_succ], h0, h1, h2, h3, h4, h5, fun _ => ⟨hc, rfl⟩, h7, h8, h9, h10, h13, hC1, hC2, M⟩
      refine Steps.cons [5] rfl (by kernel_rfl) ?p7 ?_
      case p7 =>
        rintro L a' wx hL hd ⟨v25, v26, v27, v28, v29, v24, v30, v31, v32, v6, v7, v8, gl, P7, P8, A1, n1, c1, A2, n2, c2, rfl, h0, h1, h2, h3, h4, h5, h6, h7, h8, h9, h10, h13, hC1, hC2, M⟩ K' hK
        have hc := (h5 (hd 5 (by simp))).1
        have e5 := (h5 (hd 5 (by simp))).2; subst e5
        have e4 := h4 hc; subst e4
        simp only [Act.put, List.setIfInBounds_toArray, List.set_cons_zero, List.set_cons_succ]
        go_simp
        exact hK _ _ ⟨v25, v26, v27, v28, _, _, v30, _, v32, v6, v7, v8, gl, P7, P8, A1, n1, c1, A2, n2, c2, by simp only [Act.put, List.setIfInBounds_toArray, List.set_cons_zero, List.set_cons_succ], h0, h1, h2, h3, h4, h5, h6, fun _ => ⟨hc, rfl⟩, h8, h9, h10, h13, hC1, hC2, M⟩
      refine Steps.cons [5] rfl (by kernel_rfl) ?p8 ?_
      case p8 =>
        rintro L a' wx hL hd ⟨v25, v26, v27, v28, v29, v24, v30, v31, v32, v6, v7, v8, gl, P7, P8, A1, n1, c1, A2, n2, c2, rfl, h0, h1, h2, h3, h4, h5, h6, h7, h8, h9, h10, h13, hC1, hC2, M⟩ K' hK
        have hc := (h5 (hd 5 (by simp))).1
        have e5 := (h5 (hd 5 (by simp))).2; subst e5
        have e4 := h4 hc; subst e4
        simp only [Act.put, List.setIfInBounds_toArray, List.set_cons_zero, List.set_cons_succ]
        go_simp
        exact hK _ _ ⟨v25, v26, v27, v28, _, _, v30, v31, _, v6, v7, v8, gl, P7, P8, A1, n1, c1, A2, n2, c2, by simp only [Act.put, List.setIfInBounds_toArray, List.set_cons_zero, List.set_cons_succ], h0, h1, h2, h3, h4, h5, h6, h7, fun _ => rfl, h9, h10, h13, hC1, hC2, M⟩
      refine Steps.cons [] rfl (by kernel_rfl) ?p9 ?_
      case p9 =>
        rintro L a' wx hL hd ⟨v25, v26, v27, v28, v29, v24, v30, v31, v32, v6, v7, v8, gl, P7, P8, A1, n1, c1, A2, n2, c2, rfl, h0, h1, h2, h3, h4, h5, h6, h7, h8, h9, h10, h13, hC1, hC2, M⟩ K' hK
        have l11 : L 11 = false := Bool.eq_false_iff.2 (fun e => absurd (hC1 e).2.1 (by rw [hL]; nofun))
        have l12 : L 12 = false := Bool.eq_false_iff.2 (fun e => absurd (hC2 e) (by rw [l11]; nofun))
        simp only [Act.put, List.setIfInBounds_toArray, List.set_cons_zero, List.set_cons_succ]
        go_simp
        have M' := (M.cast rfl hL rfl l11 rfl).alloc1 29
        have hb := (Below.refl wx.heap.size wx).alloc (Nat.le_refl _) (.cells #[.int .i64 0, .int .i64 0, .slice none 0 0] 29)
        exact hK _ _ ⟨v25, v26, v27, v28, v29, v24, v30, v31, v32, _, v7, v8, gl, wx.heap.size, P8, A1, n1, c1, A2, n2, c2, by simp only [Act.put, List.setIfInBounds_toArray, List.set_cons_zero, List.set_cons_succ], h0, fun e => ⟨(h1 e).1, fun d => ((h1 e).2 d).next hb⟩, h2, h3, h4, h5, h6, h7, h8, fun _ => rfl, h10, h13, fun e => ⟨(hC1 e).1, rfl, (hC1 e).2.2⟩, hC2, M'.cast rfl rfl rfl l11.symm rfl⟩
      refine Steps.cons [] rfl (by kernel_rfl) ?p10 ?_
      case p10 =>
        rintro L a' wx hL hd ⟨v25, v26, v27, v28, v29, v24, v30, v31, v32, v6, v7, v8, gl, P7, P8, A1, n1, c1, A2, n2, c2, rfl, h0, h1, h2, h3, h4, h5, h6, h7, h8, h9, h10, h13, hC1, hC2, M⟩ K' hK
        have l11 : L 11 = false := Bool.eq_false_iff.2 (fun e => absurd (hC1 e).2.2 (by rw [hL]; nofun))
        have l12 : L 12 = false := Bool.eq_false_iff.2 (fun e => absurd (hC2 e) (by rw [l11]; nofun))
        simp only [Act.put, List.setIfInBounds_toArray, List.set_cons_zero, List.set_cons_succ]
        go_simp
        have M' := (M.cast rfl rfl hL rfl l12).alloc2 29
        have hb := (Below.refl wx.heap.size wx).alloc (Nat.le_refl _) (.cells #[.int .i64 0, .int .i64 0, .slice none 0 0] 29)
        exact hK _ _ ⟨v25, v26, v27, v28, v29, v24, v30, v31, v32, v6, _, v8, gl, P7, wx.heap.size, A1, n1, c1, A2, n2, c2, by simp only [Act.put, List.setIfInBounds_toArray, List.set_cons_zero, List.set_cons_succ], h0, fun e => ⟨(h1 e).1, fun d => ((h1 e).2 d).next hb⟩, h2, h3, h4, h5, h6, h7, h8, h9, fun _ => rfl, h13, fun e => ⟨(hC1 e).1, (hC1 e).2.1, rfl⟩, hC2, M'.cast rfl rfl rfl rfl l12.symm⟩
      refine Steps.cons [4, 6, 9, 10] rfl (by kernel_rfl) ?p11 ?_
      case p11 =>
        rintro L a' wx hL hd ⟨v25, v26, v27, v28, v29, v24, v30, v31, v32, v6, v7, v8, gl, P7, P8, A1, n1, c1, A2, n2, c2, rfl, h0, h1, h2, h3, h4, h5, h6, h7, h8, h9, h10, h13, hC1, hC2, M⟩ K' hK
        have l12 : L 12 = false := Bool.eq_false_iff.2 (fun e => absurd (hC2 e) (by rw [hL]; nofun))
        have Q := M.cast (hd 4 (by simp)) (hd 9 (by simp)) (hd 10 (by simp)) hL l12
        have b0 := (Q.box1 rfl rfl).c0
        have b1 := (Q.box1 rfl rfl).c1
        have b2 := (Q.box1 rfl rfl).c2
        have bf := (Q.box1 rfl rfl).f
        have e4 := h4 (hd 4 (by simp)); subst e4
        have e6 := (h6 (hd 6 (by simp))).2; subst e6
        have e9 := h9 (hd 9 (by simp)); subst e9
        have e10 := h10 (hd 10 (by simp)); subst e10
        simp only [Act.put, List.setIfInBounds_toArray, List.set_cons_zero, List.set_cons_succ]
        go_simp
        have M' := Q.store1
        exact hK _ _ ⟨v25, v26, v27, v28, _, v24, _, v31, v32, _, _, v8, gl, P7, P8, A1, n1, c1, A2, n2, c2, by simp only [Act.put, List.setIfInBounds_toArray, List.set_cons_zero, List.set_cons_succ], h0, fun e => ⟨(h1 e).1, fun d => absurd d (by simp [hd 4 (by simp)])⟩, h2, h3, h4, h5, h6, h7, h8, h9, h10, h13, fun _ => ⟨hd 4 (by simp), hd 9 (by simp), hd 10 (by simp)⟩, fun _ => rfl, M'.cast (hd 4 (by simp)).symm (hd 9 (by simp)).symm (hd 10 (by simp)).symm rfl l12.symm⟩
      refine Steps.cons [4, 7, 9, 10, 11] rfl (by kernel_rfl) ?p12 ?_
      case p12 =>
        rintro L a' wx hL hd ⟨v25, v26, v27, v28, v29, v24, v30, v31, v32, v6, v7, v8, gl, P7, P8, A1, n1, c1, A2, n2, c2, rfl, h0, h1, h2, h3, h4, h5, h6, h7, h8, h9, h10, h13, hC1, hC2, M⟩ K' hK
        have Q := M.cast (hd 4 (by simp)) (hd 9 (by simp)) (hd 10 (by simp)) (hd 11 (by simp)) hL
        have b0 := (Q.box2 rfl rfl).c0
        have b1 := (Q.box2 rfl rfl).c1
        have b2 := (Q.box2 rfl rfl).c2
        have bf := (Q.box2 rfl rfl).f
        have e4 := h4 (hd 4 (by simp)); subst e4
        have e7 := (h7 (hd 7 (by simp))).2; subst e7
        have e9 := h9 (hd 9 (by simp)); subst e9
        have e10 := h10 (hd 10 (by simp)); subst e10
        simp only [Act.put, List.setIfInBounds_toArray, List.set_cons_zero, List.set_cons_succ]
        go_simp
        have M' := Q.store2
        exact hK _ _ ⟨v25, v26, v27, v28, _, v24, v30, _, v32, _, _, v8, gl, P7, P8, A1, n1, c1, A2, n2, c2, by simp only [Act.put, List.setIfInBounds_toArray, List.set_cons_zero, List.set_cons_succ], h0, fun e => ⟨(h1 e).1, fun d => absurd d (by simp [hd 4 (by simp)])⟩, h2, h3, h4, h5, h6, h7, h8, h9, h10, h13, hC1, fun _ => hd 11 (by simp), M'.cast (hd 4 (by simp)).symm (hd 9 (by simp)).symm (hd 10 (by simp)).symm (hd 11 (by simp)).symm rfl⟩
      refine Steps.cons [8] rfl (by kernel_rfl) ?p13 ?_
      case p13 =>
        rintro L a' wx hL hd ⟨v25, v26, v27, v28, v29, v24, v30, v31, v32, v6, v7, v8, gl, P7, P8, A1, n1, c1, A2, n2, c2, rfl, h0, h1, h2, h3, h4, h5, h6, h7, h8, h9, h10, h13, hC1, hC2, M⟩ K' hK
        have e8 := h8 (hd 8 (by simp)); subst e8
        simp only [Act.put, List.setIfInBounds_toArray, List.set_cons_zero, List.set_cons_succ]
        go_simp
        exact hK _ _ ⟨v25, v26, v27, v28, v29, v24, v30, v31, _, v6, v7, _, gl, P7, P8, A1, n1, c1, A2, n2, c2, by simp only [Act.put, List.setIfInBounds_toArray, List.set_cons_zero, List.set_cons_succ], h0, h1, h2, h3, h4, h5, h6, h7, h8, h9, h10, fun _ => rfl, hC1, hC2, M⟩
      exact Steps.nil
    case hfin =>
      rintro L a' wx hl ⟨v25, v26, v27, v28, v29, v24, v30, v31, v32, v6, v7, v8, gl, P7, P8, A1, n1, c1, A2, n2, c2, rfl, h0, h1, h2, h3, h4, h5, h6, h7, h8, h9, h10, h13, hC1, hC2, M⟩
      have e9 := h9 (hl 9 (by simp)); subst e9
      have e10 := h10 (hl 10 (by simp)); subst e10
      have e13 := h13 (hl 13 (by simp)); subst e13
      have Q := Lib.hid (M.cast (hl 4 (by simp)) (hl 9 (by simp)) (hl 10 (by simp)) (hl 11 (by simp)) (hl 12 (by simp)))
      clear M h0 h1 h2 h3 h4 h5 h6 h7 h8 h9 h10 h13 hC1 hC2
      simp only [Act.put, List.setIfInBounds_toArray, List.set_cons_zero, List.set_cons_succ]
      go_wp2_with fail
      go_meet
      case rel => exact ⟨P7, P8, A1, n1, c1, A2, n2, c2, rfl, rfl, rfl, Q⟩
  case rest =>
  rename World => w2
  obtain ⟨P_w0, P_w1, A_w0, n_w0, c_w0, A_w1, n_w1, c_w1, rfl, rfl, rfl, hM2⟩ := hcut
  have f_w0 := hM2.out.row1 rfl
  have f_w1 := hM2.out.row2 rfl
  have ap_w := hM2.out.ap rfl
  have HB2 : Below w1.heap.size w1 w2 := hM2.out.be
  have hx2 := HB2.size
  have q_w0 : w1.heap.size ≤ P_w0 := by
    have h := hM2.out.at1 rfl
    try simp only [World.size_alloc] at h
    exact h
  have z_w0 := (hM2.out.full1 rfl rfl).lt
  have l_w0 := Lib.hid (show ∀ k, (Value.slice A_w0 n_w0 c_w0).ownBlock = some k → w1.heap.size ≤ k ∧ k < w2.heap.size from fun k e => by
    have h := f_w0.lt k e
    try simp only [World.size_alloc] at h
    exact h)
  have q_w1 : w1.heap.size ≤ P_w1 := by
    have h := hM2.out.at2 rfl
    try simp only [World.size_alloc] at h
    exact h
  have z_w1 := (hM2.out.full2 rfl rfl).lt
  have l_w1 := Lib.hid (show ∀ k, (Value.slice A_w1 n_w1 c_w1).ownBlock = some k → w1.heap.size ≤ k ∧ k < w2.heap.size from fun k e => by
    have h := f_w1.lt k e
    try simp only [World.size_alloc] at h
    exact h)
  have R_w00 := hM2.out.r11 rfl rfl
  have R_w10 := hM2.out.r21 rfl rfl
  have R_w01 := hM2.out.r12 rfl rfl
  have R_w11 := hM2.out.r22 rfl rfl
  have N_w := hM2.out.ne rfl rfl
  replace t0_0 : w2.cell? ⟨w.heap.size, 0, none⟩ = some (.int .i64 z) := (hM2.out.be.cell (p := ⟨w.heap.size, 0, none⟩) (by first | (dsimp only; omega) | (simp only [World.size_alloc]; omega))).trans (by first | exact t0_0 | exact (World.cell?_alloc_lt _ _ _ (by go_size)).trans t0_0 | (rw [World.cell?_alloc_new]; done) | (rw [World.cell?_alloc_new]; rfl))
  replace t0_1 : w2.cell? ⟨w.heap.size, 1, none⟩ = some (.int .i64 y) := (hM2.out.be.cell (p := ⟨w.heap.size, 1, none⟩) (by first | (dsimp only; omega) | (simp only [World.size_alloc]; omega))).trans (by first | exact t0_1 | exact (World.cell?_alloc_lt _ _ _ (by go_size)).trans t0_1 | (rw [World.cell?_alloc_new]; done) | (rw [World.cell?_alloc_new]; rfl))
  replace t0_2 : w2.cell? ⟨w.heap.size, 2, none⟩ = some (.slice A n c) := (hM2.out.be.cell (p := ⟨w.heap.size, 2, none⟩) (by first | (dsimp only; omega) | (simp only [World.size_alloc]; omega))).trans (by first | exact t0_2 | exact (World.cell?_alloc_lt _ _ _ (by go_size)).trans t0_2 | (rw [World.cell?_alloc_new]; done) | (rw [World.cell?_alloc_new]; rfl))
  replace t1_0 : w2.cell? ⟨w.heap.size + 1, 0, none⟩ = some (.bool u) := (hM2.out.be.cell (p := ⟨w.heap.size + 1, 0, none⟩) (by first | (dsimp only; omega) | (simp only [World.size_alloc]; omega))).trans (by first | exact t1_0 | exact (World.cell?_alloc_lt _ _ _ (by go_size)).trans t1_0 | (rw [World.cell?_alloc_new]; done) | (rw [World.cell?_alloc_new]; rfl))
  replace t1_1 : w2.cell? ⟨w.heap.size + 1, 1, none⟩ = some (.int .i64 a) := (hM2.out.be.cell (p := ⟨w.heap.size + 1, 1, none⟩) (by first | (dsimp only; omega) | (simp only [World.size_alloc]; omega))).trans (by first | exact t1_1 | exact (World.cell?_alloc_lt _ _ _ (by go_size)).trans t1_1 | (rw [World.cell?_alloc_new]; done) | (rw [World.cell?_alloc_new]; rfl))
  replace a_x := a_x.below (HB2.mono (by omega))
  replace HW := HW.trans (HB2.mono (by omega))
  have t2_0 := (hM2.out.full1 rfl rfl).c0
  have t2_1 := (hM2.out.full1 rfl rfl).c1
  have t2_2 := (hM2.out.full1 rfl rfl).c2
  have t3_0 := (hM2.out.full2 rfl rfl).c0
  have t3_1 := (hM2.out.full2 rfl rfl).c1
  have t3_2 := (hM2.out.full2 rfl rfl).c2
  clear hM2 HB2
  go_wp2_with fail
  refine (laws_toLayout _ _ _ _ _ _ _ (a_x.below' (by go_grown) (by go_size))).mono ?_
  rintro e w3 ⟨g_x0, rfl, f_x0, hb3⟩
  have l_x0 := Lib.hid f_x0.lt
  try simp only [World.size_alloc] at l_x0
  have hy3 := bsize hb3
  try simp at hy3
  have HB3 : Below w2.heap.size w2 w3 := by (repeat' (first | (with_reducible exact Below.refl _ _) | (with_reducible refine Below.setCell ?_ ?_ _) | (with_reducible refine Below.alloc ?_ ?_ _) | (with_reducible refine Below.drew ?_) | (with_reducible refine Below.drewN ?_ _) | (with_reducible refine Below.trans ?_ (Below.mono (by with_reducible assumption) ?_)) | go_size | (dsimp only; omega)))
  have hx3 := HB3.size
  obtain ⟨bc3, bf3, bz3⟩ := bcell hb3 (b := w.heap.size) (by go_size)
  replace t0_0 : w3.cell? ⟨w.heap.size, 0, none⟩ = some (.int .i64 z) := (bc3 0).trans (by first | exact t0_0 | exact (World.cell?_alloc_lt _ _ _ (by go_size)).trans t0_0)
  replace t0_1 : w3.cell? ⟨w.heap.size, 1, none⟩ = some (.int .i64 y) := (bc3 1).trans (by first | exact t0_1 | exact (World.cell?_alloc_lt _ _ _ (by go_size)).trans t0_1)
  replace t0_2 : w3.cell? ⟨w.heap.size, 2, none⟩ = some (.slice A n c) := (bc3 2).trans (by first | exact t0_2 | exact (World.cell?_alloc_lt _ _ _ (by go_size)).trans t0_2)
  clear bc3 bf3
  obtain ⟨bc3, bf3, bz3⟩ := bcell hb3 (b := w.heap.size + 1) (by go_size)
  replace t1_0 : w3.cell? ⟨w.heap.size + 1, 0, none⟩ = some (.bool u) := (bc3 0).trans (by first | exact t1_0 | exact (World.cell?_alloc_lt _ _ _ (by go_size)).trans t1_0)
  replace t1_1 : w3.cell? ⟨w.heap.size + 1, 1, none⟩ = some (.int .i64 a) := (bc3 1).trans (by first | exact t1_1 | exact (World.cell?_alloc_lt _ _ _ (by go_size)).trans t1_1)
  clear bc3 bf3
  obtain ⟨bc3, bf3, bz3⟩ := bcell hb3 (b := P_w0) (by go_size)
  replace t2_0 : w3.cell? ⟨P_w0, 0, none⟩ = some (.int .i64 (spZ1 z y xs u a)) := (bc3 0).trans (by first | exact t2_0 | exact (World.cell?_alloc_lt _ _ _ (by go_size)).trans t2_0)
  replace t2_1 : w3.cell? ⟨P_w0, 1, none⟩ = some (.int .i64 (spY1 z y xs u a)) := (bc3 1).trans (by first | exact t2_1 | exact (World.cell?_alloc_lt _ _ _ (by go_size)).trans t2_1)
  replace t2_2 : w3.cell? ⟨P_w0, 2, none⟩ = some (.slice A_w0 n_w0 c_w0) := (bc3 2).trans (by first | exact t2_2 | exact (World.cell?_alloc_lt _ _ _ (by go_size)).trans t2_2)
  clear bc3 bf3
  obtain ⟨bc3, bf3, bz3⟩ := bcell hb3 (b := P_w1) (by go_size)
  replace t3_0 : w3.cell? ⟨P_w1, 0, none⟩ = some (.int .i64 (spZ2 z y xs u a)) := (bc3 0).trans (by first | exact t3_0 | exact (World.cell?_alloc_lt _ _ _ (by go_size)).trans t3_0)
  replace t3_1 : w3.cell? ⟨P_w1, 1, none⟩ = some (.int .i64 (spY2 z y xs u a)) := (bc3 1).trans (by first | exact t3_1 | exact (World.cell?_alloc_lt _ _ _ (by go_size)).trans t3_1)
  replace t3_2 : w3.cell? ⟨P_w1, 2, none⟩ = some (.slice A_w1 n_w1 c_w1) := (bc3 2).trans (by first | exact t3_2 | exact (World.cell?_alloc_lt _ _ _ (by go_size)).trans t3_2)
  clear bc3 bf3
  replace f_w0 := f_w0.next HB3
  replace f_w1 := f_w1.next HB3
  replace a_x := a_x.below (HB3.mono (by omega))
  replace HW := HW.trans (HB3.mono (by omega))
  clear hb3 HB3
  have m_x0 : ∀ k, (Value.slice (some ⟨g_x0, 0, none⟩) n n).ownBlock = some k → w2.heap.size ≤ k ∧ k < w3.heap.size := fun k e => ⟨Nat.le_trans (by go_size) (f_x0.lt k e).1, (f_x0.lt k e).2⟩
  clear l_x0
  have l_x0 := Lib.hid m_x0
  clear m_x0
  go_upto_region 7 with fail
  go_cut [10, 11, 12] (fun s0 s1 s2 wx => ∃ (P7 P8 : Nat) (A1 : Option Addr) (n1 c1 : Nat) (A2 : Option Addr) (n2 c2 : Nat), s0 = .pointer (some ⟨P7, 0, none⟩) ∧ s1 = .pointer (some ⟨P8, 0, none⟩) ∧ s2 = .bool (cutB z y xs u a) ∧ Hid (Mid (w3.alloc (.cells #[.int .i64 z, .int .i64 y, .slice (some ⟨g_x0, 0, none⟩) n n] 29)) wx true true true true true P7 P8 A1 n1 c1 A2 n2 c2 (spZ1 z y xs u a) (spY1 z y xs u a) (spZ2 z y xs u a) (spY2 z y xs u a) (spL1 z y xs u a) (spL2 z y xs u a)))
  case first =>
    refine wp_region_steps (fun a0 L a' wx => ∃ (v36 v37 v38 v39 v35 v40 v41 v42 v10 v11 v12 : Value) (gl P7 P8 : Nat) (A1 : Option Addr) (n1 c1 : Nat) (A2 : Option Addr) (n2 c2 : Nat), a' = (((((((((((a0.put (some 36) v36).put (some 37) v37).put (some 38) v38).put (some 39) v39).put (some 35) v35).put (some 40) v40).put (some 41) v41).put (some 42) v42).put (some 10) v10).put (some 11) v11).put (some 12) v12) ∧
        (L 0 = true → v36 = .agg #[.int .i64 z, .int .i64 y, .slice (some ⟨g_x0, 0, none⟩) n n]) ∧
        (L 1 = true → v37 = .agg #[.bool u, .int .i64 a]) ∧
        (L 2 = true → v38 = .agg #[.bool u, .int .i64 a]) ∧
        (L 3 = true → v39 = .tuple #[.agg #[.int .i64 (spZ1 z y xs u a), .int .i64 (spY1 z y xs u a), .slice A1 n1 c1], .agg #[.int .i64 (spZ2 z y xs u a), .int .i64 (spY2 z y xs u a), .slice A2 n2 c2], .bool (cutB z y xs u a)]) ∧
        (L 4 = true → L 3 = true ∧ v35 = .tuple #[.agg #[.int .i64 (spZ1 z y xs u a), .int .i64 (spY1 z y xs u a), .slice A1 n1 c1], .agg #[.int .i64 (spZ2 z y xs u a), .int .i64 (spY2 z y xs u a), .slice A2 n2 c2], .bool (cutB z y xs u a)]) ∧
        (L 5 = true → L 3 = true ∧ v40 = .agg #[.int .i64 (spZ1 z y xs u a), .int .i64 (spY1 z y xs u a), .slice A1 n1 c1]) ∧
        (L 6 = true → L 3 = true ∧ v41 = .agg #[.int .i64 (spZ2 z y xs u a), .int .i64 (spY2 z y xs u a), .slice A2 n2 c2]) ∧
        (L 7 = true → v42 = .bool (cutB z y xs u a)) ∧
        (L 8 = true → v10 = .pointer (some ⟨P7, 0, none⟩)) ∧
        (L 9 = true → v11 = .pointer (some ⟨P8, 0, none⟩)) ∧
        (L 12 = true → v12 = .bool (cutB z y xs u a)) ∧
        (L 10 = true → L 3 = true ∧ L 8 = true ∧ L 9 = true) ∧
        (L 11 = true → L 10 = true) ∧
        Mid (w3.alloc (.cells #[.int .i64 z, .int .i64 y, .slice (some ⟨g_x0, 0, none⟩) n n] 29)) wx (L 3) (L 8) (L 9) (L 10) (L 11) P7 P8 A1 n1 c1 A2 n2 c2 (spZ1 z y xs u a) (spY1 z y xs u a) (spZ2 z y xs u a) (spY2 z y xs u a) (spL1 z y xs u a) (spL2 z y xs u a)) [0, 1, 2, 3, 4, 5, 6, 7, 8, 9, 10, 11, 12] (by kernel_rfl) (by kernel_rfl) (by kernel_rfl) ?h0 ?hs ?hfin
    case h0 =>
      refine ⟨?_, ?_, ?_, ?_, ?_, ?_, ?_, ?_, ?_, ?_, ?_, 0, 0, 0, none, 0, 0, none, 0, 0, ?eq, nofun, nofun, nofun, nofun, nofun, nofun, nofun, nofun, nofun, nofun, nofun, nofun, nofun, Mid.start _⟩
      case eq =>
        simp only [Act.put, List.setIfInBounds_toArray, List.set_cons_zero, List.set_cons_succ]
        try rfl
    case hs =>
      refine Steps.cons [] rfl (by kernel_rfl) ?p0 ?_
      case p0 =>
        rintro L a' wx hL hd ⟨v36, v37, v38, v39, v35, v40, v41, v42, v10, v11, v12, gl, P7, P8, A1, n1, c1, A2, n2, c2, rfl, h0, h1, h2, h3, h4, h5, h6, h7, h8, h9, h12, hC1, hC2, M⟩ K' hK
        have q0 := (M.be.cell (p := ⟨w3.heap.size, 0, none⟩) (by first | (dsimp only; omega) | (simp only [World.size_alloc]; omega))).trans (by first | (rw [World.cell?_alloc_new]; done) | (rw [World.cell?_alloc_new]; rfl)); have q1 := (M.be.cell (p := ⟨w3.heap.size, 1, none⟩) (by first | (dsimp only; omega) | (simp only [World.size_alloc]; omega))).trans (by first | (rw [World.cell?_alloc_new]; done) | (rw [World.cell?_alloc_new]; rfl)); have q2 := (M.be.cell (p := ⟨w3.heap.size, 2, none⟩) (by first | (dsimp only; omega) | (simp only [World.size_alloc]; omega))).trans (by first | (rw [World.cell?_alloc_new]; done) | (rw [World.cell?_alloc_new]; rfl))
        simp only [Act.put, List.setIfInBounds_toArray, List.set_cons_zero, List.set_cons_succ]
        go_simp
        exact hK _ _ ⟨_, v37, v38, v39, v35, v40, v41, v42, v10, v11, v12, gl, P7, P8, A1, n1, c1, A2, n2, c2, by simp only [Act.put, List.setIfInBounds_toArray, List.set_cons_zero, List.set_cons_succ], fun _ => rfl, h1, h2, h3, h4, h5, h6, h7, h8, h9, h12, hC1, hC2, M⟩
      refine Steps.cons [] rfl (by kernel_rfl) ?p1 ?_
      case p1 =>
        rintro L a' wx hL hd ⟨v36, v37, v38, v39, v35, v40, v41, v42, v10, v11, v12, gl, P7, P8, A1, n1, c1, A2, n2, c2, rfl, h0, h1, h2, h3, h4, h5, h6, h7, h8, h9, h12, hC1, hC2, M⟩ K' hK
        have q0 := (M.be.cell (p := ⟨w.heap.size + 1, 0, none⟩) (by first | (dsimp only; omega) | (simp only [World.size_alloc]; omega))).trans ((World.cell?_alloc_lt _ _ _ (by go_size)).trans t1_0); have q1 := (M.be.cell (p := ⟨w.heap.size + 1, 1, none⟩) (by first | (dsimp only; omega) | (simp only [World.size_alloc]; omega))).trans ((World.cell?_alloc_lt _ _ _ (by go_size)).trans t1_1)
        simp only [Act.put, List.setIfInBounds_toArray, List.set_cons_zero, List.set_cons_succ]
        go_simp
        exact hK _ _ ⟨v36, _, v38, v39, v35, v40, v41, v42, v10, v11, v12, gl, P7, P8, A1, n1, c1, A2, n2, c2, by simp only [Act.put, List.setIfInBounds_toArray, List.set_cons_zero, List.set_cons_succ], h0, fun _ => rfl, h2, h3, h4, h5, h6, h7, h8, h9, h12, hC1, hC2, M⟩
      refine Steps.cons [1] rfl (by kernel_rfl) ?p2 ?_
      case p2 =>
        rintro L a' wx hL hd ⟨v36, v37, v38, v39, v35, v40, v41, v42, v10, v11, v12, gl, P7, P8, A1, n1, c1, A2, n2, c2, rfl, h0, h1, h2, h3, h4, h5, h6, h7, h8, h9, h12, hC1, hC2, M⟩ K' hK
        have e1 := h1 (hd 1 (by simp)); subst e1
        simp only [Act.put, List.setIfInBounds_toArray, List.set_cons_zero, List.set_cons_succ]
        go_simp
        refine (laws_toCut u a _).mono ?_
        rintro e w' ⟨rfl, hb⟩
        have M' := M.read hb
        go_simp
        exact hK _ _ ⟨v36, _, _, v39, v35, v40, v41, v42, v10, v11, v12, gl, P7, P8, A1, n1, c1, A2, n2, c2, by simp only [Act.put, List.setIfInBounds_toArray, List.set_cons_zero, List.set_cons_succ], h0, h1, fun _ => rfl, h3, h4, h5, h6, h7, h8, h9, h12, hC1, hC2, M'⟩
      refine Steps.cons [0, 2] rfl (by kernel_rfl) ?p3 ?_
      case p3 =>
        rintro L a' wx hL hd ⟨v36, v37, v38, v39, v35, v40, v41, v42, v10, v11, v12, gl, P7, P8, A1, n1, c1, A2, n2, c2, rfl, h0, h1, h2, h3, h4, h5, h6, h7, h8, h9, h12, hC1, hC2, M⟩ K' hK
        have l11 : L 10 = false := Bool.eq_false_iff.2 (fun e => absurd (hC1 e).1 (by rw [hL]; nofun))
        have l12 : L 11 = false := Bool.eq_false_iff.2 (fun e => absurd (hC2 e) (by rw [l11]; nofun))
        have rw_ : RdP wx wx.heap.size _ n xs := ((f_x0.rd Pt.len).below' (((Below.refl _ _).alloc (Nat.le_refl _) _).trans (M.be.mono (by simp))) (by have := M.be.size; simp only [World.size_alloc] at this; omega))
        have e0 := h0 (hd 0 (by simp)); subst e0
        have e2 := h2 (hd 2 (by simp)); subst e2
        simp only [Act.put, List.setIfInBounds_toArray, List.set_cons_zero, List.set_cons_succ]
        go_simp
        refine (impl_SplitLayout _ _ _ _ _ xs _ _ _ rw_).mono ?_
        rintro e w' ⟨A1', n1', c1', A2', n2', c2', rfl, o1, o2, ap, hb⟩
        have M' := (M.cast hL rfl rfl l11 l12).call hb o1 o2 ap
        go_simp
        exact hK _ _ ⟨_, v37, _, _, v35, v40, v41, v42, v10, v11, v12, gl, P7, P8, A1', n1', c1', A2', n2', c2', by simp only [Act.put, List.setIfInBounds_toArray, List.set_cons_zero, List.set_cons_succ], h0, h1, h2, fun _ => rfl, fun e => absurd (h4 e).1 (by rw [hL]; nofun), fun e => absurd (h5 e).1 (by rw [hL]; nofun), fun e => absurd (h6 e).1 (by rw [hL]; nofun), h7, h8, h9, h12, fun e => absurd (hC1 e).1 (by rw [hL]; nofun), hC2, M'.cast rfl rfl rfl l11.symm l12.symm⟩
      refine Steps.cons [3] rfl (by kernel_rfl) ?p4 ?_
      case p4 =>
        rintro L a' wx hL hd ⟨v36, v37, v38, v39, v35, v40, v41, v42, v10, v11, v12, gl, P7, P8, A1, n1, c1, A2, n2, c2, rfl, h0, h1, h2, h3, h4, h5, h6, h7, h8, h9, h12, hC1, hC2, M⟩ K' hK
        have e3 := h3 (hd 3 (by simp)); subst e3
        simp only [Act.put, List.setIfInBounds_toArray, List.set_cons_zero, List.set_cons_succ]
        go_simp
        exact hK _ _ ⟨v36, v37, v38, _, _, v40, v41, v42, v10, v11, v12, gl, P7, P8, A1, n1, c1, A2, n2, c2, by simp only [Act.put, List.setIfInBounds_toArray, List.set_cons_zero, List.set_cons_succ], h0, h1, h2, h3, fun _ => ⟨hd 3 (by simp), rfl⟩, h5, h6, h7, h8, h9, h12, hC1, hC2, M⟩
      refine Steps.cons [4] rfl (by kernel_rfl) ?p5 ?_
      case p5 =>
        rintro L a' wx hL hd ⟨v36, v37, v38, v39, v35, v40, v41, v42, v10, v11, v12, gl, P7, P8, A1, n1, c1, A2, n2, c2, rfl, h0, h1, h2, h3, h4, h5, h6, h7, h8, h9, h12, hC1, hC2, M⟩ K' hK
        have hc := (h4 (hd 4 (by simp))).1
        have e4 := (h4 (hd 4 (by simp))).2; subst e4
        have e3 := h3 hc; subst e3
        simp only [Act.put, List.setIfInBounds_toArray, List.set_cons_zero, List.set_cons_succ]
        go_simp
        exact hK _ _ ⟨v36, v37, v38, _, _, _, v41, v42, v10, v11, v12, gl, P7, P8, A1, n1, c1, A2, n2, c2, by simp only [Act.put, List.setIfInBounds_toArray, List.set_cons_zero, List.set_cons_succ], h0, h1, h2, h3, h4, fun _ => ⟨hc, rfl⟩, h6, h7, h8, h9, h12, hC1, hC2, M⟩
      refine Steps.cons [4] rfl (by kernel_rfl) ?p6 ?_
      case p6 =>
        rintro L a' wx hL hd ⟨v36, v37, v38, v39, v35, v40, v41, v42, v10, v11, v12, gl, P7, P8, A1, n1, c1, A2, n2, c2, rfl, h0, h1, h2, h3, h4, h5, h6, h7, h8, h9, h12, hC1, hC2, M⟩ K' hK
        have hc := (h4 (hd 4 (by simp))).1
        have e4 := (h4 (hd 4 (by simp))).2; subst e4
        have e3 := h3 hc; subst e3
        simp only [Act.put, List.setIfInBounds_toArray, List.set_cons_zero, List.set_cons_succ]
        go_simp
        exact hK _ _ ⟨v36, v37, v38, _, _, v40, _, v42, v10, v11, v12, gl, P7, P8, A1, n1, c1, A2, n2, c2, by simp only [Act.put, List.setIfInBounds_toArray, List.set_cons_zero, List.set_cons_succ], h0, h1, h2, h3, h4, h5, fun _ => ⟨hc, rfl⟩, h7, h8, h9, h12, hC1, hC2, M⟩
      refine Steps.cons [4] rfl (by kernel_rfl) ?p7 ?_
      case p7 =>
        rintro L a' wx hL hd ⟨v36, v37, v38, v39, v35, v40, v41, v42, v10, v11, v12, gl, P7, P8, A1, n1, c1, A2, n2, c2, rfl, h0, h1, h2, h3, h4, h5, h6, h7, h8, h9, h12, hC1, hC2, M⟩ K' hK
        have hc := (h4 (hd 4 (by simp))).1
        have e4 := (h4 (hd 4 (by simp))).2; subst e4
        have e3 := h3 hc; subst e3
        simp only [Act.put, List.setIfInBounds_toArray, List.set_cons_zero, List.set_cons_succ]
        go_simp
        exact hK _ _ ⟨v36, v37, v38, _, _, v40, v41, _, v10, v11, v12, gl, P7, P8, A1, n1, c1, A2, n2, c2, by simp only [Act.put, List.setIfInBounds_toArray, List.set_cons_zero, List.set_cons_succ], h0, h1, h2, h3, h4, h5, h6, fun _ => rfl, h8, h9, h12, hC1, hC2, M⟩
      refine Steps.cons [] rfl (by kernel_rfl) ?p8 ?_
      case p8 =>
        rintro L a' wx hL hd ⟨v36, v37, v38, v39, v35, v40, v41, v42, v10, v11, v12, gl, P7, P8, A1, n1, c1, A2, n2, c2, rfl, h0, h1, h2, h3, h4, h5, h6, h7, h8, h9, h12, hC1, hC2, M⟩ K' hK
        have l11 : L 10 = false := Bool.eq_false_iff.2 (fun e => absurd (hC1 e).2.1 (by rw [hL]; nofun))
        have l12 : L 11 = false := Bool.eq_false_iff.2 (fun e => absurd (hC2 e) (by rw [l11]; nofun))
        simp only [Act.put, List.setIfInBounds_toArray, List.set_cons_zero, List.set_cons_succ]
        go_simp
        have M' := (M.cast rfl hL rfl l11 rfl).alloc1 29
        have hb := (Below.refl wx.heap.size wx).alloc (Nat.le_refl _) (.cells #[.int .i64 0, .int .i64 0, .slice none 0 0] 29)
        exact hK _ _ ⟨v36, v37, v38, v39, v35, v40, v41, v42, _, v11, v12, gl, wx.heap.size, P8, A1, n1, c1, A2, n2, c2, by simp only [Act.put, List.setIfInBounds_toArray, List.set_cons_zero, List.set_cons_succ], h0, h1, h2, h3, h4, h5, h6, h7, fun _ => rfl, h9, h12, fun e => ⟨(hC1 e).1, rfl, (hC1 e).2.2⟩, hC2, M'.cast rfl rfl rfl l11.symm rfl⟩
      refine Steps.cons [] rfl (by kernel_rfl) ?p9 ?_
      case p9 =>
        rintro L a' wx hL hd ⟨v36, v37, v38, v39, v35, v40, v41, v42, v10, v11, v12, gl, P7, P8, A1, n1, c1, A2, n2, c2, rfl, h0, h1, h2, h3, h4, h5, h6, h7, h8, h9, h12, hC1, hC2, M⟩ K' hK
        have l11 : L 10 = false := Bool.eq_false_iff.2 (fun e => absurd (hC1 e).2.2 (by rw [hL]; nofun))
        have l12 : L 11 = false := Bool.eq_false_iff.2 (fun e => absurd (hC2 e) (by rw [l11]; nofun))
        simp only [Act.put, List.setIfInBounds_toArray, List.set_cons_zero, List.set_cons_succ]
        go_simp
        have M' := (M.cast rfl rfl hL rfl l12).alloc2 29
        have hb := (Below.refl wx.heap.size wx).alloc (Nat.le_refl _) (.cells #[.int .i64 0, .int .i64 0, .slice none 0 0] 29)
        exact hK _ _ ⟨v36, v37, v38, v39, v35, v40, v41, v42, v10, _, v12, gl, P7, wx.heap.size, A1, n1, c1, A2, n2, c2, by simp only [Act.put, List.setIfInBounds_toArray, List.set_cons_zero, List.set_cons_succ], h0, h1, h2, h3, h4, h5, h6, h7, h8, fun _ => rfl, h12, fun e => ⟨(hC1 e).1, (hC1 e).2.1, rfl⟩, hC2, M'.cast rfl rfl rfl rfl l12.symm⟩
      refine Steps.cons [3, 5, 8, 9] rfl (by kernel_rfl) ?p10 ?_
      case p10 =>
        rintro L a' wx hL hd ⟨v36, v37, v38, v39, v35, v40, v41, v42, v10, v11, v12, gl, P7, P8, A1, n1, c1, A2, n2, c2, rfl, h0, h1, h2, h3, h4, h5, h6, h7, h8, h9, h12, hC1, hC2, M⟩ K' hK
        have l12 : L 11 = false := Bool.eq_false_iff.2 (fun e => absurd (hC2 e) (by rw [hL]; nofun))
        have Q := M.cast (hd 3 (by simp)) (hd 8 (by simp)) (hd 9 (by simp)) hL l12
        have b0 := (Q.box1 rfl rfl).c0
        have b1 := (Q.box1 rfl rfl).c1
        have b2 := (Q.box1 rfl rfl).c2
        have bf := (Q.box1 rfl rfl).f
        have e3 := h3 (hd 3 (by simp)); subst e3
        have e5 := (h5 (hd 5 (by simp))).2; subst e5
        have e8 := h8 (hd 8 (by simp)); subst e8
        have e9 := h9 (hd 9 (by simp)); subst e9
        simp only [Act.put, List.setIfInBounds_toArray, List.set_cons_zero, List.set_cons_succ]
        go_simp
        have M' := Q.store1
        exact hK _ _ ⟨v36, v37, v38, _, v35, _, v41, v42, _, _, v12, gl, P7, P8, A1, n1, c1, A2, n2, c2, by simp only [Act.put, List.setIfInBounds_toArray, List.set_cons_zero, List.set_cons_succ], h0, h1, h2, h3, h4, h5, h6, h7, h8, h9, h12, fun _ => ⟨hd 3 (by simp), hd 8 (by simp), hd 9 (by simp)⟩, fun _ => rfl, M'.cast (hd 3 (by simp)).symm (hd 8 (by simp)).symm (hd 9 (by simp)).symm rfl l12.symm⟩
      refine Steps.cons [3, 6, 8, 9, 10] rfl (by kernel_rfl) ?p11 ?_
      case p11 =>
        rintro L a' wx hL hd ⟨v36, v37, v38, v39, v35, v40, v41, v42, v10, v11, v12, gl, P7, P8, A1, n1, c1, A2, n2, c2, rfl, h0, h1, h2, h3, h4, h5, h6, h7, h8, h9, h12, hC1, hC2, M⟩ K' hK
        have Q := M.cast (hd 3 (by simp)) (hd 8 (by simp)) (hd 9 (by simp)) (hd 10 (by simp)) hL
        have b0 := (Q.box2 rfl rfl).c0
        have b1 := (Q.box2 rfl rfl).c1
        have b2 := (Q.box2 rfl rfl).c2
        have bf := (Q.box2 rfl rfl).f
        have e3 := h3 (hd 3 (by simp)); subst e3
        have e6 := (h6 (hd 6 (by simp))).2; subst e6
        have e8 := h8 (hd 8 (by simp)); subst e8
        have e9 := h9 (hd 9 (by simp)); subst e9
        simp only [Act.put, List.setIfInBounds_toArray, List.set_cons_zero, List.set_cons_succ]
        go_simp
        have M' := Q.store2
        exact hK _ _ ⟨v36, v37, v38, _, v35, v40, _, v42, _, _, v12, gl, P7, P8, A1, n1, c1, A2, n2, c2, by simp only [Act.put, List.setIfInBounds_toArray, List.set_cons_zero, List.set_cons_succ], h0, h1, h2, h3, h4, h5, h6, h7, h8, h9, h12, hC1, fun _ => hd 10 (by simp), M'.cast (hd 3 (by simp)).symm (hd 8 (by simp)).symm (hd 9 (by simp)).symm (hd 10 (by simp)).symm rfl⟩
      refine Steps.cons [7] rfl (by kernel_rfl) ?p12 ?_
      case p12 =>
        rintro L a' wx hL hd ⟨v36, v37, v38, v39, v35, v40, v41, v42, v10, v11, v12, gl, P7, P8, A1, n1, c1, A2, n2, c2, rfl, h0, h1, h2, h3, h4, h5, h6, h7, h8, h9, h12, hC1, hC2, M⟩ K' hK
        have e7 := h7 (hd 7 (by simp)); subst e7
        simp only [Act.put, List.setIfInBounds_toArray, List.set_cons_zero, List.set_cons_succ]
        go_simp
        exact hK _ _ ⟨v36, v37, v38, v39, v35, v40, v41, _, v10, v11, _, gl, P7, P8, A1, n1, c1, A2, n2, c2, by simp only [Act.put, List.setIfInBounds_toArray, List.set_cons_zero, List.set_cons_succ], h0, h1, h2, h3, h4, h5, h6, h7, h8, h9, fun _ => rfl, hC1, hC2, M⟩
      exact Steps.nil
    case hfin =>
      rintro L a' wx hl ⟨v36, v37, v38, v39, v35, v40, v41, v42, v10, v11, v12, gl, P7, P8, A1, n1, c1, A2, n2, c2, rfl, h0, h1, h2, h3, h4, h5, h6, h7, h8, h9, h12, hC1, hC2, M⟩
      have e8 := h8 (hl 8 (by simp)); subst e8
      have e9 := h9 (hl 9 (by simp)); subst e9
      have e12 := h12 (hl 12 (by simp)); subst e12
      have Q := Lib.hid (M.cast (hl 3 (by simp)) (hl 8 (by simp)) (hl 9 (by simp)) (hl 10 (by simp)) (hl 11 (by simp)))
      clear M h0 h1 h2 h3 h4 h5 h6 h7 h8 h9 h12 hC1 hC2
      simp only [Act.put, List.setIfInBounds_toArray, List.set_cons_zero, List.set_cons_succ]
      go_wp2_with fail
      go_meet
      case rel => exact ⟨P7, P8, A1, n1, c1, A2, n2, c2, rfl, rfl, rfl, Q⟩
  case rest =>
  rename World => w4
  obtain ⟨P_g0, P_g1, A_g0, n_g0, c_g0, A_g1, n_g1, c_g1, rfl, rfl, rfl, hM4⟩ := hcut
  have f_g0 := hM4.out.row1 rfl
  have f_g1 := hM4.out.row2 rfl
  have ap_g := hM4.out.ap rfl
  have HB4 : Below w3.heap.size w3 w4 := ((Below.refl _ _).alloc (Nat.le_refl _) _).trans (hM4.out.be.mono (by simp))
  have hx4 := HB4.size
  have q_g0 : w3.heap.size + 1 ≤ P_g0 := by
    have h := hM4.out.at1 rfl
    try simp only [World.size_alloc] at h
    exact h
  have z_g0 := (hM4.out.full1 rfl rfl).lt
  have l_g0 := Lib.hid (show ∀ k, (Value.slice A_g0 n_g0 c_g0).ownBlock = some k → w3.heap.size + 1 ≤ k ∧ k < w4.heap.size from fun k e => by
    have h := f_g0.lt k e
    try simp only [World.size_alloc] at h
    exact h)
  have q_g1 : w3.heap.size + 1 ≤ P_g1 := by
    have h := hM4.out.at2 rfl
    try simp only [World.size_alloc] at h
    exact h
  have z_g1 := (hM4.out.full2 rfl rfl).lt
  have l_g1 := Lib.hid (show ∀ k, (Value.slice A_g1 n_g1 c_g1).ownBlock = some k → w3.heap.size + 1 ≤ k ∧ k < w4.heap.size from fun k e => by
    have h := f_g1.lt k e
    try simp only [World.size_alloc] at h
    exact h)
  have R_g00 := hM4.out.r11 rfl rfl
  have R_g10 := hM4.out.r21 rfl rfl
  have R_g01 := hM4.out.r12 rfl rfl
  have R_g11 := hM4.out.r22 rfl rfl
  have N_g := hM4.out.ne rfl rfl
  replace t0_0 : w4.cell? ⟨w.heap.size, 0, none⟩ = some (.int .i64 z) := (hM4.out.be.cell (p := ⟨w.heap.size, 0, none⟩) (by first | (dsimp only; omega) | (simp only [World.size_alloc]; omega))).trans (by first | exact t0_0 | exact (World.cell?_alloc_lt _ _ _ (by go_size)).trans t0_0 | (rw [World.cell?_alloc_new]; done) | (rw [World.cell?_alloc_new]; rfl))
  replace t0_1 : w4.cell? ⟨w.heap.size, 1, none⟩ = some (.int .i64 y) := (hM4.out.be.cell (p := ⟨w.heap.size, 1, none⟩) (by first | (dsimp only; omega) | (simp only [World.size_alloc]; omega))).trans (by first | exact t0_1 | exact (World.cell?_alloc_lt _ _ _ (by go_size)).trans t0_1 | (rw [World.cell?_alloc_new]; done) | (rw [World.cell?_alloc_new]; rfl))
  replace t0_2 : w4.cell? ⟨w.heap.size, 2, none⟩ = some (.slice A n c) := (hM4.out.be.cell (p := ⟨w.heap.size, 2, none⟩) (by first | (dsimp only; omega) | (simp only [World.size_alloc]; omega))).trans (by first | exact t0_2 | exact (World.cell?_alloc_lt _ _ _ (by go_size)).trans t0_2 | (rw [World.cell?_alloc_new]; done) | (rw [World.cell?_alloc_new]; rfl))
  replace t1_0 : w4.cell? ⟨w.heap.size + 1, 0, none⟩ = some (.bool u) := (hM4.out.be.cell (p := ⟨w.heap.size + 1, 0, none⟩) (by first | (dsimp only; omega) | (simp only [World.size_alloc]; omega))).trans (by first | exact t1_0 | exact (World.cell?_alloc_lt _ _ _ (by go_size)).trans t1_0 | (rw [World.cell?_alloc_new]; done) | (rw [World.cell?_alloc_new]; rfl))
  replace t1_1 : w4.cell? ⟨w.heap.size + 1, 1, none⟩ = some (.int .i64 a) := (hM4.out.be.cell (p := ⟨w.heap.size + 1, 1, none⟩) (by first | (dsimp only; omega) | (simp only [World.size_alloc]; omega))).trans (by first | exact t1_1 | exact (World.cell?_alloc_lt _ _ _ (by go_size)).trans t1_1 | (rw [World.cell?_alloc_new]; done) | (rw [World.cell?_alloc_new]; rfl))
  replace t2_0 : w4.cell? ⟨P_w0, 0, none⟩ = some (.int .i64 (spZ1 z y xs u a)) := (hM4.out.be.cell (p := ⟨P_w0, 0, none⟩) (by first | (dsimp only; omega) | (simp only [World.size_alloc]; omega))).trans (by first | exact t2_0 | exact (World.cell?_alloc_lt _ _ _ (by go_size)).trans t2_0 | (rw [World.cell?_alloc_new]; done) | (rw [World.cell?_alloc_new]; rfl))
  replace t2_1 : w4.cell? ⟨P_w0, 1, none⟩ = some (.int .i64 (spY1 z y xs u a)) := (hM4.out.be.cell (p := ⟨P_w0, 1, none⟩) (by first | (dsimp only; omega) | (simp only [World.size_alloc]; omega))).trans (by first | exact t2_1 | exact (World.cell?_alloc_lt _ _ _ (by go_size)).trans t2_1 | (rw [World.cell?_alloc_new]; done) | (rw [World.cell?_alloc_new]; rfl))
  replace t2_2 : w4.cell? ⟨P_w0, 2, none⟩ = some (.slice A_w0 n_w0 c_w0) := (hM4.out.be.cell (p := ⟨P_w0, 2, none⟩) (by first | (dsimp only; omega) | (simp only [World.size_alloc]; omega))).trans (by first | exact t2_2 | exact (World.cell?_alloc_lt _ _ _ (by go_size)).trans t2_2 | (rw [World.cell?_alloc_new]; done) | (rw [World.cell?_alloc_new]; rfl))
  replace t3_0 : w4.cell? ⟨P_w1, 0, none⟩ = some (.int .i64 (spZ2 z y xs u a)) := (hM4.out.be.cell (p := ⟨P_w1, 0, none⟩) (by first | (dsimp only; omega) | (simp only [World.size_alloc]; omega))).trans (by first | exact t3_0 | exact (World.cell?_alloc_lt _ _ _ (by go_size)).trans t3_0 | (rw [World.cell?_alloc_new]; done) | (rw [World.cell?_alloc_new]; rfl))
  replace t3_1 : w4.cell? ⟨P_w1, 1, none⟩ = some (.int .i64 (spY2 z y xs u a)) := (hM4.out.be.cell (p := ⟨P_w1, 1, none⟩) (by first | (dsimp only; omega) | (simp only [World.size_alloc]; omega))).trans (by first | exact t3_1 | exact (World.cell?_alloc_lt _ _ _ (by go_size)).trans t3_1 | (rw [World.cell?_alloc_new]; done) | (rw [World.cell?_alloc_new]; rfl))
  replace t3_2 : w4.cell? ⟨P_w1, 2, none⟩ = some (.slice A_w1 n_w1 c_w1) := (hM4.out.be.cell (p := ⟨P_w1, 2, none⟩) (by first | (dsimp only; omega) | (simp only [World.size_alloc]; omega))).trans (by first | exact t3_2 | exact (World.cell?_alloc_lt _ _ _ (by go_size)).trans t3_2 | (rw [World.cell?_alloc_new]; done) | (rw [World.cell?_alloc_new]; rfl))
  have t4_0 : w4.cell? ⟨w3.heap.size, 0, none⟩ = some (.int .i64 z) := (hM4.out.be.cell (p := ⟨w3.heap.size, 0, none⟩) (by first | (dsimp only; omega) | (simp only [World.size_alloc]; omega))).trans (by first | (rw [World.cell?_alloc_new]; done) | (rw [World.cell?_alloc_new]; rfl))
  have t4_1 : w4.cell? ⟨w3.heap.size, 1, none⟩ = some (.int .i64 y) := (hM4.out.be.cell (p := ⟨w3.heap.size, 1, none⟩) (by first | (dsimp only; omega) | (simp only [World.size_alloc]; omega))).trans (by first | (rw [World.cell?_alloc_new]; done) | (rw [World.cell?_alloc_new]; rfl))
  have t4_2 : w4.cell? ⟨w3.heap.size, 2, none⟩ = some (.slice (some ⟨g_x0, 0, none⟩) n n) := (hM4.out.be.cell (p := ⟨w3.heap.size, 2, none⟩) (by first | (dsimp only; omega) | (simp only [World.size_alloc]; omega))).trans (by first | (rw [World.cell?_alloc_new]; done) | (rw [World.cell?_alloc_new]; rfl))
  replace f_w0 := f_w0.next HB4
  replace f_w1 := f_w1.next HB4
  replace f_x0 := f_x0.next HB4
  replace a_x := a_x.below (HB4.mono (by omega))
  replace HW := HW.trans (HB4.mono (by omega))
  have t5_0 := (hM4.out.full1 rfl rfl).c0
  have t5_1 := (hM4.out.full1 rfl rfl).c1
  have t5_2 := (hM4.out.full1 rfl rfl).c2
  have t6_0 := (hM4.out.full2 rfl rfl).c0
  have t6_1 := (hM4.out.full2 rfl rfl).c1
  have t6_2 := (hM4.out.full2 rfl rfl).c2
  clear hM4 HB4
  go_wp2_with fail
  refine (laws_eqLayout_self _ _ _ _ _ _ _ _ _ _ ((f_g0.rd Pt.len).below' (by go_grown) (by go_size)) ((f_w0.rd Pt.len).below' (by go_grown) (by go_size))).mono ?_
  rintro e w5 ⟨rfl, hb5⟩
  have hy5 := bsize hb5
  try simp at hy5
  have HB5 : Below w4.heap.size w4 w5 := by (repeat' (first | (with_reducible exact Below.refl _ _) | (with_reducible refine Below.setCell ?_ ?_ _) | (with_reducible refine Below.alloc ?_ ?_ _) | (with_reducible refine Below.drew ?_) | (with_reducible refine Below.drewN ?_ _) | (with_reducible refine Below.trans ?_ (Below.mono (by with_reducible assumption) ?_)) | go_size | (dsimp only; omega)))
  have hx5 := HB5.size
  obtain ⟨bc5, bf5, bz5⟩ := bcell hb5 (b := w.heap.size) (by go_size)
  replace t0_0 : w5.cell? ⟨w.heap.size, 0, none⟩ = some (.int .i64 z) := (bc5 0).trans (by first | exact t0_0 | exact (World.cell?_alloc_lt _ _ _ (by go_size)).trans t0_0)
  replace t0_1 : w5.cell? ⟨w.heap.size, 1, none⟩ = some (.int .i64 y) := (bc5 1).trans (by first | exact t0_1 | exact (World.cell?_alloc_lt _ _ _ (by go_size)).trans t0_1)
  replace t0_2 : w5.cell? ⟨w.heap.size, 2, none⟩ = some (.slice A n c) := (bc5 2).trans (by first | exact t0_2 | exact (World.cell?_alloc_lt _ _ _ (by go_size)).trans t0_2)
  clear bc5 bf5
  obtain ⟨bc5, bf5, bz5⟩ := bcell hb5 (b := w.heap.size + 1) (by go_size)
  replace t1_0 : w5.cell? ⟨w.heap.size + 1, 0, none⟩ = some (.bool u) := (bc5 0).trans (by first | exact t1_0 | exact (World.cell?_alloc_lt _ _ _ (by go_size)).trans t1_0)
  replace t1_1 : w5.cell? ⟨w.heap.size + 1, 1, none⟩ = some (.int .i64 a) := (bc5 1).trans (by first | exact t1_1 | exact (World.cell?_alloc_lt _ _ _ (by go_size)).trans t1_1)
  clear bc5 bf5
  obtain ⟨bc5, bf5, bz5⟩ := bcell hb5 (b := P_w0) (by go_size)
  replace t2_0 : w5.cell? ⟨P_w0, 0, none⟩ = some (.int .i64 (spZ1 z y xs u a)) := (bc5 0).trans (by first | exact t2_0 | exact (World.cell?_alloc_lt _ _ _ (by go_size)).trans t2_0)
  replace t2_1 : w5.cell? ⟨P_w0, 1, none⟩ = some (.int .i64 (spY1 z y xs u a)) := (bc5 1).trans (by first | exact t2_1 | exact (World.cell?_alloc_lt _ _ _ (by go_size)).trans t2_1)
  replace t2_2 : w5.cell? ⟨P_w0, 2, none⟩ = some (.slice A_w0 n_w0 c_w0) := (bc5 2).trans (by first | exact t2_2 | exact (World.cell?_alloc_lt _ _ _ (by go_size)).trans t2_2)
  clear bc5 bf5
  obtain ⟨bc5, bf5, bz5⟩ := bcell hb5 (b := P_w1) (by go_size)
  replace t3_0 : w5.cell? ⟨P_w1, 0, none⟩ = some (.int .i64 (spZ2 z y xs u a)) := (bc5 0).trans (by first | exact t3_0 | exact (World.cell?_alloc_lt _ _ _ (by go_size)).trans t3_0)
  replace t3_1 : w5.cell? ⟨P_w1, 1, none⟩ = some (.int .i64 (spY2 z y xs u a)) := (bc5 1).trans (by first | exact t3_1 | exact (World.cell?_alloc_lt _ _ _ (by go_size)).trans t3_1)
  replace t3_2 : w5.cell? ⟨P_w1, 2, none⟩ = some (.slice A_w1 n_w1 c_w1) := (bc5 2).trans (by first | exact t3_2 | exact (World.cell?_alloc_lt _ _ _ (by go_size)).trans t3_2)
  clear bc5 bf5
  obtain ⟨bc5, bf5, bz5⟩ := bcell hb5 (b := w3.heap.size) (by go_size)
  replace t4_0 : w5.cell? ⟨w3.heap.size, 0, none⟩ = some (.int .i64 z) := (bc5 0).trans (by first | exact t4_0 | exact (World.cell?_alloc_lt _ _ _ (by go_size)).trans t4_0)
  replace t4_1 : w5.cell? ⟨w3.heap.size, 1, none⟩ = some (.int .i64 y) := (bc5 1).trans (by first | exact t4_1 | exact (World.cell?_alloc_lt _ _ _ (by go_size)).trans t4_1)
  replace t4_2 : w5.cell? ⟨w3.heap.size, 2, none⟩ = some (.slice (some ⟨g_x0, 0, none⟩) n n) := (bc5 2).trans (by first | exact t4_2 | exact (World.cell?_alloc_lt _ _ _ (by go_size)).trans t4_2)
  clear bc5 bf5
  obtain ⟨bc5, bf5, bz5⟩ := bcell hb5 (b := P_g0) (by go_size)
  replace t5_0 : w5.cell? ⟨P_g0, 0, none⟩ = some (.int .i64 (spZ1 z y xs u a)) := (bc5 0).trans (by first | exact t5_0 | exact (World.cell?_alloc_lt _ _ _ (by go_size)).trans t5_0)
  replace t5_1 : w5.cell? ⟨P_g0, 1, none⟩ = some (.int .i64 (spY1 z y xs u a)) := (bc5 1).trans (by first | exact t5_1 | exact (World.cell?_alloc_lt _ _ _ (by go_size)).trans t5_1)
  replace t5_2 : w5.cell? ⟨P_g0, 2, none⟩ = some (.slice A_g0 n_g0 c_g0) := (bc5 2).trans (by first | exact t5_2 | exact (World.cell?_alloc_lt _ _ _ (by go_size)).trans t5_2)
  clear bc5 bf5
  obtain ⟨bc5, bf5, bz5⟩ := bcell hb5 (b := P_g1) (by go_size)
  replace t6_0 : w5.cell? ⟨P_g1, 0, none⟩ = some (.int .i64 (spZ2 z y xs u a)) := (bc5 0).trans (by first | exact t6_0 | exact (World.cell?_alloc_lt _ _ _ (by go_size)).trans t6_0)
  replace t6_1 : w5.cell? ⟨P_g1, 1, none⟩ = some (.int .i64 (spY2 z y xs u a)) := (bc5 1).trans (by first | exact t6_1 | exact (World.cell?_alloc_lt _ _ _ (by go_size)).trans t6_1)
  replace t6_2 : w5.cell? ⟨P_g1, 2, none⟩ = some (.slice A_g1 n_g1 c_g1) := (bc5 2).trans (by first | exact t6_2 | exact (World.cell?_alloc_lt _ _ _ (by go_size)).trans t6_2)
  clear bc5 bf5
  replace f_w0 := f_w0.next HB5
  replace f_w1 := f_w1.next HB5
  replace f_x0 := f_x0.next HB5
  replace f_g0 := f_g0.next HB5
  replace f_g1 := f_g1.next HB5
  replace a_x := a_x.below (HB5.mono (by omega))
  replace HW := HW.trans (HB5.mono (by omega))
  clear hb5 HB5
  go_wp2_with fail
  refine (laws_eqLayout_self _ _ _ _ _ _ _ _ _ _ ((f_g1.rd Pt.len).below' (by go_grown) (by go_size)) ((f_w1.rd Pt.len).below' (by go_grown) (by go_size))).mono ?_
  rintro e w6 ⟨rfl, hb6⟩
  have hy6 := bsize hb6
  try simp at hy6
  have HB6 : Below w5.heap.size w5 w6 := by (repeat' (first | (with_reducible exact Below.refl _ _) | (with_reducible refine Below.setCell ?_ ?_ _) | (with_reducible refine Below.alloc ?_ ?_ _) | (with_reducible refine Below.drew ?_) | (with_reducible refine Below.drewN ?_ _) | (with_reducible refine Below.trans ?_ (Below.mono (by with_reducible assumption) ?_)) | go_size | (dsimp only; omega)))
  have hx6 := HB6.size
  obtain ⟨bc6, bf6, bz6⟩ := bcell hb6 (b := w.heap.size) (by go_size)
  replace t0_0 : w6.cell? ⟨w.heap.size, 0, none⟩ = some (.int .i64 z) := (bc6 0).trans (by first | exact t0_0 | exact (World.cell?_alloc_lt _ _ _ (by go_size)).trans t0_0)
  replace t0_1 : w6.cell? ⟨w.heap.size, 1, none⟩ = some (.int .i64 y) := (bc6 1).trans (by first | exact t0_1 | exact (World.cell?_alloc_lt _ _ _ (by go_size)).trans t0_1)
  replace t0_2 : w6.cell? ⟨w.heap.size, 2, none⟩ = some (.slice A n c) := (bc6 2).trans (by first | exact t0_2 | exact (World.cell?_alloc_lt _ _ _ (by go_size)).trans t0_2)
  clear bc6 bf6
  obtain ⟨bc6, bf6, bz6⟩ := bcell hb6 (b := w.heap.size + 1) (by go_size)
  replace t1_0 : w6.cell? ⟨w.heap.size + 1, 0, none⟩ = some (.bool u) := (bc6 0).trans (by first | exact t1_0 | exact (World.cell?_alloc_lt _ _ _ (by go_size)).trans t1_0)
  replace t1_1 : w6.cell? ⟨w.heap.size + 1, 1, none⟩ = some (.int .i64 a) := (bc6 1).trans (by first | exact t1_1 | exact (World.cell?_alloc_lt _ _ _ (by go_size)).trans t1_1)
  clear bc6 bf6
  obtain ⟨bc6, bf6, bz6⟩ := bcell hb6 (b := P_w0) (by go_size)
  replace t2_0 : w6.cell? ⟨P_w0, 0, none⟩ = some (.int .i64 (spZ1 z y xs u a)) := (bc6 0).trans (by first | exact t2_0 | exact (World.cell?_alloc_lt _ _ _ (by go_size)).trans t2_0)
  replace t2_1 : w6.cell? ⟨P_w0, 1, none⟩ = some (.int .i64 (spY1 z y xs u a)) := (bc6 1).trans (by first | exact t2_1 | exact (World.cell?_alloc_lt _ _ _ (by go_size)).trans t2_1)
  replace t2_2 : w6.cell? ⟨P_w0, 2, none⟩ = some (.slice A_w0 n_w0 c_w0) := (bc6 2).trans (by first | exact t2_2 | exact (World.cell?_alloc_lt _ _ _ (by go_size)).trans t2_2)
  clear bc6 bf6
  obtain ⟨bc6, bf6, bz6⟩ := bcell hb6 (b := P_w1) (by go_size)
  replace t3_0 : w6.cell? ⟨P_w1, 0, none⟩ = some (.int .i64 (spZ2 z y xs u a)) := (bc6 0).trans (by first | exact t3_0 | exact (World.cell?_alloc_lt _ _ _ (by go_size)).trans t3_0)
  replace t3_1 : w6.cell? ⟨P_w1, 1, none⟩ = some (.int .i64 (spY2 z y xs u a)) := (bc6 1).trans (by first | exact t3_1 | exact (World.cell?_alloc_lt _ _ _ (by go_size)).trans t3_1)
  replace t3_2 : w6.cell? ⟨P_w1, 2, none⟩ = some (.slice A_w1 n_w1 c_w1) := (bc6 2).trans (by first | exact t3_2 | exact (World.cell?_alloc_lt _ _ _ (by go_size)).trans t3_2)
  clear bc6 bf6
  obtain ⟨bc6, bf6, bz6⟩ := bcell hb6 (b := w3.heap.size) (by go_size)
  replace t4_0 : w6.cell? ⟨w3.heap.size, 0, none⟩ = some (.int .i64 z) := (bc6 0).trans (by first | exact t4_0 | exact (World.cell?_alloc_lt _ _ _ (by go_size)).trans t4_0)
  replace t4_1 : w6.cell? ⟨w3.heap.size, 1, none⟩ = some (.int .i64 y) := (bc6 1).trans (by first | exact t4_1 | exact (World.cell?_alloc_lt _ _ _ (by go_size)).trans t4_1)
  replace t4_2 : w6.cell? ⟨w3.heap.size, 2, none⟩ = some (.slice (some ⟨g_x0, 0, none⟩) n n) := (bc6 2).trans (by first | exact t4_2 | exact (World.cell?_alloc_lt _ _ _ (by go_size)).trans t4_2)
  clear bc6 bf6
  obtain ⟨bc6, bf6, bz6⟩ := bcell hb6 (b := P_g0) (by go_size)
  replace t5_0 : w6.cell? ⟨P_g0, 0, none⟩ = some (.int .i64 (spZ1 z y xs u a)) := (bc6 0).trans (by first | exact t5_0 | exact (World.cell?_alloc_lt _ _ _ (by go_size)).trans t5_0)
  replace t5_1 : w6.cell? ⟨P_g0, 1, none⟩ = some (.int .i64 (spY1 z y xs u a)) := (bc6 1).trans (by first | exact t5_1 | exact (World.cell?_alloc_lt _ _ _ (by go_size)).trans t5_1)
  replace t5_2 : w6.cell? ⟨P_g0, 2, none⟩ = some (.slice A_g0 n_g0 c_g0) := (bc6 2).trans (by first | exact t5_2 | exact (World.cell?_alloc_lt _ _ _ (by go_size)).trans t5_2)
  clear bc6 bf6
  obtain ⟨bc6, bf6, bz6⟩ := bcell hb6 (b := P_g1) (by go_size)
  replace t6_0 : w6.cell? ⟨P_g1, 0, none⟩ = some (.int .i64 (spZ2 z y xs u a)) := (bc6 0).trans (by first | exact t6_0 | exact (World.cell?_alloc_lt _ _ _ (by go_size)).trans t6_0)
  replace t6_1 : w6.cell? ⟨P_g1, 1, none⟩ = some (.int .i64 (spY2 z y xs u a)) := (bc6 1).trans (by first | exact t6_1 | exact (World.cell?_alloc_lt _ _ _ (by go_size)).trans t6_1)
  replace t6_2 : w6.cell? ⟨P_g1, 2, none⟩ = some (.slice A_g1 n_g1 c_g1) := (bc6 2).trans (by first | exact t6_2 | exact (World.cell?_alloc_lt _ _ _ (by go_size)).trans t6_2)
  clear bc6 bf6
  replace f_w0 := f_w0.next HB6
  replace f_w1 := f_w1.next HB6
  replace f_x0 := f_x0.next HB6
  replace f_g0 := f_g0.next HB6
  replace f_g1 := f_g1.next HB6
  replace a_x := a_x.below (HB6.mono (by omega))
  replace HW := HW.trans (HB6.mono (by omega))
  clear hb6 HB6
  go_wp2_with fail
  go_region_held3 (fun w' => w'.cell? ⟨w3.heap.size, 0, none⟩ = some (.int .i64 z) ∧ w'.cell? ⟨w3.heap.size, 1, none⟩ = some (.int .i64 y) ∧ w'.cell? ⟨w3.heap.size, 2, none⟩ = some (.slice (some ⟨g_x0, 0, none⟩) n n) ∧ w'.cell? ⟨w.heap.size, 0, none⟩ = some (.int .i64 z) ∧ w'.cell? ⟨w.heap.size, 1, none⟩ = some (.int .i64 y) ∧ w'.cell? ⟨w.heap.size, 2, none⟩ = some (.slice A n c)) (go_keep) (first
    | (go_at_call 49; (with_reducible refine (laws_toLayout z y A n c xs _ ?_).mono ?_); exact (a_x.below' (by (repeat' (first | (with_reducible exact Below.refl _ _) | (with_reducible refine Below.setCell ?_ ?_ _) | (with_reducible refine Below.alloc ?_ ?_ _) | (with_reducible refine Below.drew ?_) | (with_reducible refine Below.drewN ?_ _) | (with_reducible refine Below.trans ?_ (Below.mono (by with_reducible assumption) ?_)) | go_size | (dsimp only; omega)))) (by go_size)); rintro e w7 ⟨g_q, rfl, f_q, hb7⟩; have hy7 := bsize hb7; (try simp at hy7); obtain ⟨bc7_0, bf7_0, bz7_0⟩ := bcell hb7 (b := w3.heap.size) (by go_size); obtain ⟨bc7_1, bf7_1, bz7_1⟩ := bcell hb7 (b := w.heap.size) (by go_size); have l_q := Lib.hid f_q.lt)
    | (go_at_call 52; (with_reducible refine (laws_eqLayout_self _ _ _ _ _ _ _ _ xs _ ?_ ?_).mono ?_); exact ((f_x0.rd Pt.len).below' (by (repeat' (first | (with_reducible exact Below.refl _ _) | (with_reducible refine Below.setCell ?_ ?_ _) | (with_reducible refine Below.alloc ?_ ?_ _) | (with_reducible refine Below.drew ?_) | (with_reducible refine Below.drewN ?_ _) | (with_reducible refine Below.trans ?_ (Below.mono (by with_reducible assumption) ?_)) | go_size | (dsimp only; omega)))) (by go_size)); exact ((f_q.rd Pt.len).below' (by (repeat' (first | (with_reducible exact Below.refl _ _) | (with_reducible refine Below.setCell ?_ ?_ _) | (with_reducible refine Below.alloc ?_ ?_ _) | (with_reducible refine Below.drew ?_) | (with_reducible refine Below.drewN ?_ _) | (with_reducible refine Below.trans ?_ (Below.mono (by with_reducible assumption) ?_)) | go_size | (dsimp only; omega)))) (by go_size)); rintro e w8 ⟨rfl, hb8⟩; have hy8 := bsize hb8; (try simp at hy8); obtain ⟨bc8_0, bf8_0, bz8_0⟩ := bcell hb8 (b := w3.heap.size) (by go_size); obtain ⟨bc8_1, bf8_1, bz8_1⟩ := bcell hb8 (b := w.heap.size) (by go_size)))
  have HB8 : Below w6.heap.size w6 w8 := by (repeat' (first | (with_reducible exact Below.refl _ _) | (with_reducible refine Below.setCell ?_ ?_ _) | (with_reducible refine Below.alloc ?_ ?_ _) | (with_reducible refine Below.drew ?_) | (with_reducible refine Below.drewN ?_ _) | (with_reducible refine Below.trans ?_ (Below.mono (by with_reducible assumption) ?_)) | go_size | (dsimp only; omega)))
  have hx8 := HB8.size
  replace t0_0 : w8.cell? ⟨w.heap.size, 0, none⟩ = some (.int .i64 z) := (HB8.cell (p := ⟨w.heap.size, 0, none⟩) (by dsimp only; omega)).trans t0_0
  replace t0_1 : w8.cell? ⟨w.heap.size, 1, none⟩ = some (.int .i64 y) := (HB8.cell (p := ⟨w.heap.size, 1, none⟩) (by dsimp only; omega)).trans t0_1
  replace t0_2 : w8.cell? ⟨w.heap.size, 2, none⟩ = some (.slice A n c) := (HB8.cell (p := ⟨w.heap.size, 2, none⟩) (by dsimp only; omega)).trans t0_2
  replace t1_0 : w8.cell? ⟨w.heap.size + 1, 0, none⟩ = some (.bool u) := (HB8.cell (p := ⟨w.heap.size + 1, 0, none⟩) (by dsimp only; omega)).trans t1_0
  replace t1_1 : w8.cell? ⟨w.heap.size + 1, 1, none⟩ = some (.int .i64 a) := (HB8.cell (p := ⟨w.heap.size + 1, 1, none⟩) (by dsimp only; omega)).trans t1_1
  replace t2_0 : w8.cell? ⟨P_w0, 0, none⟩ = some (.int .i64 (spZ1 z y xs u a)) := (HB8.cell (p := ⟨P_w0, 0, none⟩) (by dsimp only; omega)).trans t2_0
  replace t2_1 : w8.cell? ⟨P_w0, 1, none⟩ = some (.int .i64 (spY1 z y xs u a)) := (HB8.cell (p := ⟨P_w0, 1, none⟩) (by dsimp only; omega)).trans t2_1
  replace t2_2 : w8.cell? ⟨P_w0, 2, none⟩ = some (.slice A_w0 n_w0 c_w0) := (HB8.cell (p := ⟨P_w0, 2, none⟩) (by dsimp only; omega)).trans t2_2
  replace t3_0 : w8.cell? ⟨P_w1, 0, none⟩ = some (.int .i64 (spZ2 z y xs u a)) := (HB8.cell (p := ⟨P_w1, 0, none⟩) (by dsimp only; omega)).trans t3_0
  replace t3_1 : w8.cell? ⟨P_w1, 1, none⟩ = some (.int .i64 (spY2 z y xs u a)) := (HB8.cell (p := ⟨P_w1, 1, none⟩) (by dsimp only; omega)).trans t3_1
  replace t3_2 : w8.cell? ⟨P_w1, 2, none⟩ = some (.slice A_w1 n_w1 c_w1) := (HB8.cell (p := ⟨P_w1, 2, none⟩) (by dsimp only; omega)).trans t3_2
  replace t4_0 : w8.cell? ⟨w3.heap.size, 0, none⟩ = some (.int .i64 z) := (HB8.cell (p := ⟨w3.heap.size, 0, none⟩) (by dsimp only; omega)).trans t4_0
  replace t4_1 : w8.cell? ⟨w3.heap.size, 1, none⟩ = some (.int .i64 y) := (HB8.cell (p := ⟨w3.heap.size, 1, none⟩) (by dsimp only; omega)).trans t4_1
  replace t4_2 : w8.cell? ⟨w3.heap.size, 2, none⟩ = some (.slice (some ⟨g_x0, 0, none⟩) n n) := (HB8.cell (p := ⟨w3.heap.size, 2, none⟩) (by dsimp only; omega)).trans t4_2
  replace t5_0 : w8.cell? ⟨P_g0, 0, none⟩ = some (.int .i64 (spZ1 z y xs u a)) := (HB8.cell (p := ⟨P_g0, 0, none⟩) (by dsimp only; omega)).trans t5_0
  replace t5_1 : w8.cell? ⟨P_g0, 1, none⟩ = some (.int .i64 (spY1 z y xs u a)) := (HB8.cell (p := ⟨P_g0, 1, none⟩) (by dsimp only; omega)).trans t5_1
  replace t5_2 : w8.cell? ⟨P_g0, 2, none⟩ = some (.slice A_g0 n_g0 c_g0) := (HB8.cell (p := ⟨P_g0, 2, none⟩) (by dsimp only; omega)).trans t5_2
  replace t6_0 : w8.cell? ⟨P_g1, 0, none⟩ = some (.int .i64 (spZ2 z y xs u a)) := (HB8.cell (p := ⟨P_g1, 0, none⟩) (by dsimp only; omega)).trans t6_0
  replace t6_1 : w8.cell? ⟨P_g1, 1, none⟩ = some (.int .i64 (spY2 z y xs u a)) := (HB8.cell (p := ⟨P_g1, 1, none⟩) (by dsimp only; omega)).trans t6_1
  replace t6_2 : w8.cell? ⟨P_g1, 2, none⟩ = some (.slice A_g1 n_g1 c_g1) := (HB8.cell (p := ⟨P_g1, 2, none⟩) (by dsimp only; omega)).trans t6_2
  replace f_w0 := f_w0.next HB8
  replace f_w1 := f_w1.next HB8
  replace f_x0 := f_x0.next HB8
  replace f_g0 := f_g0.next HB8
  replace f_g1 := f_g1.next HB8
  replace a_x := a_x.below (HB8.mono (by omega))
  replace HW := HW.trans (HB8.mono (by omega))
  clear HB8
  clear hb7 hb8 bc7_0 bf7_0 bc7_1 bf7_1 bc8_0 bf8_0 bc8_1 bf8_1
  go_wp2_with fail
  refine (laws_markLayout _ _ _ _ _ _ _ _ (f_x0.next (by go_grown)) (by go_size)).mono ?_
  rintro e w9 ⟨rfl, g_f, hg9⟩
  have hy9 := hg9.size
  try simp at hy9
  have HG9 : w8.grownBy w9 _ := grown_tr (grown_of_below (by go_grown) _) hg9
  have hx9 := HG9.size
  obtain ⟨bc9, bf9, bz9⟩ := bcellG hg9 (b := w.heap.size) (by go_size) (fun e2 => by have h2 := l_x0.out _ e2; omega)
  replace t0_0 : w9.cell? ⟨w.heap.size, 0, none⟩ = some (.int .i64 z) := (bc9 0).trans (by first | exact t0_0 | exact (World.cell?_alloc_lt _ _ _ (by go_size)).trans t0_0)
  replace t0_1 : w9.cell? ⟨w.heap.size, 1, none⟩ = some (.int .i64 y) := (bc9 1).trans (by first | exact t0_1 | exact (World.cell?_alloc_lt _ _ _ (by go_size)).trans t0_1)
  replace t0_2 : w9.cell? ⟨w.heap.size, 2, none⟩ = some (.slice A n c) := (bc9 2).trans (by first | exact t0_2 | exact (World.cell?_alloc_lt _ _ _ (by go_size)).trans t0_2)
  clear bc9 bf9
  obtain ⟨bc9, bf9, bz9⟩ := bcellG hg9 (b := w.heap.size + 1) (by go_size) (fun e2 => by have h2 := l_x0.out _ e2; omega)
  replace t1_0 : w9.cell? ⟨w.heap.size + 1, 0, none⟩ = some (.bool u) := (bc9 0).trans (by first | exact t1_0 | exact (World.cell?_alloc_lt _ _ _ (by go_size)).trans t1_0)
  replace t1_1 : w9.cell? ⟨w.heap.size + 1, 1, none⟩ = some (.int .i64 a) := (bc9 1).trans (by first | exact t1_1 | exact (World.cell?_alloc_lt _ _ _ (by go_size)).trans t1_1)
  clear bc9 bf9
  obtain ⟨bc9, bf9, bz9⟩ := bcellG hg9 (b := P_w0) (by go_size) (fun e2 => by have h2 := l_x0.out _ e2; omega)
  replace t2_0 : w9.cell? ⟨P_w0, 0, none⟩ = some (.int .i64 (spZ1 z y xs u a)) := (bc9 0).trans (by first | exact t2_0 | exact (World.cell?_alloc_lt _ _ _ (by go_size)).trans t2_0)
  replace t2_1 : w9.cell? ⟨P_w0, 1, none⟩ = some (.int .i64 (spY1 z y xs u a)) := (bc9 1).trans (by first | exact t2_1 | exact (World.cell?_alloc_lt _ _ _ (by go_size)).trans t2_1)
  replace t2_2 : w9.cell? ⟨P_w0, 2, none⟩ = some (.slice A_w0 n_w0 c_w0) := (bc9 2).trans (by first | exact t2_2 | exact (World.cell?_alloc_lt _ _ _ (by go_size)).trans t2_2)
  clear bc9 bf9
  obtain ⟨bc9, bf9, bz9⟩ := bcellG hg9 (b := P_w1) (by go_size) (fun e2 => by have h2 := l_x0.out _ e2; omega)
  replace t3_0 : w9.cell? ⟨P_w1, 0, none⟩ = some (.int .i64 (spZ2 z y xs u a)) := (bc9 0).trans (by first | exact t3_0 | exact (World.cell?_alloc_lt _ _ _ (by go_size)).trans t3_0)
  replace t3_1 : w9.cell? ⟨P_w1, 1, none⟩ = some (.int .i64 (spY2 z y xs u a)) := (bc9 1).trans (by first | exact t3_1 | exact (World.cell?_alloc_lt _ _ _ (by go_size)).trans t3_1)
  replace t3_2 : w9.cell? ⟨P_w1, 2, none⟩ = some (.slice A_w1 n_w1 c_w1) := (bc9 2).trans (by first | exact t3_2 | exact (World.cell?_alloc_lt _ _ _ (by go_size)).trans t3_2)
  clear bc9 bf9
  obtain ⟨bc9, bf9, bz9⟩ := bcellG hg9 (b := w3.heap.size) (by go_size) (fun e2 => by have h2 := l_x0.out _ e2; omega)
  replace t4_0 : w9.cell? ⟨w3.heap.size, 0, none⟩ = some (.int .i64 z) := (bc9 0).trans (by first | exact t4_0 | exact (World.cell?_alloc_lt _ _ _ (by go_size)).trans t4_0)
  replace t4_1 : w9.cell? ⟨w3.heap.size, 1, none⟩ = some (.int .i64 y) := (bc9 1).trans (by first | exact t4_1 | exact (World.cell?_alloc_lt _ _ _ (by go_size)).trans t4_1)
  replace t4_2 : w9.cell? ⟨w3.heap.size, 2, none⟩ = some (.slice (some ⟨g_x0, 0, none⟩) n n) := (bc9 2).trans (by first | exact t4_2 | exact (World.cell?_alloc_lt _ _ _ (by go_size)).trans t4_2)
  clear bc9 bf9
  obtain ⟨bc9, bf9, bz9⟩ := bcellG hg9 (b := P_g0) (by go_size) (fun e2 => by have h2 := l_x0.out _ e2; omega)
  replace t5_0 : w9.cell? ⟨P_g0, 0, none⟩ = some (.int .i64 (spZ1 z y xs u a)) := (bc9 0).trans (by first | exact t5_0 | exact (World.cell?_alloc_lt _ _ _ (by go_size)).trans t5_0)
  replace t5_1 : w9.cell? ⟨P_g0, 1, none⟩ = some (.int .i64 (spY1 z y xs u a)) := (bc9 1).trans (by first | exact t5_1 | exact (World.cell?_alloc_lt _ _ _ (by go_size)).trans t5_1)
  replace t5_2 : w9.cell? ⟨P_g0, 2, none⟩ = some (.slice A_g0 n_g0 c_g0) := (bc9 2).trans (by first | exact t5_2 | exact (World.cell?_alloc_lt _ _ _ (by go_size)).trans t5_2)
  clear bc9 bf9
  obtain ⟨bc9, bf9, bz9⟩ := bcellG hg9 (b := P_g1) (by go_size) (fun e2 => by have h2 := l_x0.out _ e2; omega)
  replace t6_0 : w9.cell? ⟨P_g1, 0, none⟩ = some (.int .i64 (spZ2 z y xs u a)) := (bc9 0).trans (by first | exact t6_0 | exact (World.cell?_alloc_lt _ _ _ (by go_size)).trans t6_0)
  replace t6_1 : w9.cell? ⟨P_g1, 1, none⟩ = some (.int .i64 (spY2 z y xs u a)) := (bc9 1).trans (by first | exact t6_1 | exact (World.cell?_alloc_lt _ _ _ (by go_size)).trans t6_1)
  replace t6_2 : w9.cell? ⟨P_g1, 2, none⟩ = some (.slice A_g1 n_g1 c_g1) := (bc9 2).trans (by first | exact t6_2 | exact (World.cell?_alloc_lt _ _ _ (by go_size)).trans t6_2)
  clear bc9 bf9
  replace f_w0 := f_w0.keep HG9 (fun k1 e1 e2 => by have h1 := l_w0.out k1 e1; have h2 := l_x0.out k1 e2; omega)
  replace f_w1 := f_w1.keep HG9 (fun k1 e1 e2 => by have h1 := l_w1.out k1 e1; have h2 := l_x0.out k1 e2; omega)
  replace f_g0 := f_g0.keep HG9 (fun k1 e1 e2 => by have h1 := l_g0.out k1 e1; have h2 := l_x0.out k1 e2; omega)
  replace f_g1 := f_g1.keep HG9 (fun k1 e1 e2 => by have h1 := l_g1.out k1 e1; have h2 := l_x0.out k1 e2; omega)
  replace a_x := a_x.grown HG9 (by omega) (fun k1 e1 => by have h1 := l_x0.out k1 e1; omega)
  replace HW := HW.grown HG9 (by omega) (fun k1 e1 => by have h1 := l_x0.out k1 e1; omega)
  clear f_x0 hg9 HG9
  have f_x0 := g_f
  clear g_f
  go_wp2_with fail
  refine (laws_eqLayout_self _ _ _ _ _ _ _ _ _ _ ((f_g0.rd Pt.len).below' (by go_grown) (by go_size)) ((f_w0.rd Pt.len).below' (by go_grown) (by go_size))).mono ?_
  rintro e w10 ⟨rfl, hb10⟩
  have hy10 := bsize hb10
  try simp at hy10
  have HB10 : Below w9.heap.size w9 w10 := by (repeat' (first | (with_reducible exact Below.refl _ _) | (with_reducible refine Below.setCell ?_ ?_ _) | (with_reducible refine Below.alloc ?_ ?_ _) | (with_reducible refine Below.drew ?_) | (with_reducible refine Below.drewN ?_ _) | (with_reducible refine Below.trans ?_ (Below.mono (by with_reducible assumption) ?_)) | go_size | (dsimp only; omega)))
  have hx10 := HB10.size
  obtain ⟨bc10, bf10, bz10⟩ := bcell hb10 (b := w.heap.size) (by go_size)
  replace t0_0 : w10.cell? ⟨w.heap.size, 0, none⟩ = some (.int .i64 z) := (bc10 0).trans (by first | exact t0_0 | exact (World.cell?_alloc_lt _ _ _ (by go_size)).trans t0_0)
  replace t0_1 : w10.cell? ⟨w.heap.size, 1, none⟩ = some (.int .i64 y) := (bc10 1).trans (by first | exact t0_1 | exact (World.cell?_alloc_lt _ _ _ (by go_size)).trans t0_1)
  replace t0_2 : w10.cell? ⟨w.heap.size, 2, none⟩ = some (.slice A n c) := (bc10 2).trans (by first | exact t0_2 | exact (World.cell?_alloc_lt _ _ _ (by go_size)).trans t0_2)
  clear bc10 bf10
  obtain ⟨bc10, bf10, bz10⟩ := bcell hb10 (b := w.heap.size + 1) (by go_size)
  replace t1_0 : w10.cell? ⟨w.heap.size + 1, 0, none⟩ = some (.bool u) := (bc10 0).trans (by first | exact t1_0 | exact (World.cell?_alloc_lt _ _ _ (by go_size)).trans t1_0)
  replace t1_1 : w10.cell? ⟨w.heap.size + 1, 1, none⟩ = some (.int .i64 a) := (bc10 1).trans (by first | exact t1_1 | exact (World.cell?_alloc_lt _ _ _ (by go_size)).trans t1_1)
  clear bc10 bf10
  obtain ⟨bc10, bf10, bz10⟩ := bcell hb10 (b := P_w0) (by go_size)
  replace t2_0 : w10.cell? ⟨P_w0, 0, none⟩ = some (.int .i64 (spZ1 z y xs u a)) := (bc10 0).trans (by first | exact t2_0 | exact (World.cell?_alloc_lt _ _ _ (by go_size)).trans t2_0)
  replace t2_1 : w10.cell? ⟨P_w0, 1, none⟩ = some (.int .i64 (spY1 z y xs u a)) := (bc10 1).trans (by first | exact t2_1 | exact (World.cell?_alloc_lt _ _ _ (by go_size)).trans t2_1)
  replace t2_2 : w10.cell? ⟨P_w0, 2, none⟩ = some (.slice A_w0 n_w0 c_w0) := (bc10 2).trans (by first | exact t2_2 | exact (World.cell?_alloc_lt _ _ _ (by go_size)).trans t2_2)
  clear bc10 bf10
  obtain ⟨bc10, bf10, bz10⟩ := bcell hb10 (b := P_w1) (by go_size)
  replace t3_0 : w10.cell? ⟨P_w1, 0, none⟩ = some (.int .i64 (spZ2 z y xs u a)) := (bc10 0).trans (by first | exact t3_0 | exact (World.cell?_alloc_lt _ _ _ (by go_size)).trans t3_0)
  replace t3_1 : w10.cell? ⟨P_w1, 1, none⟩ = some (.int .i64 (spY2 z y xs u a)) := (bc10 1).trans (by first | exact t3_1 | exact (World.cell?_alloc_lt _ _ _ (by go_size)).trans t3_1)
  replace t3_2 : w10.cell? ⟨P_w1, 2, none⟩ = some (.slice A_w1 n_w1 c_w1) := (bc10 2).trans (by first | exact t3_2 | exact (World.cell?_alloc_lt _ _ _ (by go_size)).trans t3_2)
  clear bc10 bf10
  obtain ⟨bc10, bf10, bz10⟩ := bcell hb10 (b := w3.heap.size) (by go_size)
  replace t4_0 : w10.cell? ⟨w3.heap.size, 0, none⟩ = some (.int .i64 z) := (bc10 0).trans (by first | exact t4_0 | exact (World.cell?_alloc_lt _ _ _ (by go_size)).trans t4_0)
  replace t4_1 : w10.cell? ⟨w3.heap.size, 1, none⟩ = some (.int .i64 y) := (bc10 1).trans (by first | exact t4_1 | exact (World.cell?_alloc_lt _ _ _ (by go_size)).trans t4_1)
  replace t4_2 : w10.cell? ⟨w3.heap.size, 2, none⟩ = some (.slice (some ⟨g_x0, 0, none⟩) n n) := (bc10 2).trans (by first | exact t4_2 | exact (World.cell?_alloc_lt _ _ _ (by go_size)).trans t4_2)
  clear bc10 bf10
  obtain ⟨bc10, bf10, bz10⟩ := bcell hb10 (b := P_g0) (by go_size)
  replace t5_0 : w10.cell? ⟨P_g0, 0, none⟩ = some (.int .i64 (spZ1 z y xs u a)) := (bc10 0).trans (by first | exact t5_0 | exact (World.cell?_alloc_lt _ _ _ (by go_size)).trans t5_0)
  replace t5_1 : w10.cell? ⟨P_g0, 1, none⟩ = some (.int .i64 (spY1 z y xs u a)) := (bc10 1).trans (by first | exact t5_1 | exact (World.cell?_alloc_lt _ _ _ (by go_size)).trans t5_1)
  replace t5_2 : w10.cell? ⟨P_g0, 2, none⟩ = some (.slice A_g0 n_g0 c_g0) := (bc10 2).trans (by first | exact t5_2 | exact (World.cell?_alloc_lt _ _ _ (by go_size)).trans t5_2)
  clear bc10 bf10
  obtain ⟨bc10, bf10, bz10⟩ := bcell hb10 (b := P_g1) (by go_size)
  replace t6_0 : w10.cell? ⟨P_g1, 0, none⟩ = some (.int .i64 (spZ2 z y xs u a)) := (bc10 0).trans (by first | exact t6_0 | exact (World.cell?_alloc_lt _ _ _ (by go_size)).trans t6_0)
  replace t6_1 : w10.cell? ⟨P_g1, 1, none⟩ = some (.int .i64 (spY2 z y xs u a)) := (bc10 1).trans (by first | exact t6_1 | exact (World.cell?_alloc_lt _ _ _ (by go_size)).trans t6_1)
  replace t6_2 : w10.cell? ⟨P_g1, 2, none⟩ = some (.slice A_g1 n_g1 c_g1) := (bc10 2).trans (by first | exact t6_2 | exact (World.cell?_alloc_lt _ _ _ (by go_size)).trans t6_2)
  clear bc10 bf10
  replace f_w0 := f_w0.next HB10
  replace f_w1 := f_w1.next HB10
  replace f_x0 := f_x0.next HB10
  replace f_g0 := f_g0.next HB10
  replace f_g1 := f_g1.next HB10
  replace a_x := a_x.below (HB10.mono (by omega))
  replace HW := HW.trans (HB10.mono (by omega))
  clear hb10 HB10
  go_wp2_with fail
  refine (laws_eqLayout_self _ _ _ _ _ _ _ _ _ _ ((f_g1.rd Pt.len).below' (by go_grown) (by go_size)) ((f_w1.rd Pt.len).below' (by go_grown) (by go_size))).mono ?_
  rintro e w11 ⟨rfl, hb11⟩
  have hy11 := bsize hb11
  try simp at hy11
  have HB11 : Below w10.heap.size w10 w11 := by (repeat' (first | (with_reducible exact Below.refl _ _) | (with_reducible refine Below.setCell ?_ ?_ _) | (with_reducible refine Below.alloc ?_ ?_ _) | (with_reducible refine Below.drew ?_) | (with_reducible refine Below.drewN ?_ _) | (with_reducible refine Below.trans ?_ (Below.mono (by with_reducible assumption) ?_)) | go_size | (dsimp only; omega)))
  have hx11 := HB11.size
  obtain ⟨bc11, bf11, bz11⟩ := bcell hb11 (b := w.heap.size) (by go_size)
  replace t0_0 : w11.cell? ⟨w.heap.size, 0, none⟩ = some (.int .i64 z) := (bc11 0).trans (by first | exact t0_0 | exact (World.cell?_alloc_lt _ _ _ (by go_size)).trans t0_0)
  replace t0_1 : w11.cell? ⟨w.heap.size, 1, none⟩ = some (.int .i64 y) := (bc11 1).trans (by first | exact t0_1 | exact (World.cell?_alloc_lt _ _ _ (by go_size)).trans t0_1)
  replace t0_2 : w11.cell? ⟨w.heap.size, 2, none⟩ = some (.slice A n c) := (bc11 2).trans (by first | exact t0_2 | exact (World.cell?_alloc_lt _ _ _ (by go_size)).trans t0_2)
  clear bc11 bf11
  obtain ⟨bc11, bf11, bz11⟩ := bcell hb11 (b := w.heap.size + 1) (by go_size)
  replace t1_0 : w11.cell? ⟨w.heap.size + 1, 0, none⟩ = some (.bool u) := (bc11 0).trans (by first | exact t1_0 | exact (World.cell?_alloc_lt _ _ _ (by go_size)).trans t1_0)
  replace t1_1 : w11.cell? ⟨w.heap.size + 1, 1, none⟩ = some (.int .i64 a) := (bc11 1).trans (by first | exact t1_1 | exact (World.cell?_alloc_lt _ _ _ (by go_size)).trans t1_1)
  clear bc11 bf11
  obtain ⟨bc11, bf11, bz11⟩ := bcell hb11 (b := P_w0) (by go_size)
  replace t2_0 : w11.cell? ⟨P_w0, 0, none⟩ = some (.int .i64 (spZ1 z y xs u a)) := (bc11 0).trans (by first | exact t2_0 | exact (World.cell?_alloc_lt _ _ _ (by go_size)).trans t2_0)
  replace t2_1 : w11.cell? ⟨P_w0, 1, none⟩ = some (.int .i64 (spY1 z y xs u a)) := (bc11 1).trans (by first | exact t2_1 | exact (World.cell?_alloc_lt _ _ _ (by go_size)).trans t2_1)
  replace t2_2 : w11.cell? ⟨P_w0, 2, none⟩ = some (.slice A_w0 n_w0 c_w0) := (bc11 2).trans (by first | exact t2_2 | exact (World.cell?_alloc_lt _ _ _ (by go_size)).trans t2_2)
  clear bc11 bf11
  obtain ⟨bc11, bf11, bz11⟩ := bcell hb11 (b := P_w1) (by go_size)
  replace t3_0 : w11.cell? ⟨P_w1, 0, none⟩ = some (.int .i64 (spZ2 z y xs u a)) := (bc11 0).trans (by first | exact t3_0 | exact (World.cell?_alloc_lt _ _ _ (by go_size)).trans t3_0)
  replace t3_1 : w11.cell? ⟨P_w1, 1, none⟩ = some (.int .i64 (spY2 z y xs u a)) := (bc11 1).trans (by first | exact t3_1 | exact (World.cell?_alloc_lt _ _ _ (by go_size)).trans t3_1)
  replace t3_2 : w11.cell? ⟨P_w1, 2, none⟩ = some (.slice A_w1 n_w1 c_w1) := (bc11 2).trans (by first | exact t3_2 | exact (World.cell?_alloc_lt _ _ _ (by go_size)).trans t3_2)
  clear bc11 bf11
  obtain ⟨bc11, bf11, bz11⟩ := bcell hb11 (b := w3.heap.size) (by go_size)
  replace t4_0 : w11.cell? ⟨w3.heap.size, 0, none⟩ = some (.int .i64 z) := (bc11 0).trans (by first | exact t4_0 | exact (World.cell?_alloc_lt _ _ _ (by go_size)).trans t4_0)
  replace t4_1 : w11.cell? ⟨w3.heap.size, 1, none⟩ = some (.int .i64 y) := (bc11 1).trans (by first | exact t4_1 | exact (World.cell?_alloc_lt _ _ _ (by go_size)).trans t4_1)
  replace t4_2 : w11.cell? ⟨w3.heap.size, 2, none⟩ = some (.slice (some ⟨g_x0, 0, none⟩) n n) := (bc11 2).trans (by first | exact t4_2 | exact (World.cell?_alloc_lt _ _ _ (by go_size)).trans t4_2)
  clear bc11 bf11
  obtain ⟨bc11, bf11, bz11⟩ := bcell hb11 (b := P_g0) (by go_size)
  replace t5_0 : w11.cell? ⟨P_g0, 0, none⟩ = some (.int .i64 (spZ1 z y xs u a)) := (bc11 0).trans (by first | exact t5_0 | exact (World.cell?_alloc_lt _ _ _ (by go_size)).trans t5_0)
  replace t5_1 : w11.cell? ⟨P_g0, 1, none⟩ = some (.int .i64 (spY1 z y xs u a)) := (bc11 1).trans (by first | exact t5_1 | exact (World.cell?_alloc_lt _ _ _ (by go_size)).trans t5_1)
  replace t5_2 : w11.cell? ⟨P_g0, 2, none⟩ = some (.slice A_g0 n_g0 c_g0) := (bc11 2).trans (by first | exact t5_2 | exact (World.cell?_alloc_lt _ _ _ (by go_size)).trans t5_2)
  clear bc11 bf11
  obtain ⟨bc11, bf11, bz11⟩ := bcell hb11 (b := P_g1) (by go_size)
  replace t6_0 : w11.cell? ⟨P_g1, 0, none⟩ = some (.int .i64 (spZ2 z y xs u a)) := (bc11 0).trans (by first | exact t6_0 | exact (World.cell?_alloc_lt _ _ _ (by go_size)).trans t6_0)
  replace t6_1 : w11.cell? ⟨P_g1, 1, none⟩ = some (.int .i64 (spY2 z y xs u a)) := (bc11 1).trans (by first | exact t6_1 | exact (World.cell?_alloc_lt _ _ _ (by go_size)).trans t6_1)
  replace t6_2 : w11.cell? ⟨P_g1, 2, none⟩ = some (.slice A_g1 n_g1 c_g1) := (bc11 2).trans (by first | exact t6_2 | exact (World.cell?_alloc_lt _ _ _ (by go_size)).trans t6_2)
  clear bc11 bf11
  replace f_w0 := f_w0.next HB11
  replace f_w1 := f_w1.next HB11
  replace f_x0 := f_x0.next HB11
  replace f_g0 := f_g0.next HB11
  replace f_g1 := f_g1.next HB11
  replace a_x := a_x.below (HB11.mono (by omega))
  replace HW := HW.trans (HB11.mono (by omega))
  clear hb11 HB11
  go_wp2_with fail
  refine (laws_markLayoutK _ _ _ _ _ _ _ _ _ (f_g0.next (by go_grown)) (by go_size) (by omega) (by omega)).mono ?_
  rintro e w12 ⟨rfl, g_f, hg12⟩
  have hy12 := hg12.size
  try simp at hy12
  have HG12 : w11.grownBy w12 _ := grown_tr (grown_of_below (by go_grown) _) hg12
  have hx12 := HG12.size
  obtain ⟨bc12, bf12, bz12⟩ := bcellG hg12 (b := w.heap.size) (by go_size) (fun e2 => by first | (have h2 := l_g0.out _ e2; omega) | exact R_g00 _ e2 rfl | exact R_g01 _ e2 rfl)
  replace t0_0 : w12.cell? ⟨w.heap.size, 0, none⟩ = some (.int .i64 z) := (bc12 0).trans (by first | exact t0_0 | exact (World.cell?_alloc_lt _ _ _ (by go_size)).trans t0_0)
  replace t0_1 : w12.cell? ⟨w.heap.size, 1, none⟩ = some (.int .i64 y) := (bc12 1).trans (by first | exact t0_1 | exact (World.cell?_alloc_lt _ _ _ (by go_size)).trans t0_1)
  replace t0_2 : w12.cell? ⟨w.heap.size, 2, none⟩ = some (.slice A n c) := (bc12 2).trans (by first | exact t0_2 | exact (World.cell?_alloc_lt _ _ _ (by go_size)).trans t0_2)
  clear bc12 bf12
  obtain ⟨bc12, bf12, bz12⟩ := bcellG hg12 (b := w.heap.size + 1) (by go_size) (fun e2 => by first | (have h2 := l_g0.out _ e2; omega) | exact R_g00 _ e2 rfl | exact R_g01 _ e2 rfl)
  replace t1_0 : w12.cell? ⟨w.heap.size + 1, 0, none⟩ = some (.bool u) := (bc12 0).trans (by first | exact t1_0 | exact (World.cell?_alloc_lt _ _ _ (by go_size)).trans t1_0)
  replace t1_1 : w12.cell? ⟨w.heap.size + 1, 1, none⟩ = some (.int .i64 a) := (bc12 1).trans (by first | exact t1_1 | exact (World.cell?_alloc_lt _ _ _ (by go_size)).trans t1_1)
  clear bc12 bf12
  obtain ⟨bc12, bf12, bz12⟩ := bcellG hg12 (b := P_w0) (by go_size) (fun e2 => by first | (have h2 := l_g0.out _ e2; omega) | exact R_g00 _ e2 rfl | exact R_g01 _ e2 rfl)
  replace t2_0 : w12.cell? ⟨P_w0, 0, none⟩ = some (.int .i64 (spZ1 z y xs u a)) := (bc12 0).trans (by first | exact t2_0 | exact (World.cell?_alloc_lt _ _ _ (by go_size)).trans t2_0)
  replace t2_1 : w12.cell? ⟨P_w0, 1, none⟩ = some (.int .i64 (spY1 z y xs u a)) := (bc12 1).trans (by first | exact t2_1 | exact (World.cell?_alloc_lt _ _ _ (by go_size)).trans t2_1)
  replace t2_2 : w12.cell? ⟨P_w0, 2, none⟩ = some (.slice A_w0 n_w0 c_w0) := (bc12 2).trans (by first | exact t2_2 | exact (World.cell?_alloc_lt _ _ _ (by go_size)).trans t2_2)
  clear bc12 bf12
  obtain ⟨bc12, bf12, bz12⟩ := bcellG hg12 (b := P_w1) (by go_size) (fun e2 => by first | (have h2 := l_g0.out _ e2; omega) | exact R_g00 _ e2 rfl | exact R_g01 _ e2 rfl)
  replace t3_0 : w12.cell? ⟨P_w1, 0, none⟩ = some (.int .i64 (spZ2 z y xs u a)) := (bc12 0).trans (by first | exact t3_0 | exact (World.cell?_alloc_lt _ _ _ (by go_size)).trans t3_0)
  replace t3_1 : w12.cell? ⟨P_w1, 1, none⟩ = some (.int .i64 (spY2 z y xs u a)) := (bc12 1).trans (by first | exact t3_1 | exact (World.cell?_alloc_lt _ _ _ (by go_size)).trans t3_1)
  replace t3_2 : w12.cell? ⟨P_w1, 2, none⟩ = some (.slice A_w1 n_w1 c_w1) := (bc12 2).trans (by first | exact t3_2 | exact (World.cell?_alloc_lt _ _ _ (by go_size)).trans t3_2)
  clear bc12 bf12
  obtain ⟨bc12, bf12, bz12⟩ := bcellG hg12 (b := w3.heap.size) (by go_size) (fun e2 => by first | (have h2 := l_g0.out _ e2; omega) | exact R_g00 _ e2 rfl | exact R_g01 _ e2 rfl)
  replace t4_0 : w12.cell? ⟨w3.heap.size, 0, none⟩ = some (.int .i64 z) := (bc12 0).trans (by first | exact t4_0 | exact (World.cell?_alloc_lt _ _ _ (by go_size)).trans t4_0)
  replace t4_1 : w12.cell? ⟨w3.heap.size, 1, none⟩ = some (.int .i64 y) := (bc12 1).trans (by first | exact t4_1 | exact (World.cell?_alloc_lt _ _ _ (by go_size)).trans t4_1)
  replace t4_2 : w12.cell? ⟨w3.heap.size, 2, none⟩ = some (.slice (some ⟨g_x0, 0, none⟩) n n) := (bc12 2).trans (by first | exact t4_2 | exact (World.cell?_alloc_lt _ _ _ (by go_size)).trans t4_2)
  clear bc12 bf12
  obtain ⟨bc12, bf12, bz12⟩ := bcellG hg12 (b := P_g0) (by go_size) (fun e2 => by first | (have h2 := l_g0.out _ e2; omega) | exact R_g00 _ e2 rfl | exact R_g01 _ e2 rfl)
  replace t5_0 : w12.cell? ⟨P_g0, 0, none⟩ = some (.int .i64 (spZ1 z y xs u a)) := (bc12 0).trans (by first | exact t5_0 | exact (World.cell?_alloc_lt _ _ _ (by go_size)).trans t5_0)
  replace t5_1 : w12.cell? ⟨P_g0, 1, none⟩ = some (.int .i64 (spY1 z y xs u a)) := (bc12 1).trans (by first | exact t5_1 | exact (World.cell?_alloc_lt _ _ _ (by go_size)).trans t5_1)
  replace t5_2 : w12.cell? ⟨P_g0, 2, none⟩ = some (.slice A_g0 n_g0 c_g0) := (bc12 2).trans (by first | exact t5_2 | exact (World.cell?_alloc_lt _ _ _ (by go_size)).trans t5_2)
  clear bc12 bf12
  obtain ⟨bc12, bf12, bz12⟩ := bcellG hg12 (b := P_g1) (by go_size) (fun e2 => by first | (have h2 := l_g0.out _ e2; omega) | exact R_g00 _ e2 rfl | exact R_g01 _ e2 rfl)
  replace t6_0 : w12.cell? ⟨P_g1, 0, none⟩ = some (.int .i64 (spZ2 z y xs u a)) := (bc12 0).trans (by first | exact t6_0 | exact (World.cell?_alloc_lt _ _ _ (by go_size)).trans t6_0)
  replace t6_1 : w12.cell? ⟨P_g1, 1, none⟩ = some (.int .i64 (spY2 z y xs u a)) := (bc12 1).trans (by first | exact t6_1 | exact (World.cell?_alloc_lt _ _ _ (by go_size)).trans t6_1)
  replace t6_2 : w12.cell? ⟨P_g1, 2, none⟩ = some (.slice A_g1 n_g1 c_g1) := (bc12 2).trans (by first | exact t6_2 | exact (World.cell?_alloc_lt _ _ _ (by go_size)).trans t6_2)
  clear bc12 bf12
  replace f_w0 := f_w0.keep HG12 (fun k1 e1 e2 => by have h1 := l_w0.out k1 e1; have h2 := l_g0.out k1 e2; omega)
  replace f_w1 := f_w1.keep HG12 (fun k1 e1 e2 => by have h1 := l_w1.out k1 e1; have h2 := l_g0.out k1 e2; omega)
  replace f_x0 := f_x0.keep HG12 (fun k1 e1 e2 => by have h1 := l_x0.out k1 e1; have h2 := l_g0.out k1 e2; omega)
  replace f_g1 := f_g1.keep HG12 (fun k1 e1 e2 => ap_g k1 e2 e1)
  replace a_x := a_x.grown HG12 (by omega) (fun k1 e1 => by have h1 := l_g0.out k1 e1; omega)
  replace HW := HW.grown HG12 (by omega) (fun k1 e1 => by have h1 := l_g0.out k1 e1; omega)
  clear f_g0 hg12 HG12
  have f_g0 := g_f
  clear g_f
  go_wp2_with fail
  refine (laws_markLayoutK _ _ _ _ _ _ _ _ _ (f_g1.next (by go_grown)) (by go_size) (by omega) (by have := f_g0.1; omega)).mono ?_
  rintro e w13 ⟨rfl, g_f, hg13⟩
  have hy13 := hg13.size
  try simp at hy13
  have HG13 : w12.grownBy w13 _ := grown_tr (grown_of_below (by go_grown) _) hg13
  have hx13 := HG13.size
  obtain ⟨bc13, bf13, bz13⟩ := bcellG hg13 (b := w.heap.size) (by go_size) (fun e2 => by first | (have h2 := l_g1.out _ e2; omega) | exact R_g10 _ e2 rfl | exact R_g11 _ e2 rfl)
  replace t0_0 : w13.cell? ⟨w.heap.size, 0, none⟩ = some (.int .i64 z) := (bc13 0).trans (by first | exact t0_0 | exact (World.cell?_alloc_lt _ _ _ (by go_size)).trans t0_0)
  replace t0_1 : w13.cell? ⟨w.heap.size, 1, none⟩ = some (.int .i64 y) := (bc13 1).trans (by first | exact t0_1 | exact (World.cell?_alloc_lt _ _ _ (by go_size)).trans t0_1)
  replace t0_2 : w13.cell? ⟨w.heap.size, 2, none⟩ = some (.slice A n c) := (bc13 2).trans (by first | exact t0_2 | exact (World.cell?_alloc_lt _ _ _ (by go_size)).trans t0_2)
  clear bc13 bf13
  obtain ⟨bc13, bf13, bz13⟩ := bcellG hg13 (b := w.heap.size + 1) (by go_size) (fun e2 => by first | (have h2 := l_g1.out _ e2; omega) | exact R_g10 _ e2 rfl | exact R_g11 _ e2 rfl)
  replace t1_0 : w13.cell? ⟨w.heap.size + 1, 0, none⟩ = some (.bool u) := (bc13 0).trans (by first | exact t1_0 | exact (World.cell?_alloc_lt _ _ _ (by go_size)).trans t1_0)
  replace t1_1 : w13.cell? ⟨w.heap.size + 1, 1, none⟩ = some (.int .i64 a) := (bc13 1).trans (by first | exact t1_1 | exact (World.cell?_alloc_lt _ _ _ (by go_size)).trans t1_1)
  clear bc13 bf13
  obtain ⟨bc13, bf13, bz13⟩ := bcellG hg13 (b := P_w0) (by go_size) (fun e2 => by first | (have h2 := l_g1.out _ e2; omega) | exact R_g10 _ e2 rfl | exact R_g11 _ e2 rfl)
  replace t2_0 : w13.cell? ⟨P_w0, 0, none⟩ = some (.int .i64 (spZ1 z y xs u a)) := (bc13 0).trans (by first | exact t2_0 | exact (World.cell?_alloc_lt _ _ _ (by go_size)).trans t2_0)
  replace t2_1 : w13.cell? ⟨P_w0, 1, none⟩ = some (.int .i64 (spY1 z y xs u a)) := (bc13 1).trans (by first | exact t2_1 | exact (World.cell?_alloc_lt _ _ _ (by go_size)).trans t2_1)
  replace t2_2 : w13.cell? ⟨P_w0, 2, none⟩ = some (.slice A_w0 n_w0 c_w0) := (bc13 2).trans (by first | exact t2_2 | exact (World.cell?_alloc_lt _ _ _ (by go_size)).trans t2_2)
  clear bc13 bf13
  obtain ⟨bc13, bf13, bz13⟩ := bcellG hg13 (b := P_w1) (by go_size) (fun e2 => by first | (have h2 := l_g1.out _ e2; omega) | exact R_g10 _ e2 rfl | exact R_g11 _ e2 rfl)
  replace t3_0 : w13.cell? ⟨P_w1, 0, none⟩ = some (.int .i64 (spZ2 z y xs u a)) := (bc13 0).trans (by first | exact t3_0 | exact (World.cell?_alloc_lt _ _ _ (by go_size)).trans t3_0)
  replace t3_1 : w13.cell? ⟨P_w1, 1, none⟩ = some (.int .i64 (spY2 z y xs u a)) := (bc13 1).trans (by first | exact t3_1 | exact (World.cell?_alloc_lt _ _ _ (by go_size)).trans t3_1)
  replace t3_2 : w13.cell? ⟨P_w1, 2, none⟩ = some (.slice A_w1 n_w1 c_w1) := (bc13 2).trans (by first | exact t3_2 | exact (World.cell?_alloc_lt _ _ _ (by go_size)).trans t3_2)
  clear bc13 bf13
  obtain ⟨bc13, bf13, bz13⟩ := bcellG hg13 (b := w3.heap.size) (by go_size) (fun e2 => by first | (have h2 := l_g1.out _ e2; omega) | exact R_g10 _ e2 rfl | exact R_g11 _ e2 rfl)
  replace t4_0 : w13.cell? ⟨w3.heap.size, 0, none⟩ = some (.int .i64 z) := (bc13 0).trans (by first | exact t4_0 | exact (World.cell?_alloc_lt _ _ _ (by go_size)).trans t4_0)
  replace t4_1 : w13.cell? ⟨w3.heap.size, 1, none⟩ = some (.int .i64 y) := (bc13 1).trans (by first | exact t4_1 | exact (World.cell?_alloc_lt _ _ _ (by go_size)).trans t4_1)
  replace t4_2 : w13.cell? ⟨w3.heap.size, 2, none⟩ = some (.slice (some ⟨g_x0, 0, none⟩) n n) := (bc13 2).trans (by first | exact t4_2 | exact (World.cell?_alloc_lt _ _ _ (by go_size)).trans t4_2)
  clear bc13 bf13
  obtain ⟨bc13, bf13, bz13⟩ := bcellG hg13 (b := P_g0) (by go_size) (fun e2 => by first | (have h2 := l_g1.out _ e2; omega) | exact R_g10 _ e2 rfl | exact R_g11 _ e2 rfl)
  replace t5_0 : w13.cell? ⟨P_g0, 0, none⟩ = some (.int .i64 (spZ1 z y xs u a)) := (bc13 0).trans (by first | exact t5_0 | exact (World.cell?_alloc_lt _ _ _ (by go_size)).trans t5_0)
  replace t5_1 : w13.cell? ⟨P_g0, 1, none⟩ = some (.int .i64 (spY1 z y xs u a)) := (bc13 1).trans (by first | exact t5_1 | exact (World.cell?_alloc_lt _ _ _ (by go_size)).trans t5_1)
  replace t5_2 : w13.cell? ⟨P_g0, 2, none⟩ = some (.slice A_g0 n_g0 c_g0) := (bc13 2).trans (by first | exact t5_2 | exact (World.cell?_alloc_lt _ _ _ (by go_size)).trans t5_2)
  clear bc13 bf13
  obtain ⟨bc13, bf13, bz13⟩ := bcellG hg13 (b := P_g1) (by go_size) (fun e2 => by first | (have h2 := l_g1.out _ e2; omega) | exact R_g10 _ e2 rfl | exact R_g11 _ e2 rfl)
  replace t6_0 : w13.cell? ⟨P_g1, 0, none⟩ = some (.int .i64 (spZ2 z y xs u a)) := (bc13 0).trans (by first | exact t6_0 | exact (World.cell?_alloc_lt _ _ _ (by go_size)).trans t6_0)
  replace t6_1 : w13.cell? ⟨P_g1, 1, none⟩ = some (.int .i64 (spY2 z y xs u a)) := (bc13 1).trans (by first | exact t6_1 | exact (World.cell?_alloc_lt _ _ _ (by go_size)).trans t6_1)
  replace t6_2 : w13.cell? ⟨P_g1, 2, none⟩ = some (.slice A_g1 n_g1 c_g1) := (bc13 2).trans (by first | exact t6_2 | exact (World.cell?_alloc_lt _ _ _ (by go_size)).trans t6_2)
  clear bc13 bf13
  replace f_w0 := f_w0.keep HG13 (fun k1 e1 e2 => by have h1 := l_w0.out k1 e1; have h2 := l_g1.out k1 e2; omega)
  replace f_w1 := f_w1.keep HG13 (fun k1 e1 e2 => by have h1 := l_w1.out k1 e1; have h2 := l_g1.out k1 e2; omega)
  replace f_x0 := f_x0.keep HG13 (fun k1 e1 e2 => by have h1 := l_x0.out k1 e1; have h2 := l_g1.out k1 e2; omega)
  replace f_g0 := f_g0.keep HG13 (fun k1 e1 e2 => ap_g k1 e1 e2)
  replace a_x := a_x.grown HG13 (by omega) (fun k1 e1 => by have h1 := l_g1.out k1 e1; omega)
  replace HW := HW.grown HG13 (by omega) (fun k1 e1 => by have h1 := l_g1.out k1 e1; omega)
  clear f_g1 hg13 HG13
  have f_g1 := g_f
  clear g_f
  go_wp2_with fail
  refine (laws_heldLayoutK _ _ _ _ _ _ _ ((f_g0.rd Pt.len).below' (by go_grown) (by go_size)) (by omega) (by omega)).mono ?_
  rintro e w14 ⟨rfl, hb14⟩
  have hy14 := bsize hb14
  try simp at hy14
  have HB14 : Below w13.heap.size w13 w14 := by (repeat' (first | (with_reducible exact Below.refl _ _) | (with_reducible refine Below.setCell ?_ ?_ _) | (with_reducible refine Below.alloc ?_ ?_ _) | (with_reducible refine Below.drew ?_) | (with_reducible refine Below.drewN ?_ _) | (with_reducible refine Below.trans ?_ (Below.mono (by with_reducible assumption) ?_)) | go_size | (dsimp only; omega)))
  have hx14 := HB14.size
  obtain ⟨bc14, bf14, bz14⟩ := bcell hb14 (b := w.heap.size) (by go_size)
  replace t0_0 : w14.cell? ⟨w.heap.size, 0, none⟩ = some (.int .i64 z) := (bc14 0).trans (by first | exact t0_0 | exact (World.cell?_alloc_lt _ _ _ (by go_size)).trans t0_0)
  replace t0_1 : w14.cell? ⟨w.heap.size, 1, none⟩ = some (.int .i64 y) := (bc14 1).trans (by first | exact t0_1 | exact (World.cell?_alloc_lt _ _ _ (by go_size)).trans t0_1)
  replace t0_2 : w14.cell? ⟨w.heap.size, 2, none⟩ = some (.slice A n c) := (bc14 2).trans (by first | exact t0_2 | exact (World.cell?_alloc_lt _ _ _ (by go_size)).trans t0_2)
  clear bc14 bf14
  obtain ⟨bc14, bf14, bz14⟩ := bcell hb14 (b := w.heap.size + 1) (by go_size)
  replace t1_0 : w14.cell? ⟨w.heap.size + 1, 0, none⟩ = some (.bool u) := (bc14 0).trans (by first | exact t1_0 | exact (World.cell?_alloc_lt _ _ _ (by go_size)).trans t1_0)
  replace t1_1 : w14.cell? ⟨w.heap.size + 1, 1, none⟩ = some (.int .i64 a) := (bc14 1).trans (by first | exact t1_1 | exact (World.cell?_alloc_lt _ _ _ (by go_size)).trans t1_1)
  clear bc14 bf14
  obtain ⟨bc14, bf14, bz14⟩ := bcell hb14 (b := P_w0) (by go_size)
  replace t2_0 : w14.cell? ⟨P_w0, 0, none⟩ = some (.int .i64 (spZ1 z y xs u a)) := (bc14 0).trans (by first | exact t2_0 | exact (World.cell?_alloc_lt _ _ _ (by go_size)).trans t2_0)
  replace t2_1 : w14.cell? ⟨P_w0, 1, none⟩ = some (.int .i64 (spY1 z y xs u a)) := (bc14 1).trans (by first | exact t2_1 | exact (World.cell?_alloc_lt _ _ _ (by go_size)).trans t2_1)
  replace t2_2 : w14.cell? ⟨P_w0, 2, none⟩ = some (.slice A_w0 n_w0 c_w0) := (bc14 2).trans (by first | exact t2_2 | exact (World.cell?_alloc_lt _ _ _ (by go_size)).trans t2_2)
  clear bc14 bf14
  obtain ⟨bc14, bf14, bz14⟩ := bcell hb14 (b := P_w1) (by go_size)
  replace t3_0 : w14.cell? ⟨P_w1, 0, none⟩ = some (.int .i64 (spZ2 z y xs u a)) := (bc14 0).trans (by first | exact t3_0 | exact (World.cell?_alloc_lt _ _ _ (by go_size)).trans t3_0)
  replace t3_1 : w14.cell? ⟨P_w1, 1, none⟩ = some (.int .i64 (spY2 z y xs u a)) := (bc14 1).trans (by first | exact t3_1 | exact (World.cell?_alloc_lt _ _ _ (by go_size)).trans t3_1)
  replace t3_2 : w14.cell? ⟨P_w1, 2, none⟩ = some (.slice A_w1 n_w1 c_w1) := (bc14 2).trans (by first | exact t3_2 | exact (World.cell?_alloc_lt _ _ _ (by go_size)).trans t3_2)
  clear bc14 bf14
  obtain ⟨bc14, bf14, bz14⟩ := bcell hb14 (b := w3.heap.size) (by go_size)
  replace t4_0 : w14.cell? ⟨w3.heap.size, 0, none⟩ = some (.int .i64 z) := (bc14 0).trans (by first | exact t4_0 | exact (World.cell?_alloc_lt _ _ _ (by go_size)).trans t4_0)
  replace t4_1 : w14.cell? ⟨w3.heap.size, 1, none⟩ = some (.int .i64 y) := (bc14 1).trans (by first | exact t4_1 | exact (World.cell?_alloc_lt _ _ _ (by go_size)).trans t4_1)
  replace t4_2 : w14.cell? ⟨w3.heap.size, 2, none⟩ = some (.slice (some ⟨g_x0, 0, none⟩) n n) := (bc14 2).trans (by first | exact t4_2 | exact (World.cell?_alloc_lt _ _ _ (by go_size)).trans t4_2)
  clear bc14 bf14
  obtain ⟨bc14, bf14, bz14⟩ := bcell hb14 (b := P_g0) (by go_size)
  replace t5_0 : w14.cell? ⟨P_g0, 0, none⟩ = some (.int .i64 (spZ1 z y xs u a)) := (bc14 0).trans (by first | exact t5_0 | exact (World.cell?_alloc_lt _ _ _ (by go_size)).trans t5_0)
  replace t5_1 : w14.cell? ⟨P_g0, 1, none⟩ = some (.int .i64 (spY1 z y xs u a)) := (bc14 1).trans (by first | exact t5_1 | exact (World.cell?_alloc_lt _ _ _ (by go_size)).trans t5_1)
  replace t5_2 : w14.cell? ⟨P_g0, 2, none⟩ = some (.slice A_g0 n_g0 c_g0) := (bc14 2).trans (by first | exact t5_2 | exact (World.cell?_alloc_lt _ _ _ (by go_size)).trans t5_2)
  clear bc14 bf14
  obtain ⟨bc14, bf14, bz14⟩ := bcell hb14 (b := P_g1) (by go_size)
  replace t6_0 : w14.cell? ⟨P_g1, 0, none⟩ = some (.int .i64 (spZ2 z y xs u a)) := (bc14 0).trans (by first | exact t6_0 | exact (World.cell?_alloc_lt _ _ _ (by go_size)).trans t6_0)
  replace t6_1 : w14.cell? ⟨P_g1, 1, none⟩ = some (.int .i64 (spY2 z y xs u a)) := (bc14 1).trans (by first | exact t6_1 | exact (World.cell?_alloc_lt _ _ _ (by go_size)).trans t6_1)
  replace t6_2 : w14.cell? ⟨P_g1, 2, none⟩ = some (.slice A_g1 n_g1 c_g1) := (bc14 2).trans (by first | exact t6_2 | exact (World.cell?_alloc_lt _ _ _ (by go_size)).trans t6_2)
  clear bc14 bf14
  replace f_w0 := f_w0.next HB14
  replace f_w1 := f_w1.next HB14
  replace f_x0 := f_x0.next HB14
  replace f_g0 := f_g0.next HB14
  replace f_g1 := f_g1.next HB14
  replace a_x := a_x.below (HB14.mono (by omega))
  replace HW := HW.trans (HB14.mono (by omega))
  clear hb14 HB14
  go_wp2_with fail
  refine (laws_heldLayoutK _ _ _ _ _ _ _ ((f_g1.rd Pt.len).below' (by go_grown) (by go_size)) (by omega) (by have := f_g0.1; omega)).mono ?_
  rintro e w15 ⟨rfl, hb15⟩
  have hy15 := bsize hb15
  try simp at hy15
  have HB15 : Below w14.heap.size w14 w15 := by (repeat' (first | (with_reducible exact Below.refl _ _) | (with_reducible refine Below.setCell ?_ ?_ _) | (with_reducible refine Below.alloc ?_ ?_ _) | (with_reducible refine Below.drew ?_) | (with_reducible refine Below.drewN ?_ _) | (with_reducible refine Below.trans ?_ (Below.mono (by with_reducible assumption) ?_)) | go_size | (dsimp only; omega)))
  have hx15 := HB15.size
  obtain ⟨bc15, bf15, bz15⟩ := bcell hb15 (b := w.heap.size) (by go_size)
  replace t0_0 : w15.cell? ⟨w.heap.size, 0, none⟩ = some (.int .i64 z) := (bc15 0).trans (by first | exact t0_0 | exact (World.cell?_alloc_lt _ _ _ (by go_size)).trans t0_0)
  replace t0_1 : w15.cell? ⟨w.heap.size, 1, none⟩ = some (.int .i64 y) := (bc15 1).trans (by first | exact t0_1 | exact (World.cell?_alloc_lt _ _ _ (by go_size)).trans t0_1)
  replace t0_2 : w15.cell? ⟨w.heap.size, 2, none⟩ = some (.slice A n c) := (bc15 2).trans (by first | exact t0_2 | exact (World.cell?_alloc_lt _ _ _ (by go_size)).trans t0_2)
  clear bc15 bf15
  obtain ⟨bc15, bf15, bz15⟩ := bcell hb15 (b := w.heap.size + 1) (by go_size)
  replace t1_0 : w15.cell? ⟨w.heap.size + 1, 0, none⟩ = some (.bool u) := (bc15 0).trans (by first | exact t1_0 | exact (World.cell?_alloc_lt _ _ _ (by go_size)).trans t1_0)
  replace t1_1 : w15.cell? ⟨w.heap.size + 1, 1, none⟩ = some (.int .i64 a) := (bc15 1).trans (by first | exact t1_1 | exact (World.cell?_alloc_lt _ _ _ (by go_size)).trans t1_1)
  clear bc15 bf15
  obtain ⟨bc15, bf15, bz15⟩ := bcell hb15 (b := P_w0) (by go_size)
  replace t2_0 : w15.cell? ⟨P_w0, 0, none⟩ = some (.int .i64 (spZ1 z y xs u a)) := (bc15 0).trans (by first | exact t2_0 | exact (World.cell?_alloc_lt _ _ _ (by go_size)).trans t2_0)
  replace t2_1 : w15.cell? ⟨P_w0, 1, none⟩ = some (.int .i64 (spY1 z y xs u a)) := (bc15 1).trans (by first | exact t2_1 | exact (World.cell?_alloc_lt _ _ _ (by go_size)).trans t2_1)
  replace t2_2 : w15.cell? ⟨P_w0, 2, none⟩ = some (.slice A_w0 n_w0 c_w0) := (bc15 2).trans (by first | exact t2_2 | exact (World.cell?_alloc_lt _ _ _ (by go_size)).trans t2_2)
  clear bc15 bf15
  obtain ⟨bc15, bf15, bz15⟩ := bcell hb15 (b := P_w1) (by go_size)
  replace t3_0 : w15.cell? ⟨P_w1, 0, none⟩ = some (.int .i64 (spZ2 z y xs u a)) := (bc15 0).trans (by first | exact t3_0 | exact (World.cell?_alloc_lt _ _ _ (by go_size)).trans t3_0)
  replace t3_1 : w15.cell? ⟨P_w1, 1, none⟩ = some (.int .i64 (spY2 z y xs u a)) := (bc15 1).trans (by first | exact t3_1 | exact (World.cell?_alloc_lt _ _ _ (by go_size)).trans t3_1)
  replace t3_2 : w15.cell? ⟨P_w1, 2, none⟩ = some (.slice A_w1 n_w1 c_w1) := (bc15 2).trans (by first | exact t3_2 | exact (World.cell?_alloc_lt _ _ _ (by go_size)).trans t3_2)
  clear bc15 bf15
  obtain ⟨bc15, bf15, bz15⟩ := bcell hb15 (b := w3.heap.size) (by go_size)
  replace t4_0 : w15.cell? ⟨w3.heap.size, 0, none⟩ = some (.int .i64 z) := (bc15 0).trans (by first | exact t4_0 | exact (World.cell?_alloc_lt _ _ _ (by go_size)).trans t4_0)
  replace t4_1 : w15.cell? ⟨w3.heap.size, 1, none⟩ = some (.int .i64 y) := (bc15 1).trans (by first | exact t4_1 | exact (World.cell?_alloc_lt _ _ _ (by go_size)).trans t4_1)
  replace t4_2 : w15.cell? ⟨w3.heap.size, 2, none⟩ = some (.slice (some ⟨g_x0, 0, none⟩) n n) := (bc15 2).trans (by first | exact t4_2 | exact (World.cell?_alloc_lt _ _ _ (by go_size)).trans t4_2)
  clear bc15 bf15
  obtain ⟨bc15, bf15, bz15⟩ := bcell hb15 (b := P_g0) (by go_size)
  replace t5_0 : w15.cell? ⟨P_g0, 0, none⟩ = some (.int .i64 (spZ1 z y xs u a)) := (bc15 0).trans (by first | exact t5_0 | exact (World.cell?_alloc_lt _ _ _ (by go_size)).trans t5_0)
  replace t5_1 : w15.cell? ⟨P_g0, 1, none⟩ = some (.int .i64 (spY1 z y xs u a)) := (bc15 1).trans (by first | exact t5_1 | exact (World.cell?_alloc_lt _ _ _ (by go_size)).trans t5_1)
  replace t5_2 : w15.cell? ⟨P_g0, 2, none⟩ = some (.slice A_g0 n_g0 c_g0) := (bc15 2).trans (by first | exact t5_2 | exact (World.cell?_alloc_lt _ _ _ (by go_size)).trans t5_2)
  clear bc15 bf15
  obtain ⟨bc15, bf15, bz15⟩ := bcell hb15 (b := P_g1) (by go_size)
  replace t6_0 : w15.cell? ⟨P_g1, 0, none⟩ = some (.int .i64 (spZ2 z y xs u a)) := (bc15 0).trans (by first | exact t6_0 | exact (World.cell?_alloc_lt _ _ _ (by go_size)).trans t6_0)
  replace t6_1 : w15.cell? ⟨P_g1, 1, none⟩ = some (.int .i64 (spY2 z y xs u a)) := (bc15 1).trans (by first | exact t6_1 | exact (World.cell?_alloc_lt _ _ _ (by go_size)).trans t6_1)
  replace t6_2 : w15.cell? ⟨P_g1, 2, none⟩ = some (.slice A_g1 n_g1 c_g1) := (bc15 2).trans (by first | exact t6_2 | exact (World.cell?_alloc_lt _ _ _ (by go_size)).trans t6_2)
  clear bc15 bf15
  replace f_w0 := f_w0.next HB15
  replace f_w1 := f_w1.next HB15
  replace f_x0 := f_x0.next HB15
  replace f_g0 := f_g0.next HB15
  replace f_g1 := f_g1.next HB15
  replace a_x := a_x.below (HB15.mono (by omega))
  replace HW := HW.trans (HB15.mono (by omega))
  clear hb15 HB15
  go_upto_region 28 with fail
  go_cut [16, 17, 18] (fun s0 s1 s2 wx => ∃ (P7 P8 : Nat) (A1 : Option Addr) (n1 c1 : Nat) (A2 : Option Addr) (n2 c2 : Nat), s0 = .pointer (some ⟨P7, 0, none⟩) ∧ s1 = .pointer (some ⟨P8, 0, none⟩) ∧ s2 = .bool (cutB z y xs u a) ∧ Hid (Mid w15 wx true true true true true P7 P8 A1 n1 c1 A2 n2 c2 (spZ1 z y xs u a) (spY1 z y xs u a) (spZ2 z y xs u a) (spY2 z y xs u a) (spL1 z y xs u a) (spL2 z y xs u a)))
  case first =>
    refine wp_region_steps (fun a0 L a' wx => ∃ (v105 v106 v107 v108 v109 v104 v110 v111 v112 v16 v17 v18 : Value) (gl P7 P8 : Nat) (A1 : Option Addr) (n1 c1 : Nat) (A2 : Option Addr) (n2 c2 : Nat), a' = ((((((((((((a0.put (some 105) v105).put (some 106) v106).put (some 107) v107).put (some 108) v108).put (some 109) v109).put (some 104) v104).put (some 110) v110).put (some 111) v111).put (some 112) v112).put (some 16) v16).put (some 17) v17).put (some 18) v18) ∧
        (L 0 = true → v105 = .agg #[.int .i64 z, .int .i64 y, .slice A n c]) ∧
        (L 1 = true → v106 = .agg #[.int .i64 z, .int .i64 y, .slice (some ⟨gl, 0, none⟩) n n] ∧ (L 4 = false → OwnP wx w15.heap.size (some ⟨gl, 0, none⟩) n n xs)) ∧
        (L 2 = true → v107 = .agg #[.bool u, .int .i64 a]) ∧
        (L 3 = true → v108 = .agg #[.bool u, .int .i64 a]) ∧
        (L 4 = true → v109 = .tuple #[.agg #[.int .i64 (spZ1 z y xs u a), .int .i64 (spY1 z y xs u a), .slice A1 n1 c1], .agg #[.int .i64 (spZ2 z y xs u a), .int .i64 (spY2 z y xs u a), .slice A2 n2 c2], .bool (cutB z y xs u a)]) ∧
        (L 5 = true → L 4 = true ∧ v104 = .tuple #[.agg #[.int .i64 (spZ1 z y xs u a), .int .i64 (spY1 z y xs u a), .slice A1 n1 c1], .agg #[.int .i64 (spZ2 z y xs u a), .int .i64 (spY2 z y xs u a), .slice A2 n2 c2], .bool (cutB z y xs u a)]) ∧
        (L 6 = true → L 4 = true ∧ v110 = .agg #[.int .i64 (spZ1 z y xs u a), .int .i64 (spY1 z y xs u a), .slice A1 n1 c1]) ∧
        (L 7 = true → L 4 = true ∧ v111 = .agg #[.int .i64 (spZ2 z y xs u a), .int .i64 (spY2 z y xs u a), .slice A2 n2 c2]) ∧
        (L 8 = true → v112 = .bool (cutB z y xs u a)) ∧
        (L 9 = true → v16 = .pointer (some ⟨P7, 0, none⟩)) ∧
        (L 10 = true → v17 = .pointer (some ⟨P8, 0, none⟩)) ∧
        (L 13 = true → v18 = .bool (cutB z y xs u a)) ∧
        (L 11 = true → L 4 = true ∧ L 9 = true ∧ L 10 = true) ∧
        (L 12 = true → L 11 = true) ∧
        Mid w15 wx (L 4) (L 9) (L 10) (L 11) (L 12) P7 P8 A1 n1 c1 A2 n2 c2 (spZ1 z y xs u a) (spY1 z y xs u a) (spZ2 z y xs u a) (spY2 z y xs u a) (spL1 z y xs u a) (spL2 z y xs u a)) [0, 1, 2, 3, 4, 5, 6, 7, 8, 9, 10, 11, 12, 13] (by kernel_rfl) (by kernel_rfl) (by kernel_rfl) ?h0 ?hs ?hfin
    case h0 =>
      refine ⟨?_, ?_, ?_, ?_, ?_, ?_, ?_, ?_, ?_, ?_, ?_, ?_, 0, 0, 0, none, 0, 0, none, 0, 0, ?eq, nofun, nofun, nofun, nofun, nofun, nofun, nofun, nofun, nofun, nofun, nofun, nofun, nofun, nofun, Mid.start _⟩
      case eq =>
        simp only [Act.put, List.setIfInBounds_toArray, List.set_cons_zero, List.set_cons_succ]
        try rfl
    case hs =>
      refine Steps.cons [] rfl (by kernel_rfl) ?p0 ?_
      case p0 =>
        rintro L a' wx hL hd ⟨v105, v106, v107, v108, v109, v104, v110, v111, v112, v16, v17, v18, gl, P7, P8, A1, n1, c1, A2, n2, c2, rfl, h0, h1, h2, h3, h4, h5, h6, h7, h8, h9, h10, h13, hC1, hC2, M⟩ K' hK
        have q0 := (M.be.cell (p := ⟨w.heap.size, 0, none⟩) (by first | (dsimp only; omega) | (simp only [World.size_alloc]; omega))).trans t0_0; have q1 := (M.be.cell (p := ⟨w.heap.size, 1, none⟩) (by first | (dsimp only; omega) | (simp only [World.size_alloc]; omega))).trans t0_1; have q2 := (M.be.cell (p := ⟨w.heap.size, 2, none⟩) (by first | (dsimp only; omega) | (simp only [World.size_alloc]; omega))).trans t0_2
        simp only [Act.put, List.setIfInBounds_toArray, List.set_cons_zero, List.set_cons_succ]
        go_simp
        exact hK _ _ ⟨_, v106, v107, v108, v109, v104, v110, v111, v112, v16, v17, v18, gl, P7, P8, A1, n1, c1, A2, n2, c2, by simp only [Act.put, List.setIfInBounds_toArray, List.set_cons_zero, List.set_cons_succ], fun _ => rfl, h1, h2, h3, h4, h5, h6, h7, h8, h9, h10, h13, hC1, hC2, M⟩
      refine Steps.cons [0] rfl (by kernel_rfl) ?p1 ?_
      case p1 =>
        rintro L a' wx hL hd ⟨v105, v106, v107, v108, v109, v104, v110, v111, v112, v16, v17, v18, gl, P7, P8, A1, n1, c1, A2, n2, c2, rfl, h0, h1, h2, h3, h4, h5, h6, h7, h8, h9, h10, h13, hC1, hC2, M⟩ K' hK
        have e0 := h0 (hd 0 (by simp)); subst e0
        simp only [Act.put, List.setIfInBounds_toArray, List.set_cons_zero, List.set_cons_succ]
        go_simp
        refine (laws_toLayout _ _ _ _ _ _ _ (a_x.below' (M.be.mono (by omega)) (by have := M.be.size; omega))).mono ?_
        rintro e w' ⟨g', rfl, f', hb⟩
        have M' := M.read hb
        go_simp
        exact hK _ _ ⟨_, _, v107, v108, v109, v104, v110, v111, v112, v16, v17, v18, g', P7, P8, A1, n1, c1, A2, n2, c2, by simp only [Act.put, List.setIfInBounds_toArray, List.set_cons_zero, List.set_cons_succ], h0, fun _ => ⟨rfl, fun _ => f'.base M.be.size⟩, h2, h3, h4, h5, h6, h7, h8, h9, h10, h13, hC1, hC2, M'⟩
      refine Steps.cons [] rfl (by kernel_rfl) ?p2 ?_
      case p2 =>
        rintro L a' wx hL hd ⟨v105, v106, v107, v108, v109, v104, v110, v111, v112, v16, v17, v18, gl, P7, P8, A1, n1, c1, A2, n2, c2, rfl, h0, h1, h2, h3, h4, h5, h6, h7, h8, h9, h10, h13, hC1, hC2, M⟩ K' hK
        have q0 := (M.be.cell (p := ⟨w.heap.size + 1, 0, none⟩) (by first | (dsimp only; omega) | (simp only [World.size_alloc]; omega))).trans t1_0; have q1 := (M.be.cell (p := ⟨w.heap.size + 1, 1, none⟩) (by first | (dsimp only; omega) | (simp only [World.size_alloc]; omega))).trans t1_1
        simp only [Act.put, List.setIfInBounds_toArray, List.set_cons_zero, List.set_cons_succ]
        go_simp
        exact hK _ _ ⟨v105, v106, _, v108, v109, v104, v110, v111, v112, v16, v17, v18, gl, P7, P8, A1, n1, c1, A2, n2, c2, by simp only [Act.put, List.setIfInBounds_toArray, List.set_cons_zero, List.set_cons_succ], h0, h1, fun _ => rfl, h3, h4, h5, h6, h7, h8, h9, h10, h13, hC1, hC2, M⟩
      refine Steps.cons [2] rfl (by kernel_rfl) ?p3 ?_
      case p3 =>
        rintro L a' wx hL hd ⟨v105, v106, v107, v108, v109, v104, v110, v111, v112, v16, v17, v18, gl, P7, P8, A1, n1, c1, A2, n2, c2, rfl, h0, h1, h2, h3, h4, h5, h6, h7, h8, h9, h10, h13, hC1, hC2, M⟩ K' hK
        have e2 := h2 (hd 2 (by simp)); subst e2
        simp only [Act.put, List.setIfInBounds_toArray, List.set_cons_zero, List.set_cons_succ]
        go_simp
        refine (laws_toCut u a _).mono ?_
        rintro e w' ⟨rfl, hb⟩
        have M' := M.read hb
        go_simp
        exact hK _ _ ⟨v105, v106, _, _, v109, v104, v110, v111, v112, v16, v17, v18, gl, P7, P8, A1, n1, c1, A2, n2, c2, by simp only [Act.put, List.setIfInBounds_toArray, List.set_cons_zero, List.set_cons_succ], h0, fun e => ⟨(h1 e).1, fun d => ((h1 e).2 d).next hb⟩, h2, fun _ => rfl, h4, h5, h6, h7, h8, h9, h10, h13, hC1, hC2, M'⟩
      refine Steps.cons [1, 3] rfl (by kernel_rfl) ?p4 ?_
      case p4 =>
        rintro L a' wx hL hd ⟨v105, v106, v107, v108, v109, v104, v110, v111, v112, v16, v17, v18, gl, P7, P8, A1, n1, c1, A2, n2, c2, rfl, h0, h1, h2, h3, h4, h5, h6, h7, h8, h9, h10, h13, hC1, hC2, M⟩ K' hK
        have l11 : L 11 = false := Bool.eq_false_iff.2 (fun e => absurd (hC1 e).1 (by rw [hL]; nofun))
        have l12 : L 12 = false := Bool.eq_false_iff.2 (fun e => absurd (hC2 e) (by rw [l11]; nofun))
        have rw_ : RdP wx wx.heap.size _ n xs := (((h1 (hd 1 (by simp))).2 hL).rd Pt.len)
        have e1 := (h1 (hd 1 (by simp))).1; subst e1
        have e3 := h3 (hd 3 (by simp)); subst e3
        simp only [Act.put, List.setIfInBounds_toArray, List.set_cons_zero, List.set_cons_succ]
        go_simp
        refine (impl_SplitLayout _ _ _ _ _ xs _ _ _ rw_).mono ?_
        rintro e w' ⟨A1', n1', c1', A2', n2', c2', rfl, o1, o2, ap, hb⟩
        have M' := (M.cast hL rfl rfl l11 l12).call hb o1 o2 ap
        go_simp
        exact hK _ _ ⟨v105, _, v107, _, _, v104, v110, v111, v112, v16, v17, v18, gl, P7, P8, A1', n1', c1', A2', n2', c2', by simp only [Act.put, List.setIfInBounds_toArray, List.set_cons_zero, List.set_cons_succ], h0, fun e => ⟨(h1 e).1, fun d => by cases d⟩, h2, h3, fun _ => rfl, fun e => absurd (h5 e).1 (by rw [hL]; nofun), fun e => absurd (h6 e).1 (by rw [hL]; nofun), fun e => absurd (h7 e).1 (by rw [hL]; nofun), h8, h9, h10, h13, fun e => absurd (hC1 e).1 (by rw [hL]; nofun), hC2, M'.cast rfl rfl rfl l11.symm l12.symm⟩
      refine Steps.cons [4] rfl (by kernel_rfl) ?p5 ?_
      case p5 =>
        rintro L a' wx hL hd ⟨v105, v106, v107, v108, v109, v104, v110, v111, v112, v16, v17, v18, gl, P7, P8, A1, n1, c1, A2, n2, c2, rfl, h0, h1, h2, h3, h4, h5, h6, h7, h8, h9, h10, h13, hC1, hC2, M⟩ K' hK
        have e4 := h4 (hd 4 (by simp)); subst e4
        simp only [Act.put, List.setIfInBounds_toArray, List.set_cons_zero, List.set_cons_succ]
        go_simp
        exact hK _ _ ⟨v105, v106, v107, v108, _, _, v110, v111, v112, v16, v17, v18, gl, P7, P8, A1, n1, c1, A2, n2, c2, by simp only [Act.put, List.setIfInBounds_toArray, List.set_cons_zero, List.set_cons_succ], h0, h1, h2, h3, h4, fun _ => ⟨hd 4 (by simp), rfl⟩, h6, h7, h8, h9, h10, h13, hC1, hC2, M⟩
      refine Steps.cons [5] rfl (by kernel_rfl) ?p6 ?_
      case p6 =>
        rintro L a' wx hL hd ⟨v105, v106, v107, v108, v109, v104, v110, v111, v112, v16, v17, v18, gl, P7, P8, A1, n1, c1, A2, n2, c2, rfl, h0, h1, h2, h3, h4, h5, h6, h7, h8, h9, h10, h13, hC1, hC2, M⟩ K' hK
        have hc := (h5 (hd 5 (by simp))).1
        have e5 := (h5 (hd 5 (by simp))).2; subst e5
        have e4 := h4 hc; subst e4
        simp only [Act.put, List.setIfInBounds_toArray, List.set_cons_zero, List.set_cons_succ]
        go_simp
        exact hK _ _ ⟨v105, v106, v107, v108, _, _, _, v111, v112, v16, v17, v18, gl, P7, P8, A1, n1, c1, A2, n2, c2, by simp only [Act.put, List.setIfInBounds_toArray, List.set_cons_zero, List.set_cons_succ], h0, h1, h2, h3, h4, h5, fun _ => ⟨hc, rfl⟩, h7, h8, h9, h10, h13, hC1, hC2, M⟩
      refine Steps.cons [5] rfl (by kernel_rfl) ?p7 ?_
      case p7 =>
        rintro L a' wx hL hd ⟨v105, v106, v107, v108, v109, v104, v110, v111, v112, v16, v17, v18, gl, P7, P8, A1, n1, c1, A2, n2, c2, rfl, h0, h1, h2, h3, h4, h5, h6, h7, h8, h9, h10, h13, hC1, hC2, M⟩ K' hK
        have hc := (h5 (hd 5 (by simp))).1
        have e5 := (h5 (hd 5 (by simp))).2; subst e5
        have e4 := h4 hc; subst e4
        simp only [Act.put, List.setIfInBounds_toArray, List.set_cons_zero, List.set_cons_succ]
        go_simp
        exact hK _ _ ⟨v105, v106, v107, v108, _, _, v110, _, v112, v16, v17, v18, gl, P7, P8, A1, n1, c1, A2, n2, c2, by simp only [Act.put, List.setIfInBounds_toArray, List.set_cons_zero, List.set_cons_succ], h0, h1, h2, h3, h4, h5, h6, fun _ => ⟨hc, rfl⟩, h8, h9, h10, h13, hC1, hC2, M⟩
      refine Steps.cons [5] rfl (by kernel_rfl) ?p8 ?_
      case p8 =>
        rintro L a' wx hL hd ⟨v105, v106, v107, v108, v109, v104, v110, v111, v112, v16, v17, v18, gl, P7, P8, A1, n1, c1, A2, n2, c2, rfl, h0, h1, h2, h3, h4, h5, h6, h7, h8, h9, h10, h13, hC1, hC2, M⟩ K' hK
        have hc := (h5 (hd 5 (by simp))).1
        have e5 := (h5 (hd 5 (by simp))).2; subst e5
        have e4 := h4 hc; subst e4
        simp only [Act.put, List.setIfInBounds_toArray, List.set_cons_zero, List.set_cons_succ]
        go_simp
        exact hK _ _ ⟨v105, v106, v107, v108, _, _, v110, v111, _, v16, v17, v18, gl, P7, P8, A1, n1, c1, A2, n2, c2, by simp only [Act.put, List.setIfInBounds_toArray, List.set_cons_zero, List.set_cons_succ], h0, h1, h2, h3, h4, h5, h6, h7, fun _ => rfl, h9, h10, h13, hC1, hC2, M⟩
      refine Steps.cons [] rfl (by kernel_rfl) ?p9 ?_
      case p9 =>
        rintro L a' wx hL hd ⟨v105, v106, v107, v108, v109, v104, v110, v111, v112, v16, v17, v18, gl, P7, P8, A1, n1, c1, A2, n2, c2, rfl, h0, h1, h2, h3, h4, h5, h6, h7, h8, h9, h10, h13, hC1, hC2, M⟩ K' hK
        have l11 : L 11 = false := Bool.eq_false_iff.2 (fun e => absurd (hC1 e).2.1 (by rw [hL]; nofun))
        have l12 : L 12 = false := Bool.eq_false_iff.2 (fun e => absurd (hC2 e) (by rw [l11]; nofun))
        simp only [Act.put, List.setIfInBounds_toArray, List.set_cons_zero, List.set_cons_succ]
        go_simp
        have M' := (M.cast rfl hL rfl l11 rfl).alloc1 29
        have hb := (Below.refl wx.heap.size wx).alloc (Nat.le_refl _) (.cells #[.int .i64 0, .int .i64 0, .slice none 0 0] 29)
        exact hK _ _ ⟨v105, v106, v107, v108, v109, v104, v110, v111, v112, _, v17, v18, gl, wx.heap.size, P8, A1, n1, c1, A2, n2, c2, by simp only [Act.put, List.setIfInBounds_toArray, List.set_cons_zero, List.set_cons_succ], h0, fun e => ⟨(h1 e).1, fun d => ((h1 e).2 d).next hb⟩, h2, h3, h4, h5, h6, h7, h8, fun _ => rfl, h10, h13, fun e => ⟨(hC1 e).1, rfl, (hC1 e).2.2⟩, hC2, M'.cast rfl rfl rfl l11.symm rfl⟩
      refine Steps.cons [] rfl (by kernel_rfl) ?p10 ?_
      case p10 =>
        rintro L a' wx hL hd ⟨v105, v106, v107, v108, v109, v104, v110, v111, v112, v16, v17, v18, gl, P7, P8, A1, n1, c1, A2, n2, c2, rfl, h0, h1, h2, h3, h4, h5, h6, h7, h8, h9, h10, h13, hC1, hC2, M⟩ K' hK
        have l11 : L 11 = false := Bool.eq_false_iff.2 (fun e => absurd (hC1 e).2.2 (by rw [hL]; nofun))
        have l12 : L 12 = false := Bool.eq_false_iff.2 (fun e => absurd (hC2 e) (by rw [l11]; nofun))
        simp only [Act.put, List.setIfInBounds_toArray, List.set_cons_zero, List.set_cons_succ]
        go_simp
        have M' := (M.cast rfl rfl hL rfl l12).alloc2 29
        have hb := (Below.refl wx.heap.size wx).alloc (Nat.le_refl _) (.cells #[.int .i64 0, .int .i64 0, .slice none 0 0] 29)
        exact hK _ _ ⟨v105, v106, v107, v108, v109, v104, v110, v111, v112, v16, _, v18, gl, P7, wx.heap.size, A1, n1, c1, A2, n2, c2, by simp only [Act.put, List.setIfInBounds_toArray, List.set_cons_zero, List.set_cons_succ], h0, fun e => ⟨(h1 e).1, fun d => ((h1 e).2 d).next hb⟩, h2, h3, h4, h5, h6, h7, h8, h9, fun _ => rfl, h13, fun e => ⟨(hC1 e).1, (hC1 e).2.1, rfl⟩, hC2, M'.cast rfl rfl rfl rfl l12.symm⟩
      refine Steps.cons [4, 6, 9, 10] rfl (by kernel_rfl) ?p11 ?_
      case p11 =>
        rintro L a' wx hL hd ⟨v105, v106, v107, v108, v109, v104, v110, v111, v112, v16, v17, v18, gl, P7, P8, A1, n1, c1, A2, n2, c2, rfl, h0, h1, h2, h3, h4, h5, h6, h7, h8, h9, h10, h13, hC1, hC2, M⟩ K' hK
        have l12 : L 12 = false := Bool.eq_false_iff.2 (fun e => absurd (hC2 e) (by rw [hL]; nofun))
        have Q := M.cast (hd 4 (by simp)) (hd 9 (by simp)) (hd 10 (by simp)) hL l12
        have b0 := (Q.box1 rfl rfl).c0
        have b1 := (Q.box1 rfl rfl).c1
        have b2 := (Q.box1 rfl rfl).c2
        have bf := (Q.box1 rfl rfl).f
        have e4 := h4 (hd 4 (by simp)); subst e4
        have e6 := (h6 (hd 6 (by simp))).2; subst e6
        have e9 := h9 (hd 9 (by simp)); subst e9
        have e10 := h10 (hd 10 (by simp)); subst e10
        simp only [Act.put, List.setIfInBounds_toArray, List.set_cons_zero, List.set_cons_succ]
        go_simp
        have M' := Q.store1
        exact hK _ _ ⟨v105, v106, v107, v108, _, v104, _, v111, v112, _, _, v18, gl, P7, P8, A1, n1, c1, A2, n2, c2, by simp only [Act.put, List.setIfInBounds_toArray, List.set_cons_zero, List.set_cons_succ], h0, fun e => ⟨(h1 e).1, fun d => absurd d (by simp [hd 4 (by simp)])⟩, h2, h3, h4, h5, h6, h7, h8, h9, h10, h13, fun _ => ⟨hd 4 (by simp), hd 9 (by simp), hd 10 (by simp)⟩, fun _ => rfl, M'.cast (hd 4 (by simp)).symm (hd 9 (by simp)).symm (hd 10 (by simp)).symm rfl l12.symm⟩
      refine Steps.cons [4, 7, 9, 10, 11] rfl (by kernel_rfl) ?p12 ?_
      case p12 =>
        rintro L a' wx hL hd ⟨v105, v106, v107, v108, v109, v104, v110, v111, v112, v16, v17, v18, gl, P7, P8, A1, n1, c1, A2, n2, c2, rfl, h0, h1, h2, h3, h4, h5, h6, h7, h8, h9, h10, h13, hC1, hC2, M⟩ K' hK
        have Q := M.cast (hd 4 (by simp)) (hd 9 (by simp)) (hd 10 (by simp)) (hd 11 (by simp)) hL
        have b0 := (Q.box2 rfl rfl).c0
        have b1 := (Q.box2 rfl rfl).c1
        have b2 := (Q.box2 rfl rfl).c2
        have bf := (Q.box2 rfl rfl).f
        have e4 := h4 (hd 4 (by simp)); subst e4
        have e7 := (h7 (hd 7 (by simp))).2; subst e7
        have e9 := h9 (hd 9 (by simp)); subst e9
        have e10 := h10 (hd 10 (by simp)); subst e10
        simp only [Act.put, List.setIfInBounds_toArray, List.set_cons_zero, List.set_cons_succ]
        go_simp
        have M' := Q.store2
        exact hK _ _ ⟨v105, v106, v107, v108, _, v104, v110, _, v112, _, _, v18, gl, P7, P8, A1, n1, c1, A2, n2, c2, by simp only [Act.put, List.setIfInBounds_toArray, List.set_cons_zero, List.set_cons_succ], h0, fun e => ⟨(h1 e).1, fun d => absurd d (by simp [hd 4 (by simp)])⟩, h2, h3, h4, h5, h6, h7, h8, h9, h10, h13, hC1, fun _ => hd 11 (by simp), M'.cast (hd 4 (by simp)).symm (hd 9 (by simp)).symm (hd 10 (by simp)).symm (hd 11 (by simp)).symm rfl⟩
      refine Steps.cons [8] rfl (by kernel_rfl) ?p13 ?_
      case p13 =>
        rintro L a' wx hL hd ⟨v105, v106, v107, v108, v109, v104, v110, v111, v112, v16, v17, v18, gl, P7, P8, A1, n1, c1, A2, n2, c2, rfl, h0, h1, h2, h3, h4, h5, h6, h7, h8, h9, h10, h13, hC1, hC2, M⟩ K' hK
        have e8 := h8 (hd 8 (by simp)); subst e8
        simp only [Act.put, List.setIfInBounds_toArray, List.set_cons_zero, List.set_cons_succ]
        go_simp
        exact hK _ _ ⟨v105, v106, v107, v108, v109, v104, v110, v111, _, v16, v17, _, gl, P7, P8, A1, n1, c1, A2, n2, c2, by simp only [Act.put, List.setIfInBounds_toArray, List.set_cons_zero, List.set_cons_succ], h0, h1, h2, h3, h4, h5, h6, h7, h8, h9, h10, fun _ => rfl, hC1, hC2, M⟩
      exact Steps.nil
    case hfin =>
      rintro L a' wx hl ⟨v105, v106, v107, v108, v109, v104, v110, v111, v112, v16, v17, v18, gl, P7, P8, A1, n1, c1, A2, n2, c2, rfl, h0, h1, h2, h3, h4, h5, h6, h7, h8, h9, h10, h13, hC1, hC2, M⟩
      have e9 := h9 (hl 9 (by simp)); subst e9
      have e10 := h10 (hl 10 (by simp)); subst e10
      have e13 := h13 (hl 13 (by simp)); subst e13
      have Q := Lib.hid (M.cast (hl 4 (by simp)) (hl 9 (by simp)) (hl 10 (by simp)) (hl 11 (by simp)) (hl 12 (by simp)))
      clear M h0 h1 h2 h3 h4 h5 h6 h7 h8 h9 h10 h13 hC1 hC2
      simp only [Act.put, List.setIfInBounds_toArray, List.set_cons_zero, List.set_cons_succ]
      go_wp2_with fail
      go_meet
      case rel => exact ⟨P7, P8, A1, n1, c1, A2, n2, c2, rfl, rfl, rfl, Q⟩
  case rest =>
  rename World => w16
  obtain ⟨P_h0, P_h1, A_h0, n_h0, c_h0, A_h1, n_h1, c_h1, rfl, rfl, rfl, hM16⟩ := hcut
  have f_h0 := hM16.out.row1 rfl
  have f_h1 := hM16.out.row2 rfl
  have ap_h := hM16.out.ap rfl
  have HB16 : Below w15.heap.size w15 w16 := hM16.out.be
  have hx16 := HB16.size
  have q_h0 : w15.heap.size ≤ P_h0 := by
    have h := hM16.out.at1 rfl
    try simp only [World.size_alloc] at h
    exact h
  have z_h0 := (hM16.out.full1 rfl rfl).lt
  have l_h0 := Lib.hid (show ∀ k, (Value.slice A_h0 n_h0 c_h0).ownBlock = some k → w15.heap.size ≤ k ∧ k < w16.heap.size from fun k e => by
    have h := f_h0.lt k e
    try simp only [World.size_alloc] at h
    exact h)
  have q_h1 : w15.heap.size ≤ P_h1 := by
    have h := hM16.out.at2 rfl
    try simp only [World.size_alloc] at h
    exact h
  have z_h1 := (hM16.out.full2 rfl rfl).lt
  have l_h1 := Lib.hid (show ∀ k, (Value.slice A_h1 n_h1 c_h1).ownBlock = some k → w15.heap.size ≤ k ∧ k < w16.heap.size from fun k e => by
    have h := f_h1.lt k e
    try simp only [World.size_alloc] at h
    exact h)
  have R_h00 := hM16.out.r11 rfl rfl
  have R_h10 := hM16.out.r21 rfl rfl
  have R_h01 := hM16.out.r12 rfl rfl
  have R_h11 := hM16.out.r22 rfl rfl
  have N_h := hM16.out.ne rfl rfl
  replace t0_0 : w16.cell? ⟨w.heap.size, 0, none⟩ = some (.int .i64 z) := (hM16.out.be.cell (p := ⟨w.heap.size, 0, none⟩) (by first | (dsimp only; omega) | (simp only [World.size_alloc]; omega))).trans (by first | exact t0_0 | exact (World.cell?_alloc_lt _ _ _ (by go_size)).trans t0_0 | (rw [World.cell?_alloc_new]; done) | (rw [World.cell?_alloc_new]; rfl))
  replace t0_1 : w16.cell? ⟨w.heap.size, 1, none⟩ = some (.int .i64 y) := (hM16.out.be.cell (p := ⟨w.heap.size, 1, none⟩) (by first | (dsimp only; omega) | (simp only [World.size_alloc]; omega))).trans (by first | exact t0_1 | exact (World.cell?_alloc_lt _ _ _ (by go_size)).trans t0_1 | (rw [World.cell?_alloc_new]; done) | (rw [World.cell?_alloc_new]; rfl))
  replace t0_2 : w16.cell? ⟨w.heap.size, 2, none⟩ = some (.slice A n c) := (hM16.out.be.cell (p := ⟨w.heap.size, 2, none⟩) (by first | (dsimp only; omega) | (simp only [World.size_alloc]; omega))).trans (by first | exact t0_2 | exact (World.cell?_alloc_lt _ _ _ (by go_size)).trans t0_2 | (rw [World.cell?_alloc_new]; done) | (rw [World.cell?_alloc_new]; rfl))
  replace t1_0 : w16.cell? ⟨w.heap.size + 1, 0, none⟩ = some (.bool u) := (hM16.out.be.cell (p := ⟨w.heap.size + 1, 0, none⟩) (by first | (dsimp only; omega) | (simp only [World.size_alloc]; omega))).trans (by first | exact t1_0 | exact (World.cell?_alloc_lt _ _ _ (by go_size)).trans t1_0 | (rw [World.cell?_alloc_new]; done) | (rw [World.cell?_alloc_new]; rfl))
  replace t1_1 : w16.cell? ⟨w.heap.size + 1, 1, none⟩ = some (.int .i64 a) := (hM16.out.be.cell (p := ⟨w.heap.size + 1, 1, none⟩) (by first | (dsimp only; omega) | (simp only [World.size_alloc]; omega))).trans (by first | exact t1_1 | exact (World.cell?_alloc_lt _ _ _ (by go_size)).trans t1_1 | (rw [World.cell?_alloc_new]; done) | (rw [World.cell?_alloc_new]; rfl))
  replace t2_0 : w16.cell? ⟨P_w0, 0, none⟩ = some (.int .i64 (spZ1 z y xs u a)) := (hM16.out.be.cell (p := ⟨P_w0, 0, none⟩) (by first | (dsimp only; omega) | (simp only [World.size_alloc]; omega))).trans (by first | exact t2_0 | exact (World.cell?_alloc_lt _ _ _ (by go_size)).trans t2_0 | (rw [World.cell?_alloc_new]; done) | (rw [World.cell?_alloc_new]; rfl))
  replace t2_1 : w16.cell? ⟨P_w0, 1, none⟩ = some (.int .i64 (spY1 z y xs u a)) := (hM16.out.be.cell (p := ⟨P_w0, 1, none⟩) (by first | (dsimp only; omega) | (simp only [World.size_alloc]; omega))).trans (by first | exact t2_1 | exact (World.cell?_alloc_lt _ _ _ (by go_size)).trans t2_1 | (rw [World.cell?_alloc_new]; done) | (rw [World.cell?_alloc_new]; rfl))
  replace t2_2 : w16.cell? ⟨P_w0, 2, none⟩ = some (.slice A_w0 n_w0 c_w0) := (hM16.out.be.cell (p := ⟨P_w0, 2, none⟩) (by first | (dsimp only; omega) | (simp only [World.size_alloc]; omega))).trans (by first | exact t2_2 | exact (World.cell?_alloc_lt _ _ _ (by go_size)).trans t2_2 | (rw [World.cell?_alloc_new]; done) | (rw [World.cell?_alloc_new]; rfl))
  replace t3_0 : w16.cell? ⟨P_w1, 0, none⟩ = some (.int .i64 (spZ2 z y xs u a)) := (hM16.out.be.cell (p := ⟨P_w1, 0, none⟩) (by first | (dsimp only; omega) | (simp only [World.size_alloc]; omega))).trans (by first | exact t3_0 | exact (World.cell?_alloc_lt _ _ _ (by go_size)).trans t3_0 | (rw [World.cell?_alloc_new]; done) | (rw [World.cell?_alloc_new]; rfl))
  replace t3_1 : w16.cell? ⟨P_w1, 1, none⟩ = some (.int .i64 (spY2 z y xs u a)) := (hM16.out.be.cell (p := ⟨P_w1, 1, none⟩) (by first | (dsimp only; omega) | (simp only [World.size_alloc]; omega))).trans (by first | exact t3_1 | exact (World.cell?_alloc_lt _ _ _ (by go_size)).trans t3_1 | (rw [World.cell?_alloc_new]; done) | (rw [World.cell?_alloc_new]; rfl))
  replace t3_2 : w16.cell? ⟨P_w1, 2, none⟩ = some (.slice A_w1 n_w1 c_w1) := (hM16.out.be.cell (p := ⟨P_w1, 2, none⟩) (by first | (dsimp only; omega) | (simp only [World.size_alloc]; omega))).trans (by first | exact t3_2 | exact (World.cell?_alloc_lt _ _ _ (by go_size)).trans t3_2 | (rw [World.cell?_alloc_new]; done) | (rw [World.cell?_alloc_new]; rfl))
  replace t4_0 : w16.cell? ⟨w3.heap.size, 0, none⟩ = some (.int .i64 z) := (hM16.out.be.cell (p := ⟨w3.heap.size, 0, none⟩) (by first | (dsimp only; omega) | (simp only [World.size_alloc]; omega))).trans (by first | exact t4_0 | exact (World.cell?_alloc_lt _ _ _ (by go_size)).trans t4_0 | (rw [World.cell?_alloc_new]; done) | (rw [World.cell?_alloc_new]; rfl))
  replace t4_1 : w16.cell? ⟨w3.heap.size, 1, none⟩ = some (.int .i64 y) := (hM16.out.be.cell (p := ⟨w3.heap.size, 1, none⟩) (by first | (dsimp only; omega) | (simp only [World.size_alloc]; omega))).trans (by first | exact t4_1 | exact (World.cell?_alloc_lt _ _ _ (by go_size)).trans t4_1 | (rw [World.cell?_alloc_new]; done) | (rw [World.cell?_alloc_new]; rfl))
  replace t4_2 : w16.cell? ⟨w3.heap.size, 2, none⟩ = some (.slice (some ⟨g_x0, 0, none⟩) n n) := (hM16.out.be.cell (p := ⟨w3.heap.size, 2, none⟩) (by first | (dsimp only; omega) | (simp only [World.size_alloc]; omega))).trans (by first | exact t4_2 | exact (World.cell?_alloc_lt _ _ _ (by go_size)).trans t4_2 | (rw [World.cell?_alloc_new]; done) | (rw [World.cell?_alloc_new]; rfl))
  replace t5_0 : w16.cell? ⟨P_g0, 0, none⟩ = some (.int .i64 (spZ1 z y xs u a)) := (hM16.out.be.cell (p := ⟨P_g0, 0, none⟩) (by first | (dsimp only; omega) | (simp only [World.size_alloc]; omega))).trans (by first | exact t5_0 | exact (World.cell?_alloc_lt _ _ _ (by go_size)).trans t5_0 | (rw [World.cell?_alloc_new]; done) | (rw [World.cell?_alloc_new]; rfl))
  replace t5_1 : w16.cell? ⟨P_g0, 1, none⟩ = some (.int .i64 (spY1 z y xs u a)) := (hM16.out.be.cell (p := ⟨P_g0, 1, none⟩) (by first | (dsimp only; omega) | (simp only [World.size_alloc]; omega))).trans (by first | exact t5_1 | exact (World.cell?_alloc_lt _ _ _ (by go_size)).trans t5_1 | (rw [World.cell?_alloc_new]; done) | (rw [World.cell?_alloc_new]; rfl))
  replace t5_2 : w16.cell? ⟨P_g0, 2, none⟩ = some (.slice A_g0 n_g0 c_g0) := (hM16.out.be.cell (p := ⟨P_g0, 2, none⟩) (by first | (dsimp only; omega) | (simp only [World.size_alloc]; omega))).trans (by first | exact t5_2 | exact (World.cell?_alloc_lt _ _ _ (by go_size)).trans t5_2 | (rw [World.cell?_alloc_new]; done) | (rw [World.cell?_alloc_new]; rfl))
  replace t6_0 : w16.cell? ⟨P_g1, 0, none⟩ = some (.int .i64 (spZ2 z y xs u a)) := (hM16.out.be.cell (p := ⟨P_g1, 0, none⟩) (by first | (dsimp only; omega) | (simp only [World.size_alloc]; omega))).trans (by first | exact t6_0 | exact (World.cell?_alloc_lt _ _ _ (by go_size)).trans t6_0 | (rw [World.cell?_alloc_new]; done) | (rw [World.cell?_alloc_new]; rfl))
  replace t6_1 : w16.cell? ⟨P_g1, 1, none⟩ = some (.int .i64 (spY2 z y xs u a)) := (hM16.out.be.cell (p := ⟨P_g1, 1, none⟩) (by first | (dsimp only; omega) | (simp only [World.size_alloc]; omega))).trans (by first | exact t6_1 | exact (World.cell?_alloc_lt _ _ _ (by go_size)).trans t6_1 | (rw [World.cell?_alloc_new]; done) | (rw [World.cell?_alloc_new]; rfl))
  replace t6_2 : w16.cell? ⟨P_g1, 2, none⟩ = some (.slice A_g1 n_g1 c_g1) := (hM16.out.be.cell (p := ⟨P_g1, 2, none⟩) (by first | (dsimp only; omega) | (simp only [World.size_alloc]; omega))).trans (by first | exact t6_2 | exact (World.cell?_alloc_lt _ _ _ (by go_size)).trans t6_2 | (rw [World.cell?_alloc_new]; done) | (rw [World.cell?_alloc_new]; rfl))
  replace f_w0 := f_w0.next HB16
  replace f_w1 := f_w1.next HB16
  replace f_x0 := f_x0.next HB16
  replace f_g0 := f_g0.next HB16
  replace f_g1 := f_g1.next HB16
  replace a_x := a_x.below (HB16.mono (by omega))
  replace HW := HW.trans (HB16.mono (by omega))
  have t7_0 := (hM16.out.full1 rfl rfl).c0
  have t7_1 := (hM16.out.full1 rfl rfl).c1
  have t7_2 := (hM16.out.full1 rfl rfl).c2
  have t8_0 := (hM16.out.full2 rfl rfl).c0
  have t8_1 := (hM16.out.full2 rfl rfl).c1
  have t8_2 := (hM16.out.full2 rfl rfl).c2
  clear hM16 HB16
  go_wp2_with fail
  refine (laws_eqLayout_self _ _ _ _ _ _ _ _ _ _ ((f_h0.rd Pt.len).below' (by go_grown) (by go_size)) ((f_w0.rd Pt.len).below' (by go_grown) (by go_size))).mono ?_
  rintro e w17 ⟨rfl, hb17⟩
  have hy17 := bsize hb17
  try simp at hy17
  have HB17 : Below w16.heap.size w16 w17 := by (repeat' (first | (with_reducible exact Below.refl _ _) | (with_reducible refine Below.setCell ?_ ?_ _) | (with_reducible refine Below.alloc ?_ ?_ _) | (with_reducible refine Below.drew ?_) | (with_reducible refine Below.drewN ?_ _) | (with_reducible refine Below.trans ?_ (Below.mono (by with_reducible assumption) ?_)) | go_size | (dsimp only; omega)))
  have hx17 := HB17.size
  obtain ⟨bc17, bf17, bz17⟩ := bcell hb17 (b := w.heap.size) (by go_size)
  replace t0_0 : w17.cell? ⟨w.heap.size, 0, none⟩ = some (.int .i64 z) := (bc17 0).trans (by first | exact t0_0 | exact (World.cell?_alloc_lt _ _ _ (by go_size)).trans t0_0)
  replace t0_1 : w17.cell? ⟨w.heap.size, 1, none⟩ = some (.int .i64 y) := (bc17 1).trans (by first | exact t0_1 | exact (World.cell?_alloc_lt _ _ _ (by go_size)).trans t0_1)
  replace t0_2 : w17.cell? ⟨w.heap.size, 2, none⟩ = some (.slice A n c) := (bc17 2).trans (by first | exact t0_2 | exact (World.cell?_alloc_lt _ _ _ (by go_size)).trans t0_2)
  clear bc17 bf17
  obtain ⟨bc17, bf17, bz17⟩ := bcell hb17 (b := w.heap.size + 1) (by go_size)
  replace t1_0 : w17.cell? ⟨w.heap.size + 1, 0, none⟩ = some (.bool u) := (bc17 0).trans (by first | exact t1_0 | exact (World.cell?_alloc_lt _ _ _ (by go_size)).trans t1_0)
  replace t1_1 : w17.cell? ⟨w.heap.size + 1, 1, none⟩ = some (.int .i64 a) := (bc17 1).trans (by first | exact t1_1 | exact (World.cell?_alloc_lt _ _ _ (by go_size)).trans t1_1)
  clear bc17 bf17
  obtain ⟨bc17, bf17, bz17⟩ := bcell hb17 (b := P_w0) (by go_size)
  replace t2_0 : w17.cell? ⟨P_w0, 0, none⟩ = some (.int .i64 (spZ1 z y xs u a)) := (bc17 0).trans (by first | exact t2_0 | exact (World.cell?_alloc_lt _ _ _ (by go_size)).trans t2_0)
  replace t2_1 : w17.cell? ⟨P_w0, 1, none⟩ = some (.int .i64 (spY1 z y xs u a)) := (bc17 1).trans (by first | exact t2_1 | exact (World.cell?_alloc_lt _ _ _ (by go_size)).trans t2_1)
  replace t2_2 : w17.cell? ⟨P_w0, 2, none⟩ = some (.slice A_w0 n_w0 c_w0) := (bc17 2).trans (by first | exact t2_2 | exact (World.cell?_alloc_lt _ _ _ (by go_size)).trans t2_2)
  clear bc17 bf17
  obtain ⟨bc17, bf17, bz17⟩ := bcell hb17 (b := P_w1) (by go_size)
  replace t3_0 : w17.cell? ⟨P_w1, 0, none⟩ = some (.int .i64 (spZ2 z y xs u a)) := (bc17 0).trans (by first | exact t3_0 | exact (World.cell?_alloc_lt _ _ _ (by go_size)).trans t3_0)
  replace t3_1 : w17.cell? ⟨P_w1, 1, none⟩ = some (.int .i64 (spY2 z y xs u a)) := (bc17 1).trans (by first | exact t3_1 | exact (World.cell?_alloc_lt _ _ _ (by go_size)).trans t3_1)
  replace t3_2 : w17.cell? ⟨P_w1, 2, none⟩ = some (.slice A_w1 n_w1 c_w1) := (bc17 2).trans (by first | exact t3_2 | exact (World.cell?_alloc_lt _ _ _ (by go_size)).trans t3_2)
  clear bc17 bf17
  obtain ⟨bc17, bf17, bz17⟩ := bcell hb17 (b := w3.heap.size) (by go_size)
  replace t4_0 : w17.cell? ⟨w3.heap.size, 0, none⟩ = some (.int .i64 z) := (bc17 0).trans (by first | exact t4_0 | exact (World.cell?_alloc_lt _ _ _ (by go_size)).trans t4_0)
  replace t4_1 : w17.cell? ⟨w3.heap.size, 1, none⟩ = some (.int .i64 y) := (bc17 1).trans (by first | exact t4_1 | exact (World.cell?_alloc_lt _ _ _ (by go_size)).trans t4_1)
  replace t4_2 : w17.cell? ⟨w3.heap.size, 2, none⟩ = some (.slice (some ⟨g_x0, 0, none⟩) n n) := (bc17 2).trans (by first | exact t4_2 | exact (World.cell?_alloc_lt _ _ _ (by go_size)).trans t4_2)
  clear bc17 bf17
  obtain ⟨bc17, bf17, bz17⟩ := bcell hb17 (b := P_g0) (by go_size)
  replace t5_0 : w17.cell? ⟨P_g0, 0, none⟩ = some (.int .i64 (spZ1 z y xs u a)) := (bc17 0).trans (by first | exact t5_0 | exact (World.cell?_alloc_lt _ _ _ (by go_size)).trans t5_0)
  replace t5_1 : w17.cell? ⟨P_g0, 1, none⟩ = some (.int .i64 (spY1 z y xs u a)) := (bc17 1).trans (by first | exact t5_1 | exact (World.cell?_alloc_lt _ _ _ (by go_size)).trans t5_1)
  replace t5_2 : w17.cell? ⟨P_g0, 2, none⟩ = some (.slice A_g0 n_g0 c_g0) := (bc17 2).trans (by first | exact t5_2 | exact (World.cell?_alloc_lt _ _ _ (by go_size)).trans t5_2)
  clear bc17 bf17
  obtain ⟨bc17, bf17, bz17⟩ := bcell hb17 (b := P_g1) (by go_size)
  replace t6_0 : w17.cell? ⟨P_g1, 0, none⟩ = some (.int .i64 (spZ2 z y xs u a)) := (bc17 0).trans (by first | exact t6_0 | exact (World.cell?_alloc_lt _ _ _ (by go_size)).trans t6_0)
  replace t6_1 : w17.cell? ⟨P_g1, 1, none⟩ = some (.int .i64 (spY2 z y xs u a)) := (bc17 1).trans (by first | exact t6_1 | exact (World.cell?_alloc_lt _ _ _ (by go_size)).trans t6_1)
  replace t6_2 : w17.cell? ⟨P_g1, 2, none⟩ = some (.slice A_g1 n_g1 c_g1) := (bc17 2).trans (by first | exact t6_2 | exact (World.cell?_alloc_lt _ _ _ (by go_size)).trans t6_2)
  clear bc17 bf17
  obtain ⟨bc17, bf17, bz17⟩ := bcell hb17 (b := P_h0) (by go_size)
  replace t7_0 : w17.cell? ⟨P_h0, 0, none⟩ = some (.int .i64 (spZ1 z y xs u a)) := (bc17 0).trans (by first | exact t7_0 | exact (World.cell?_alloc_lt _ _ _ (by go_size)).trans t7_0)
  replace t7_1 : w17.cell? ⟨P_h0, 1, none⟩ = some (.int .i64 (spY1 z y xs u a)) := (bc17 1).trans (by first | exact t7_1 | exact (World.cell?_alloc_lt _ _ _ (by go_size)).trans t7_1)
  replace t7_2 : w17.cell? ⟨P_h0, 2, none⟩ = some (.slice A_h0 n_h0 c_h0) := (bc17 2).trans (by first | exact t7_2 | exact (World.cell?_alloc_lt _ _ _ (by go_size)).trans t7_2)
  clear bc17 bf17
  obtain ⟨bc17, bf17, bz17⟩ := bcell hb17 (b := P_h1) (by go_size)
  replace t8_0 : w17.cell? ⟨P_h1, 0, none⟩ = some (.int .i64 (spZ2 z y xs u a)) := (bc17 0).trans (by first | exact t8_0 | exact (World.cell?_alloc_lt _ _ _ (by go_size)).trans t8_0)
  replace t8_1 : w17.cell? ⟨P_h1, 1, none⟩ = some (.int .i64 (spY2 z y xs u a)) := (bc17 1).trans (by first | exact t8_1 | exact (World.cell?_alloc_lt _ _ _ (by go_size)).trans t8_1)
  replace t8_2 : w17.cell? ⟨P_h1, 2, none⟩ = some (.slice A_h1 n_h1 c_h1) := (bc17 2).trans (by first | exact t8_2 | exact (World.cell?_alloc_lt _ _ _ (by go_size)).trans t8_2)
  clear bc17 bf17
  replace f_w0 := f_w0.next HB17
  replace f_w1 := f_w1.next HB17
  replace f_x0 := f_x0.next HB17
  replace f_g0 := f_g0.next HB17
  replace f_g1 := f_g1.next HB17
  replace f_h0 := f_h0.next HB17
  replace f_h1 := f_h1.next HB17
  replace a_x := a_x.below (HB17.mono (by omega))
  replace HW := HW.trans (HB17.mono (by omega))
  clear hb17 HB17
  go_wp2_with fail
  refine (laws_eqLayout_self _ _ _ _ _ _ _ _ _ _ ((f_h1.rd Pt.len).below' (by go_grown) (by go_size)) ((f_w1.rd Pt.len).below' (by go_grown) (by go_size))).mono ?_
  rintro e w18 ⟨rfl, hb18⟩
  have hy18 := bsize hb18
  try simp at hy18
  have HB18 : Below w17.heap.size w17 w18 := by (repeat' (first | (with_reducible exact Below.refl _ _) | (with_reducible refine Below.setCell ?_ ?_ _) | (with_reducible refine Below.alloc ?_ ?_ _) | (with_reducible refine Below.drew ?_) | (with_reducible refine Below.drewN ?_ _) | (with_reducible refine Below.trans ?_ (Below.mono (by with_reducible assumption) ?_)) | go_size | (dsimp only; omega)))
  have hx18 := HB18.size
  obtain ⟨bc18, bf18, bz18⟩ := bcell hb18 (b := w.heap.size) (by go_size)
  replace t0_0 : w18.cell? ⟨w.heap.size, 0, none⟩ = some (.int .i64 z) := (bc18 0).trans (by first | exact t0_0 | exact (World.cell?_alloc_lt _ _ _ (by go_size)).trans t0_0)
  replace t0_1 : w18.cell? ⟨w.heap.size, 1, none⟩ = some (.int .i64 y) := (bc18 1).trans (by first | exact t0_1 | exact (World.cell?_alloc_lt _ _ _ (by go_size)).trans t0_1)
  replace t0_2 : w18.cell? ⟨w.heap.size, 2, none⟩ = some (.slice A n c) := (bc18 2).trans (by first | exact t0_2 | exact (World.cell?_alloc_lt _ _ _ (by go_size)).trans t0_2)
  clear bc18 bf18
  obtain ⟨bc18, bf18, bz18⟩ := bcell hb18 (b := w.heap.size + 1) (by go_size)
  replace t1_0 : w18.cell? ⟨w.heap.size + 1, 0, none⟩ = some (.bool u) := (bc18 0).trans (by first | exact t1_0 | exact (World.cell?_alloc_lt _ _ _ (by go_size)).trans t1_0)
  replace t1_1 : w18.cell? ⟨w.heap.size + 1, 1, none⟩ = some (.int .i64 a) := (bc18 1).trans (by first | exact t1_1 | exact (World.cell?_alloc_lt _ _ _ (by go_size)).trans t1_1)
  clear bc18 bf18
  obtain ⟨bc18, bf18, bz18⟩ := bcell hb18 (b := P_w0) (by go_size)
  replace t2_0 : w18.cell? ⟨P_w0, 0, none⟩ = some (.int .i64 (spZ1 z y xs u a)) := (bc18 0).trans (by first | exact t2_0 | exact (World.cell?_alloc_lt _ _ _ (by go_size)).trans t2_0)
  replace t2_1 : w18.cell? ⟨P_w0, 1, none⟩ = some (.int .i64 (spY1 z y xs u a)) := (bc18 1).trans (by first | exact t2_1 | exact (World.cell?_alloc_lt _ _ _ (by go_size)).trans t2_1)
  replace t2_2 : w18.cell? ⟨P_w0, 2, none⟩ = some (.slice A_w0 n_w0 c_w0) := (bc18 2).trans (by first | exact t2_2 | exact (World.cell?_alloc_lt _ _ _ (by go_size)).trans t2_2)
  clear bc18 bf18
  obtain ⟨bc18, bf18, bz18⟩ := bcell hb18 (b := P_w1) (by go_size)
  replace t3_0 : w18.cell? ⟨P_w1, 0, none⟩ = some (.int .i64 (spZ2 z y xs u a)) := (bc18 0).trans (by first | exact t3_0 | exact (World.cell?_alloc_lt _ _ _ (by go_size)).trans t3_0)
  replace t3_1 : w18.cell? ⟨P_w1, 1, none⟩ = some (.int .i64 (spY2 z y xs u a)) := (bc18 1).trans (by first | exact t3_1 | exact (World.cell?_alloc_lt _ _ _ (by go_size)).trans t3_1)
  replace t3_2 : w18.cell? ⟨P_w1, 2, none⟩ = some (.slice A_w1 n_w1 c_w1) := (bc18 2).trans (by first | exact t3_2 | exact (World.cell?_alloc_lt _ _ _ (by go_size)).trans t3_2)
  clear bc18 bf18
  obtain ⟨bc18, bf18, bz18⟩ := bcell hb18 (b := w3.heap.size) (by go_size)
  replace t4_0 : w18.cell? ⟨w3.heap.size, 0, none⟩ = some (.int .i64 z) := (bc18 0).trans (by first | exact t4_0 | exact (World.cell?_alloc_lt _ _ _ (by go_size)).trans t4_0)
  replace t4_1 : w18.cell? ⟨w3.heap.size, 1, none⟩ = some (.int .i64 y) := (bc18 1).trans (by first | exact t4_1 | exact (World.cell?_alloc_lt _ _ _ (by go_size)).trans t4_1)
  replace t4_2 : w18.cell? ⟨w3.heap.size, 2, none⟩ = some (.slice (some ⟨g_x0, 0, none⟩) n n) := (bc18 2).trans (by first | exact t4_2 | exact (World.cell?_alloc_lt _ _ _ (by go_size)).trans t4_2)
  clear bc18 bf18
  obtain ⟨bc18, bf18, bz18⟩ := bcell hb18 (b := P_g0) (by go_size)
  replace t5_0 : w18.cell? ⟨P_g0, 0, none⟩ = some (.int .i64 (spZ1 z y xs u a)) := (bc18 0).trans (by first | exact t5_0 | exact (World.cell?_alloc_lt _ _ _ (by go_size)).trans t5_0)
  replace t5_1 : w18.cell? ⟨P_g0, 1, none⟩ = some (.int .i64 (spY1 z y xs u a)) := (bc18 1).trans (by first | exact t5_1 | exact (World.cell?_alloc_lt _ _ _ (by go_size)).trans t5_1)
  replace t5_2 : w18.cell? ⟨P_g0, 2, none⟩ = some (.slice A_g0 n_g0 c_g0) := (bc18 2).trans (by first | exact t5_2 | exact (World.cell?_alloc_lt _ _ _ (by go_size)).trans t5_2)
  clear bc18 bf18
  obtain ⟨bc18, bf18, bz18⟩ := bcell hb18 (b := P_g1) (by go_size)
  replace t6_0 : w18.cell? ⟨P_g1, 0, none⟩ = some (.int .i64 (spZ2 z y xs u a)) := (bc18 0).trans (by first | exact t6_0 | exact (World.cell?_alloc_lt _ _ _ (by go_size)).trans t6_0)
  replace t6_1 : w18.cell? ⟨P_g1, 1, none⟩ = some (.int .i64 (spY2 z y xs u a)) := (bc18 1).trans (by first | exact t6_1 | exact (World.cell?_alloc_lt _ _ _ (by go_size)).trans t6_1)
  replace t6_2 : w18.cell? ⟨P_g1, 2, none⟩ = some (.slice A_g1 n_g1 c_g1) := (bc18 2).trans (by first | exact t6_2 | exact (World.cell?_alloc_lt _ _ _ (by go_size)).trans t6_2)
  clear bc18 bf18
  obtain ⟨bc18, bf18, bz18⟩ := bcell hb18 (b := P_h0) (by go_size)
  replace t7_0 : w18.cell? ⟨P_h0, 0, none⟩ = some (.int .i64 (spZ1 z y xs u a)) := (bc18 0).trans (by first | exact t7_0 | exact (World.cell?_alloc_lt _ _ _ (by go_size)).trans t7_0)
  replace t7_1 : w18.cell? ⟨P_h0, 1, none⟩ = some (.int .i64 (spY1 z y xs u a)) := (bc18 1).trans (by first | exact t7_1 | exact (World.cell?_alloc_lt _ _ _ (by go_size)).trans t7_1)
  replace t7_2 : w18.cell? ⟨P_h0, 2, none⟩ = some (.slice A_h0 n_h0 c_h0) := (bc18 2).trans (by first | exact t7_2 | exact (World.cell?_alloc_lt _ _ _ (by go_size)).trans t7_2)
  clear bc18 bf18
  obtain ⟨bc18, bf18, bz18⟩ := bcell hb18 (b := P_h1) (by go_size)
  replace t8_0 : w18.cell? ⟨P_h1, 0, none⟩ = some (.int .i64 (spZ2 z y xs u a)) := (bc18 0).trans (by first | exact t8_0 | exact (World.cell?_alloc_lt _ _ _ (by go_size)).trans t8_0)
  replace t8_1 : w18.cell? ⟨P_h1, 1, none⟩ = some (.int .i64 (spY2 z y xs u a)) := (bc18 1).trans (by first | exact t8_1 | exact (World.cell?_alloc_lt _ _ _ (by go_size)).trans t8_1)
  replace t8_2 : w18.cell? ⟨P_h1, 2, none⟩ = some (.slice A_h1 n_h1 c_h1) := (bc18 2).trans (by first | exact t8_2 | exact (World.cell?_alloc_lt _ _ _ (by go_size)).trans t8_2)
  clear bc18 bf18
  replace f_w0 := f_w0.next HB18
  replace f_w1 := f_w1.next HB18
  replace f_x0 := f_x0.next HB18
  replace f_g0 := f_g0.next HB18
  replace f_g1 := f_g1.next HB18
  replace f_h0 := f_h0.next HB18
  replace f_h1 := f_h1.next HB18
  replace a_x := a_x.below (HB18.mono (by omega))
  replace HW := HW.trans (HB18.mono (by omega))
  clear hb18 HB18
  go_wp2_with fail
  refine (laws_heldLayoutK _ _ _ _ _ _ _ ((f_g0.rd Pt.len).below' (by go_grown) (by go_size)) (by omega) (by omega)).mono ?_
  rintro e w19 ⟨rfl, hb19⟩
  have hy19 := bsize hb19
  try simp at hy19
  have HB19 : Below w18.heap.size w18 w19 := by (repeat' (first | (with_reducible exact Below.refl _ _) | (with_reducible refine Below.setCell ?_ ?_ _) | (with_reducible refine Below.alloc ?_ ?_ _) | (with_reducible refine Below.drew ?_) | (with_reducible refine Below.drewN ?_ _) | (with_reducible refine Below.trans ?_ (Below.mono (by with_reducible assumption) ?_)) | go_size | (dsimp only; omega)))
  have hx19 := HB19.size
  obtain ⟨bc19, bf19, bz19⟩ := bcell hb19 (b := w.heap.size) (by go_size)
  replace t0_0 : w19.cell? ⟨w.heap.size, 0, none⟩ = some (.int .i64 z) := (bc19 0).trans (by first | exact t0_0 | exact (World.cell?_alloc_lt _ _ _ (by go_size)).trans t0_0)
  replace t0_1 : w19.cell? ⟨w.heap.size, 1, none⟩ = some (.int .i64 y) := (bc19 1).trans (by first | exact t0_1 | exact (World.cell?_alloc_lt _ _ _ (by go_size)).trans t0_1)
  replace t0_2 : w19.cell? ⟨w.heap.size, 2, none⟩ = some (.slice A n c) := (bc19 2).trans (by first | exact t0_2 | exact (World.cell?_alloc_lt _ _ _ (by go_size)).trans t0_2)
  clear bc19 bf19
  obtain ⟨bc19, bf19, bz19⟩ := bcell hb19 (b := w.heap.size + 1) (by go_size)
  replace t1_0 : w19.cell? ⟨w.heap.size + 1, 0, none⟩ = some (.bool u) := (bc19 0).trans (by first | exact t1_0 | exact (World.cell?_alloc_lt _ _ _ (by go_size)).trans t1_0)
  replace t1_1 : w19.cell? ⟨w.heap.size + 1, 1, none⟩ = some (.int .i64 a) := (bc19 1).trans (by first | exact t1_1 | exact (World.cell?_alloc_lt _ _ _ (by go_size)).trans t1_1)
  clear bc19 bf19
  obtain ⟨bc19, bf19, bz19⟩ := bcell hb19 (b := P_w0) (by go_size)
  replace t2_0 : w19.cell? ⟨P_w0, 0, none⟩ = some (.int .i64 (spZ1 z y xs u a)) := (bc19 0).trans (by first | exact t2_0 | exact (World.cell?_alloc_lt _ _ _ (by go_size)).trans t2_0)
  replace t2_1 : w19.cell? ⟨P_w0, 1, none⟩ = some (.int .i64 (spY1 z y xs u a)) := (bc19 1).trans (by first | exact t2_1 | exact (World.cell?_alloc_lt _ _ _ (by go_size)).trans t2_1)
  replace t2_2 : w19.cell? ⟨P_w0, 2, none⟩ = some (.slice A_w0 n_w0 c_w0) := (bc19 2).trans (by first | exact t2_2 | exact (World.cell?_alloc_lt _ _ _ (by go_size)).trans t2_2)
  clear bc19 bf19
  obtain ⟨bc19, bf19, bz19⟩ := bcell hb19 (b := P_w1) (by go_size)
  replace t3_0 : w19.cell? ⟨P_w1, 0, none⟩ = some (.int .i64 (spZ2 z y xs u a)) := (bc19 0).trans (by first | exact t3_0 | exact (World.cell?_alloc_lt _ _ _ (by go_size)).trans t3_0)
  replace t3_1 : w19.cell? ⟨P_w1, 1, none⟩ = some (.int .i64 (spY2 z y xs u a)) := (bc19 1).trans (by first | exact t3_1 | exact (World.cell?_alloc_lt _ _ _ (by go_size)).trans t3_1)
  replace t3_2 : w19.cell? ⟨P_w1, 2, none⟩ = some (.slice A_w1 n_w1 c_w1) := (bc19 2).trans (by first | exact t3_2 | exact (World.cell?_alloc_lt _ _ _ (by go_size)).trans t3_2)
  clear bc19 bf19
  obtain ⟨bc19, bf19, bz19⟩ := bcell hb19 (b := w3.heap.size) (by go_size)
  replace t4_0 : w19.cell? ⟨w3.heap.size, 0, none⟩ = some (.int .i64 z) := (bc19 0).trans (by first | exact t4_0 | exact (World.cell?_alloc_lt _ _ _ (by go_size)).trans t4_0)
  replace t4_1 : w19.cell? ⟨w3.heap.size, 1, none⟩ = some (.int .i64 y) := (bc19 1).trans (by first | exact t4_1 | exact (World.cell?_alloc_lt _ _ _ (by go_size)).trans t4_1)
  replace t4_2 : w19.cell? ⟨w3.heap.size, 2, none⟩ = some (.slice (some ⟨g_x0, 0, none⟩) n n) := (bc19 2).trans (by first | exact t4_2 | exact (World.cell?_alloc_lt _ _ _ (by go_size)).trans t4_2)
  clear bc19 bf19
  obtain ⟨bc19, bf19, bz19⟩ := bcell hb19 (b := P_g0) (by go_size)
  replace t5_0 : w19.cell? ⟨P_g0, 0, none⟩ = some (.int .i64 (spZ1 z y xs u a)) := (bc19 0).trans (by first | exact t5_0 | exact (World.cell?_alloc_lt _ _ _ (by go_size)).trans t5_0)
  replace t5_1 : w19.cell? ⟨P_g0, 1, none⟩ = some (.int .i64 (spY1 z y xs u a)) := (bc19 1).trans (by first | exact t5_1 | exact (World.cell?_alloc_lt _ _ _ (by go_size)).trans t5_1)
  replace t5_2 : w19.cell? ⟨P_g0, 2, none⟩ = some (.slice A_g0 n_g0 c_g0) := (bc19 2).trans (by first | exact t5_2 | exact (World.cell?_alloc_lt _ _ _ (by go_size)).trans t5_2)
  clear bc19 bf19
  obtain ⟨bc19, bf19, bz19⟩ := bcell hb19 (b := P_g1) (by go_size)
  replace t6_0 : w19.cell? ⟨P_g1, 0, none⟩ = some (.int .i64 (spZ2 z y xs u a)) := (bc19 0).trans (by first | exact t6_0 | exact (World.cell?_alloc_lt _ _ _ (by go_size)).trans t6_0)
  replace t6_1 : w19.cell? ⟨P_g1, 1, none⟩ = some (.int .i64 (spY2 z y xs u a)) := (bc19 1).trans (by first | exact t6_1 | exact (World.cell?_alloc_lt _ _ _ (by go_size)).trans t6_1)
  replace t6_2 : w19.cell? ⟨P_g1, 2, none⟩ = some (.slice A_g1 n_g1 c_g1) := (bc19 2).trans (by first | exact t6_2 | exact (World.cell?_alloc_lt _ _ _ (by go_size)).trans t6_2)
  clear bc19 bf19
  obtain ⟨bc19, bf19, bz19⟩ := bcell hb19 (b := P_h0) (by go_size)
  replace t7_0 : w19.cell? ⟨P_h0, 0, none⟩ = some (.int .i64 (spZ1 z y xs u a)) := (bc19 0).trans (by first | exact t7_0 | exact (World.cell?_alloc_lt _ _ _ (by go_size)).trans t7_0)
  replace t7_1 : w19.cell? ⟨P_h0, 1, none⟩ = some (.int .i64 (spY1 z y xs u a)) := (bc19 1).trans (by first | exact t7_1 | exact (World.cell?_alloc_lt _ _ _ (by go_size)).trans t7_1)
  replace t7_2 : w19.cell? ⟨P_h0, 2, none⟩ = some (.slice A_h0 n_h0 c_h0) := (bc19 2).trans (by first | exact t7_2 | exact (World.cell?_alloc_lt _ _ _ (by go_size)).trans t7_2)
  clear bc19 bf19
  obtain ⟨bc19, bf19, bz19⟩ := bcell hb19 (b := P_h1) (by go_size)
  replace t8_0 : w19.cell? ⟨P_h1, 0, none⟩ = some (.int .i64 (spZ2 z y xs u a)) := (bc19 0).trans (by first | exact t8_0 | exact (World.cell?_alloc_lt _ _ _ (by go_size)).trans t8_0)
  replace t8_1 : w19.cell? ⟨P_h1, 1, none⟩ = some (.int .i64 (spY2 z y xs u a)) := (bc19 1).trans (by first | exact t8_1 | exact (World.cell?_alloc_lt _ _ _ (by go_size)).trans t8_1)
  replace t8_2 : w19.cell? ⟨P_h1, 2, none⟩ = some (.slice A_h1 n_h1 c_h1) := (bc19 2).trans (by first | exact t8_2 | exact (World.cell?_alloc_lt _ _ _ (by go_size)).trans t8_2)
  clear bc19 bf19
  replace f_w0 := f_w0.next HB19
  replace f_w1 := f_w1.next HB19
  replace f_x0 := f_x0.next HB19
  replace f_g0 := f_g0.next HB19
  replace f_g1 := f_g1.next HB19
  replace f_h0 := f_h0.next HB19
  replace f_h1 := f_h1.next HB19
  replace a_x := a_x.below (HB19.mono (by omega))
  replace HW := HW.trans (HB19.mono (by omega))
  clear hb19 HB19
  go_wp2_with fail
  refine (laws_heldLayoutK _ _ _ _ _ _ _ ((f_g1.rd Pt.len).below' (by go_grown) (by go_size)) (by omega) (by have := f_g0.1; omega)).mono ?_
  rintro e w20 ⟨rfl, hb20⟩
  have hy20 := bsize hb20
  try simp at hy20
  have HB20 : Below w19.heap.size w19 w20 := by (repeat' (first | (with_reducible exact Below.refl _ _) | (with_reducible refine Below.setCell ?_ ?_ _) | (with_reducible refine Below.alloc ?_ ?_ _) | (with_reducible refine Below.drew ?_) | (with_reducible refine Below.drewN ?_ _) | (with_reducible refine Below.trans ?_ (Below.mono (by with_reducible assumption) ?_)) | go_size | (dsimp only; omega)))
  have hx20 := HB20.size
  obtain ⟨bc20, bf20, bz20⟩ := bcell hb20 (b := w.heap.size) (by go_size)
  replace t0_0 : w20.cell? ⟨w.heap.size, 0, none⟩ = some (.int .i64 z) := (bc20 0).trans (by first | exact t0_0 | exact (World.cell?_alloc_lt _ _ _ (by go_size)).trans t0_0)
  replace t0_1 : w20.cell? ⟨w.heap.size, 1, none⟩ = some (.int .i64 y) := (bc20 1).trans (by first | exact t0_1 | exact (World.cell?_alloc_lt _ _ _ (by go_size)).trans t0_1)
  replace t0_2 : w20.cell? ⟨w.heap.size, 2, none⟩ = some (.slice A n c) := (bc20 2).trans (by first | exact t0_2 | exact (World.cell?_alloc_lt _ _ _ (by go_size)).trans t0_2)
  clear bc20 bf20
  obtain ⟨bc20, bf20, bz20⟩ := bcell hb20 (b := w.heap.size + 1) (by go_size)
  replace t1_0 : w20.cell? ⟨w.heap.size + 1, 0, none⟩ = some (.bool u) := (bc20 0).trans (by first | exact t1_0 | exact (World.cell?_alloc_lt _ _ _ (by go_size)).trans t1_0)
  replace t1_1 : w20.cell? ⟨w.heap.size + 1, 1, none⟩ = some (.int .i64 a) := (bc20 1).trans (by first | exact t1_1 | exact (World.cell?_alloc_lt _ _ _ (by go_size)).trans t1_1)
  clear bc20 bf20
  obtain ⟨bc20, bf20, bz20⟩ := bcell hb20 (b := P_w0) (by go_size)
  replace t2_0 : w20.cell? ⟨P_w0, 0, none⟩ = some (.int .i64 (spZ1 z y xs u a)) := (bc20 0).trans (by first | exact t2_0 | exact (World.cell?_alloc_lt _ _ _ (by go_size)).trans t2_0)
  replace t2_1 : w20.cell? ⟨P_w0, 1, none⟩ = some (.int .i64 (spY1 z y xs u a)) := (bc20 1).trans (by first | exact t2_1 | exact (World.cell?_alloc_lt _ _ _ (by go_size)).trans t2_1)
  replace t2_2 : w20.cell? ⟨P_w0, 2, none⟩ = some (.slice A_w0 n_w0 c_w0) := (bc20 2).trans (by first | exact t2_2 | exact (World.cell?_alloc_lt _ _ _ (by go_size)).trans t2_2)
  clear bc20 bf20
  obtain ⟨bc20, bf20, bz20⟩ := bcell hb20 (b := P_w1) (by go_size)
  replace t3_0 : w20.cell? ⟨P_w1, 0, none⟩ = some (.int .i64 (spZ2 z y xs u a)) := (bc20 0).trans (by first | exact t3_0 | exact (World.cell?_alloc_lt _ _ _ (by go_size)).trans t3_0)
  replace t3_1 : w20.cell? ⟨P_w1, 1, none⟩ = some (.int .i64 (spY2 z y xs u a)) := (bc20 1).trans (by first | exact t3_1 | exact (World.cell?_alloc_lt _ _ _ (by go_size)).trans t3_1)
  replace t3_2 : w20.cell? ⟨P_w1, 2, none⟩ = some (.slice A_w1 n_w1 c_w1) := (bc20 2).trans (by first | exact t3_2 | exact (World.cell?_alloc_lt _ _ _ (by go_size)).trans t3_2)
  clear bc20 bf20
  obtain ⟨bc20, bf20, bz20⟩ := bcell hb20 (b := w3.heap.size) (by go_size)
  replace t4_0 : w20.cell? ⟨w3.heap.size, 0, none⟩ = some (.int .i64 z) := (bc20 0).trans (by first | exact t4_0 | exact (World.cell?_alloc_lt _ _ _ (by go_size)).trans t4_0)
  replace t4_1 : w20.cell? ⟨w3.heap.size, 1, none⟩ = some (.int .i64 y) := (bc20 1).trans (by first | exact t4_1 | exact (World.cell?_alloc_lt _ _ _ (by go_size)).trans t4_1)
  replace t4_2 : w20.cell? ⟨w3.heap.size, 2, none⟩ = some (.slice (some ⟨g_x0, 0, none⟩) n n) := (bc20 2).trans (by first | exact t4_2 | exact (World.cell?_alloc_lt _ _ _ (by go_size)).trans t4_2)
  clear bc20 bf20
  obtain ⟨bc20, bf20, bz20⟩ := bcell hb20 (b := P_g0) (by go_size)
  replace t5_0 : w20.cell? ⟨P_g0, 0, none⟩ = some (.int .i64 (spZ1 z y xs u a)) := (bc20 0).trans (by first | exact t5_0 | exact (World.cell?_alloc_lt _ _ _ (by go_size)).trans t5_0)
  replace t5_1 : w20.cell? ⟨P_g0, 1, none⟩ = some (.int .i64 (spY1 z y xs u a)) := (bc20 1).trans (by first | exact t5_1 | exact (World.cell?_alloc_lt _ _ _ (by go_size)).trans t5_1)
  replace t5_2 : w20.cell? ⟨P_g0, 2, none⟩ = some (.slice A_g0 n_g0 c_g0) := (bc20 2).trans (by first | exact t5_2 | exact (World.cell?_alloc_lt _ _ _ (by go_size)).trans t5_2)
  clear bc20 bf20
  obtain ⟨bc20, bf20, bz20⟩ := bcell hb20 (b := P_g1) (by go_size)
  replace t6_0 : w20.cell? ⟨P_g1, 0, none⟩ = some (.int .i64 (spZ2 z y xs u a)) := (bc20 0).trans (by first | exact t6_0 | exact (World.cell?_alloc_lt _ _ _ (by go_size)).trans t6_0)
  replace t6_1 : w20.cell? ⟨P_g1, 1, none⟩ = some (.int .i64 (spY2 z y xs u a)) := (bc20 1).trans (by first | exact t6_1 | exact (World.cell?_alloc_lt _ _ _ (by go_size)).trans t6_1)
  replace t6_2 : w20.cell? ⟨P_g1, 2, none⟩ = some (.slice A_g1 n_g1 c_g1) := (bc20 2).trans (by first | exact t6_2 | exact (World.cell?_alloc_lt _ _ _ (by go_size)).trans t6_2)
  clear bc20 bf20
  obtain ⟨bc20, bf20, bz20⟩ := bcell hb20 (b := P_h0) (by go_size)
  replace t7_0 : w20.cell? ⟨P_h0, 0, none⟩ = some (.int .i64 (spZ1 z y xs u a)) := (bc20 0).trans (by first | exact t7_0 | exact (World.cell?_alloc_lt _ _ _ (by go_size)).trans t7_0)
  replace t7_1 : w20.cell? ⟨P_h0, 1, none⟩ = some (.int .i64 (spY1 z y xs u a)) := (bc20 1).trans (by first | exact t7_1 | exact (World.cell?_alloc_lt _ _ _ (by go_size)).trans t7_1)
  replace t7_2 : w20.cell? ⟨P_h0, 2, none⟩ = some (.slice A_h0 n_h0 c_h0) := (bc20 2).trans (by first | exact t7_2 | exact (World.cell?_alloc_lt _ _ _ (by go_size)).trans t7_2)
  clear bc20 bf20
  obtain ⟨bc20, bf20, bz20⟩ := bcell hb20 (b := P_h1) (by go_size)
  replace t8_0 : w20.cell? ⟨P_h1, 0, none⟩ = some (.int .i64 (spZ2 z y xs u a)) := (bc20 0).trans (by first | exact t8_0 | exact (World.cell?_alloc_lt _ _ _ (by go_size)).trans t8_0)
  replace t8_1 : w20.cell? ⟨P_h1, 1, none⟩ = some (.int .i64 (spY2 z y xs u a)) := (bc20 1).trans (by first | exact t8_1 | exact (World.cell?_alloc_lt _ _ _ (by go_size)).trans t8_1)
  replace t8_2 : w20.cell? ⟨P_h1, 2, none⟩ = some (.slice A_h1 n_h1 c_h1) := (bc20 2).trans (by first | exact t8_2 | exact (World.cell?_alloc_lt _ _ _ (by go_size)).trans t8_2)
  clear bc20 bf20
  replace f_w0 := f_w0.next HB20
  replace f_w1 := f_w1.next HB20
  replace f_x0 := f_x0.next HB20
  replace f_g0 := f_g0.next HB20
  replace f_g1 := f_g1.next HB20
  replace f_h0 := f_h0.next HB20
  replace f_h1 := f_h1.next HB20
  replace a_x := a_x.below (HB20.mono (by omega))
  replace HW := HW.trans (HB20.mono (by omega))
  clear hb20 HB20
  go_wp2
  go_ret
  refine ⟨rfl, ?_⟩
  (repeat' (first | (with_reducible exact Below.refl _ _) | (with_reducible exact HW) | (with_reducible refine Below.setCell ?_ ?_ _) | (with_reducible refine Below.alloc ?_ ?_ _) | (with_reducible refine Below.drew ?_) | (with_reducible refine Below.drewN ?_ _) | (with_reducible refine Below.trans ?_ (Below.mono (by with_reducible assumption) ?_)) | go_size | (dsimp only; omega)))

set_option maxHeartbeats 400000 in
theorem walk_FnExactSplitLayout_big (z y : Int) (A : Option Addr) (n c : Nat) (xs : List Pt) (u : Bool) (a : Int) (w : World) (hb : 1048576 < n) (hm : n ≤ 9223372036854775807) :
    Calls Try.prog 11 #[.agg #[.int .i64 z, .int .i64 y, .slice A n c], .agg #[.bool u, .int .i64 a]] w fun e w' => e = .returned (.bool true) ∧ Below w.heap.size w w' := by
  have hsz := szB_big hb
  go_enter Try.func11, Try.ntmps11
  go_wp2_with (go_at_call 47; refine (laws_szLayout _ _ _ _ _ _ hm).mono ?_; rintro e w1 ⟨rfl, hb1⟩)
  go_ret
  refine ⟨rfl, ?_⟩
  (repeat' (first | (with_reducible exact Below.refl _ _) | (with_reducible refine Below.setCell ?_ ?_ _) | (with_reducible refine Below.alloc ?_ ?_ _) | (with_reducible refine Below.drew ?_) | (with_reducible refine Below.drewN ?_ _) | (with_reducible refine Below.trans ?_ (Below.mono (by with_reducible assumption) ?_)) | go_size | (dsimp only; omega)))

theorem walk_FnExactSplitLayout (z y : Int) (A : Option Addr) (n c : Nat) (xs : List Pt) (u : Bool) (a : Int) (w : World) (hz : I64 z) (hy : I64 y) (h : ArgP w A n xs) (ha : I64 a) :
    Calls Try.prog 11 #[.agg #[.int .i64 z, .int .i64 y, .slice A n c], .agg #[.bool u, .int .i64 a]] w fun e w' => e = .returned (.bool true) ∧ Below w.heap.size w w' := by
  by_cases hb : n ≤ 1048576
  · exact walk_FnExactSplitLayout_small z y A n c xs u a w hz hy (h.2 (by omega)) hb ha
  · exact walk_FnExactSplitLayout_big z y A n c xs u a w (by omega) (by have := h.1; unfold maxLen at this; omega)

end Go.Proofs.Ytlcllpgbpjdofaa
