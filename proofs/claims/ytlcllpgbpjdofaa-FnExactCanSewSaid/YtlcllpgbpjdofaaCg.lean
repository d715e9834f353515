/- Walk of FirstKnot, the program's side. No condition. -/
import Derived.Test.YtlcllpgbpjdofaaCf
set_option linter.unusedSimpArgs false
set_option linter.unusedVariables false
set_option maxRecDepth 100000
namespace Go.Proofs.Ytlcllpgbpjdofaa
open Go.RowKit

set_option maxRecDepth 100000 in
set_option maxHeartbeats 40000000 in
theorem impl_FirstKnot : ∀ (f : Nat) (z y : Int) (A : Option Addr) (n c : Nat) (ps : List Pt) (w : World) (h : RdP w w.heap.size A n ps) (hf : (z + y).toNat ≤ f),
    Calls Try.prog 101 #[.agg #[.int .i64 z, .int .i64 y, .slice A n c]] w fun e w' => ∃ z' y' A' n' c', e = .returned (.tuple #[.agg #[.int .i64 z', .int .i64 y', .slice A' n' c'], .bool (knotB f z y ps)]) ∧ Below w.heap.size w w' := by
  intro f
  induction f with
  | zero =>
    intro z y A n c ps w h hf
    cases hbk : layB z y ps with
    | true => have := lay_pos hbk; omega
    | false =>
      refine (impl_FirstKnot_no z y A n c ps w h (.inl hbk)).mono ?_
      rintro e w' ⟨rfl, hb⟩
      exact ⟨0, 0, none, 0, 0, rfl, hb⟩
  | succ f ih =>
    intro z y A n c ps w h hf
    have hs := lt2
    have IH := Lib.hid ih
    clear ih
    by_cases hno : layB z y ps = false ∨ n = 1
    · refine (impl_FirstKnot_no z y A n c ps w h hno).mono ?_
      rintro e w' ⟨rfl, hb⟩
      exact ⟨0, 0, none, 0, 0, by rw [knotB, if_pos (by rw [h.1]; exact hno)], hb⟩
    · have hbk : layB z y ps = true := by
        cases hb : layB z y ps with
        | true => rfl
        | false => exact absurd (.inl hb) hno
      have h1 : n ≠ 1 := fun e => hno (.inr e)
      have HNO := Lib.hid hno
      obtain ⟨_, _, _, _, hn1', hn2'⟩ := dimOk_t (layB_p hbk).1
      have HL := Lib.hid h.1
      rw [HL.out] at hn1' hn2'
      have HK := Lib.hid hbk
      obtain ⟨g, off, rfl, _, _⟩ := h.2.2 (show 0 < n by omega)
      have H := Lib.hid h
      clear h hbk hno
      have hq1 : ((n : Int) == 1) = false := by simp; omega
      have BP0 := Lib.hid ((Box3.mk_ w z y (some ⟨g, off, none⟩) n c 29).next ((Below.refl _ _).alloc (Nat.le_refl _) (.cells #[.int .i64 0, .int .i64 0, .slice none 0 0] 29)))
      have BR0 := Box3.mk_ (w.alloc (.cells #[.int .i64 z, .int .i64 y, .slice (some ⟨g, off, none⟩) n c] 29)) 0 0 none 0 0 29
      rw [World.size_alloc] at BR0
      have BR0 := Lib.hid BR0
      have BW0 := Lib.hid (((Below.refl w.heap.size w).alloc (Nat.le_refl _) (.cells #[.int .i64 z, .int .i64 y, .slice (some ⟨g, off, none⟩) n c] 29)).alloc (by simp) (.cells #[.int .i64 0, .int .i64 0, .slice none 0 0] 29))
      go_enter Try.func101, Try.ntmps101
      go_wp2_with fail
      refine (impl_LayoutOk _ _ _ _ _ ps _ (H.out.below' (by go_grown) (by go_size))).mono ?_
      rintro e w1 ⟨rfl, hb1⟩
      rw [HK.out]
      have BP1 := Lib.hid (BP0.out.next hb1)
      have BR1 := Lib.hid (BR0.out.next hb1)
      have BW1 := Lib.hid (BW0.out.trans (hb1.mono BW0.out.size))
      have hx1 := hb1.size
      simp only [World.size_alloc] at hx1
      clear hb1
      have p0 := BP1.out.c0
      have p1 := BP1.out.c1
      have p2 := BP1.out.c2
      go_wp2_with fail
      refine (impl_CutsOf _ _ _ _ _ ps _ (H.out.below' BW1.out (by omega))).mono ?_
      rintro e w2 ⟨A3, nk, ck, rfl, ho2, hb2⟩
      clear p0 p1 p2
      have BP2 := Lib.hid (BP1.out.next hb2)
      have BR2 := Lib.hid (BR1.out.next hb2)
      have BW2 := Lib.hid (BW1.out.trans (hb2.mono BW1.out.size))
      have hx2 := hb2.size
      have HN3 := Lib.hid ho2.len
      have HO2 := Lib.hid ho2
      clear hb2 ho2 BP0 BP1 BR0 BR1 BW0 BW1
      have p0 := BP2.out.c0
      have p1 := BP2.out.c1
      have p2 := BP2.out.c2
      by_cases h3 : nk = 0
      · have HS := Lib.hid (show knotB (f + 1) z y ps = true by rw [knotB, if_neg (by rw [HL.out]; exact HNO.out), if_pos (by rw [HN3.out]; exact h3)])
        subst h3
        go_upto_region 5 with fail
        refine wp_region_steps (fun a0 L a' wx => ∃ (v24 v25 v26 v27 v28 v29 v30 v31 v32 v3 : Value) (N g5 c5 : Nat), a' = ((((((((((a0.put (some 24) v24).put (some 25) v25).put (some 26) v26).put (some 27) v27).put (some 28) v28).put (some 29) v29).put (some 30) v30).put (some 31) v31).put (some 32) v32).put (some 3) v3) ∧
                (L 0 = true → v24 = .pointer (some ⟨w.heap.size, 0, none⟩)) ∧
                (L 1 = true → v25 = .int .i64 z) ∧
                (L 2 = true → v26 = .pointer (some ⟨w.heap.size, 1, none⟩)) ∧
                (L 3 = true → v27 = .int .i64 y) ∧
                (L 4 = true → v28 = .slice (some ⟨N, 0, none⟩) 0 0 ∧ (L 7 = false → OwnP wx w2.heap.size (some ⟨N, 0, none⟩) 0 0 [])) ∧
                (L 5 = true → v29 = .pointer (some ⟨w.heap.size, 2, none⟩)) ∧
                (L 6 = true → v30 = .slice (some ⟨g, off, none⟩) n c) ∧
                (L 7 = true → v31 = .slice (some ⟨g5, 0, none⟩) n c5) ∧
                (L 8 = true → L 7 = true ∧ v32 = .agg #[.int .i64 z, .int .i64 y, .slice (some ⟨g5, 0, none⟩) n c5]) ∧
                (L 10 = true → v3 = .bool true) ∧
                (L 9 = false → Box3 wx (w.heap.size + 1) 0 0 none 0 0) ∧
                (L 9 = true → L 7 = true ∧ Box3 wx (w.heap.size + 1) z y (some ⟨g5, 0, none⟩) n c5) ∧
                Below (w.heap.size + 1) w2 wx) [0, 1, 2, 3, 4, 5, 6, 7, 8, 9, 10] (by kernel_rfl) (by kernel_rfl) (by kernel_rfl) ?h0 ?hs ?hfin
        case h0 =>
          refine ⟨?_, ?_, ?_, ?_, ?_, ?_, ?_, ?_, ?_, ?_, 0, 0, 0, ?eq, nofun, nofun, nofun, nofun, nofun, nofun, nofun, nofun, nofun, nofun, fun _ => BR2.out.next (Below.refl _ _).drew, nofun, (Below.refl _ _).drew⟩
          case eq =>
            simp only [Act.put, List.setIfInBounds_toArray, List.set_cons_zero, List.set_cons_succ]
            try rfl
        case hs =>
          refine Steps.cons [] rfl (by kernel_rfl) ?p0 ?_
          case p0 =>
            rintro L a' wx hL hd ⟨v24, v25, v26, v27, v28, v29, v30, v31, v32, v3, N, g5, c5, rfl, h0, h1, h2, h3, h4, h5, h6, h7, h8, h10, hB, hD, be⟩ K' hK
            simp only [Act.put, List.setIfInBounds_toArray, List.set_cons_zero, List.set_cons_succ]
            go_simp
            exact hK _ _ ⟨_, v25, v26, v27, v28, v29, v30, v31, v32, v3, N, g5, c5, by simp only [Act.put, List.setIfInBounds_toArray, List.set_cons_zero, List.set_cons_succ], fun _ => rfl, h1, h2, h3, h4, h5, h6, h7, h8, h10, hB, hD, be⟩
          refine Steps.cons [0] rfl (by kernel_rfl) ?p1 ?_
          case p1 =>
            rintro L a' wx hL hd ⟨v24, v25, v26, v27, v28, v29, v30, v31, v32, v3, N, g5, c5, rfl, h0, h1, h2, h3, h4, h5, h6, h7, h8, h10, hB, hD, be⟩ K' hK
            have e0 := h0 (hd 0 (by simp)); subst e0
            have q0 := (be.cell (p := ⟨w.heap.size, 0, none⟩) (Nat.lt_succ_self _)).trans p0
            simp only [Act.put, List.setIfInBounds_toArray, List.set_cons_zero, List.set_cons_succ]
            go_simp
            exact hK _ _ ⟨_, _, v26, v27, v28, v29, v30, v31, v32, v3, N, g5, c5, by simp only [Act.put, List.setIfInBounds_toArray, List.set_cons_zero, List.set_cons_succ], h0, fun _ => rfl, h2, h3, h4, h5, h6, h7, h8, h10, hB, hD, be⟩
          refine Steps.cons [] rfl (by kernel_rfl) ?p2 ?_
          case p2 =>
            rintro L a' wx hL hd ⟨v24, v25, v26, v27, v28, v29, v30, v31, v32, v3, N, g5, c5, rfl, h0, h1, h2, h3, h4, h5, h6, h7, h8, h10, hB, hD, be⟩ K' hK
            simp only [Act.put, List.setIfInBounds_toArray, List.set_cons_zero, List.set_cons_succ]
            go_simp
            exact hK _ _ ⟨v24, v25, _, v27, v28, v29, v30, v31, v32, v3, N, g5, c5, by simp only [Act.put, List.setIfInBounds_toArray, List.set_cons_zero, List.set_cons_succ], h0, h1, fun _ => rfl, h3, h4, h5, h6, h7, h8, h10, hB, hD, be⟩
          refine Steps.cons [2] rfl (by kernel_rfl) ?p3 ?_
          case p3 =>
            rintro L a' wx hL hd ⟨v24, v25, v26, v27, v28, v29, v30, v31, v32, v3, N, g5, c5, rfl, h0, h1, h2, h3, h4, h5, h6, h7, h8, h10, hB, hD, be⟩ K' hK
            have e2 := h2 (hd 2 (by simp)); subst e2
            have q0 := (be.cell (p := ⟨w.heap.size, 1, none⟩) (Nat.lt_succ_self _)).trans p1
            simp only [Act.put, List.setIfInBounds_toArray, List.set_cons_zero, List.set_cons_succ]
            go_simp
            exact hK _ _ ⟨v24, v25, _, _, v28, v29, v30, v31, v32, v3, N, g5, c5, by simp only [Act.put, List.setIfInBounds_toArray, List.set_cons_zero, List.set_cons_succ], h0, h1, h2, fun _ => rfl, h4, h5, h6, h7, h8, h10, hB, hD, be⟩
          refine Steps.cons [] rfl (by kernel_rfl) ?p4 ?_
          case p4 =>
            rintro L a' wx hL hd ⟨v24, v25, v26, v27, v28, v29, v30, v31, v32, v3, N, g5, c5, rfl, h0, h1, h2, h3, h4, h5, h6, h7, h8, h10, hB, hD, be⟩ K' hK
            simp only [Act.put, List.setIfInBounds_toArray, List.set_cons_zero, List.set_cons_succ]
            go_simp
            have hs_ := be.size
            have HE := OwnG.empty (vals := Pt.vals) (m := 5) (T := 34) (w := wx) (B := w2.heap.size) hs_
            have hb := (Below.refl wx.heap.size wx).alloc (Nat.le_refl _) (.cells #[] 34)
            exact hK _ _ ⟨v24, v25, v26, v27, _, v29, v30, v31, v32, v3, wx.heap.size, g5, c5, by simp only [Act.put, List.setIfInBounds_toArray, List.set_cons_zero, List.set_cons_succ], h0, h1, h2, h3, fun _ => ⟨rfl, fun _ => HE⟩, h5, h6, h7, h8, h10, fun e => (hB e).next hb, fun e => ⟨(hD e).1, (hD e).2.next hb⟩, be.trans (hb.mono (by omega))⟩
          refine Steps.cons [] rfl (by kernel_rfl) ?p5 ?_
          case p5 =>
            rintro L a' wx hL hd ⟨v24, v25, v26, v27, v28, v29, v30, v31, v32, v3, N, g5, c5, rfl, h0, h1, h2, h3, h4, h5, h6, h7, h8, h10, hB, hD, be⟩ K' hK
            simp only [Act.put, List.setIfInBounds_toArray, List.set_cons_zero, List.set_cons_succ]
            go_simp
            exact hK _ _ ⟨v24, v25, v26, v27, v28, _, v30, v31, v32, v3, N, g5, c5, by simp only [Act.put, List.setIfInBounds_toArray, List.set_cons_zero, List.set_cons_succ], h0, h1, h2, h3, h4, fun _ => rfl, h6, h7, h8, h10, hB, hD, be⟩
          refine Steps.cons [5] rfl (by kernel_rfl) ?p6 ?_
          case p6 =>
            rintro L a' wx hL hd ⟨v24, v25, v26, v27, v28, v29, v30, v31, v32, v3, N, g5, c5, rfl, h0, h1, h2, h3, h4, h5, h6, h7, h8, h10, hB, hD, be⟩ K' hK
            have e5 := h5 (hd 5 (by simp)); subst e5
            have q0 := (be.cell (p := ⟨w.heap.size, 2, none⟩) (Nat.lt_succ_self _)).trans p2
            simp only [Act.put, List.setIfInBounds_toArray, List.set_cons_zero, List.set_cons_succ]
            go_simp
            exact hK _ _ ⟨v24, v25, v26, v27, v28, _, _, v31, v32, v3, N, g5, c5, by simp only [Act.put, List.setIfInBounds_toArray, List.set_cons_zero, List.set_cons_succ], h0, h1, h2, h3, h4, h5, fun _ => rfl, h7, h8, h10, hB, hD, be⟩
          refine Steps.cons [4, 6] rfl (by kernel_rfl) ?p7 ?_
          case p7 =>
            rintro L a' wx hL hd ⟨v24, v25, v26, v27, v28, v29, v30, v31, v32, v3, N, g5, c5, rfl, h0, h1, h2, h3, h4, h5, h6, h7, h8, h10, hB, hD, be⟩ K' hK
            have ho := (h4 (hd 4 (by simp))).2 hL
            have e4 := (h4 (hd 4 (by simp))).1; subst e4
            have e6 := h6 (hd 6 (by simp)); subst e6
            have hs_ := be.size
            have l9 : L 9 = false := Bool.eq_false_iff.2 (fun e => absurd (hD e).1 (by rw [hL]; nofun))
            have hN : w2.heap.size ≤ N := (ho.lt _ rfl).1
            have HP : RdP wx w.heap.size (some ⟨g, off, none⟩) n ps := (H.out.below BW2.out).below (be.mono (by omega))
            simp only [Act.put, List.setIfInBounds_toArray, List.set_cons_zero, List.set_cons_succ]
            simp only [List.getElem_toArray, List.getElem_cons_succ, List.getElem_cons_zero]
            refine step_appendP wx _ (by rfl) _ _ (by rfl) w2.heap.size _ 0 0 [] (by rfl) ho (by rfl) HP (by omega) (by omega) hs_ (by rfl) ?_
            intro g5' c5' w5 ho5 hg5 hn5 hk5
            simp only [Nat.zero_add]
            have hq_ := hK
            have hBx := (hB l9).grown hg5 (fun e => absurd (Option.some.inj (show some N = some _ from e)) (by omega))
            have hBe := be.grown hg5 (by omega) (fun k e => by have := Option.some.inj (show some N = some k from e); omega)
            exact hK _ _ ⟨v24, v25, v26, v27, _, v29, _, _, v32, v3, N, g5', c5', by simp only [List.getElem_toArray, List.getElem_cons_succ, List.getElem_cons_zero, Act.put, List.setIfInBounds_toArray, List.set_cons_zero, List.set_cons_succ], h0, h1, h2, h3, fun e => ⟨rfl, fun d => by cases d⟩, h5, h6, fun _ => rfl, fun e => absurd (h8 e).1 (by rw [hL]; nofun), h10, fun _ => hBx, fun e => absurd (hD e).1 (by rw [hL]; nofun), hBe⟩
          refine Steps.cons [1, 3, 7] rfl (by kernel_rfl) ?p8 ?_
          case p8 =>
            rintro L a' wx hL hd ⟨v24, v25, v26, v27, v28, v29, v30, v31, v32, v3, N, g5, c5, rfl, h0, h1, h2, h3, h4, h5, h6, h7, h8, h10, hB, hD, be⟩ K' hK
            have e1 := h1 (hd 1 (by simp)); subst e1
            have e3 := h3 (hd 3 (by simp)); subst e3
            have e7 := h7 (hd 7 (by simp)); subst e7
            simp only [Act.put, List.setIfInBounds_toArray, List.set_cons_zero, List.set_cons_succ]
            go_simp
            exact hK _ _ ⟨v24, _, v26, _, v28, v29, v30, _, _, v3, N, g5, c5, by simp only [Act.put, List.setIfInBounds_toArray, List.set_cons_zero, List.set_cons_succ], h0, h1, h2, h3, h4, h5, h6, h7, fun _ => ⟨hd 7 (by simp), rfl⟩, h10, hB, hD, be⟩
          refine Steps.cons [8] rfl (by kernel_rfl) ?p9 ?_
          case p9 =>
            rintro L a' wx hL hd ⟨v24, v25, v26, v27, v28, v29, v30, v31, v32, v3, N, g5, c5, rfl, h0, h1, h2, h3, h4, h5, h6, h7, h8, h10, hB, hD, be⟩ K' hK
            have hc := (h8 (hd 8 (by simp))).1
            have e8 := (h8 (hd 8 (by simp))).2; subst e8
            have e7 := h7 hc; subst e7
            have Q := hB hL
            have b0 := Q.c0
            have b1 := Q.c1
            have b2 := Q.c2
            have bf := Q.f
            have hbe := below_set3 (N := w.heap.size + 1) (P := w.heap.size + 1) (Nat.le_refl _) wx (.int .i64 z) (.int .i64 y) (.slice (some ⟨g5, 0, none⟩) n c5)
            simp only [Act.put, List.setIfInBounds_toArray, List.set_cons_zero, List.set_cons_succ]
            go_simp
            exact hK _ _ ⟨v24, v25, v26, v27, v28, v29, v30, _, _, v3, N, g5, c5, by simp only [Act.put, List.setIfInBounds_toArray, List.set_cons_zero, List.set_cons_succ], h0, h1, h2, h3, fun e => ⟨(h4 e).1, fun d => absurd (show L 7 = false from d) (by rw [hc]; nofun)⟩, h5, h6, h7, h8, h10, nofun, fun _ => ⟨hc, Q.all_ _ _ _ _ _⟩, be.trans hbe⟩
          refine Steps.cons [] rfl (by kernel_rfl) ?p10 ?_
          case p10 =>
            rintro L a' wx hL hd ⟨v24, v25, v26, v27, v28, v29, v30, v31, v32, v3, N, g5, c5, rfl, h0, h1, h2, h3, h4, h5, h6, h7, h8, h10, hB, hD, be⟩ K' hK
            simp only [Act.put, List.setIfInBounds_toArray, List.set_cons_zero, List.set_cons_succ]
            go_simp
            exact hK _ _ ⟨v24, v25, v26, v27, v28, v29, v30, v31, v32, _, N, g5, c5, by simp only [Act.put, List.setIfInBounds_toArray, List.set_cons_zero, List.set_cons_succ], h0, h1, h2, h3, h4, h5, h6, h7, h8, fun _ => rfl, hB, hD, be⟩
          exact Steps.nil
        case hfin =>
          rintro L a' wx hl ⟨v24, v25, v26, v27, v28, v29, v30, v31, v32, v3, N, g5, c5, rfl, h0, h1, h2, h3, h4, h5, h6, h7, h8, h10, hB, hD, be⟩
          have e10 := h10 (hl 10 (by simp)); subst e10
          have Q := (hD (hl 9 (by simp))).2
          have HBE := Lib.hid (BW2.out.trans (be.mono (Nat.le_succ _)))
          have r0 := Q.c0
          have r1 := Q.c1
          have r2 := Q.c2
          clear h0 h1 h2 h3 h4 h5 h6 h7 h8 h10 hB hD be Q
          simp only [Act.put, List.setIfInBounds_toArray, List.set_cons_zero, List.set_cons_succ]
          repeat (first | go_values | go_skip | go_guarded | go_step | go_upon)
          refine bodyPost_ret (by simp [results, Try.results101, go_sem, r0, r1, r2]; try rfl) rfl ?_
          exact ⟨z, y, some ⟨g5, 0, none⟩, n, c5, by rw [HS.out], HBE.out⟩
      · have hq3 : ((nk : Int) == 0) = false := by simp; omega
        obtain ⟨⟨u, a⟩, hk⟩ : ∃ q : Ct, q = kith (cutsB z y ps) 0 := ⟨_, rfl⟩
        have hcut : cutB z y ps u a = true := by
          have := cutsB_mem (kith_mem (ks := cutsB z y ps) (by rw [HN3.out]; exact h3))
          rw [← hk] at this
          exact this
        have HS := Lib.hid (show knotB (f + 1) z y ps = (knotB f (dvZ1 u z a) (dvY1 u y a) (fstL u a ps) || knotB f (dvZ2 u z a) (dvY2 u y a) (sndL u a ps)) by
          rw [knotB, if_neg (by rw [HL.out]; exact HNO.out), if_neg (by rw [HN3.out]; exact h3), ← hk])
        have hle := parts_less hcut
        obtain ⟨_, ha1, ha2⟩ := cutB_p hcut
        obtain ⟨gk, rfl, hgk1, hgk2⟩ := OwnG.form HO2.out (by omega)
        have kk := OwnK.at2 HO2.out (k := 0) (by omega)
        rw [← hk] at kk
        simp only [Nat.zero_mul, Nat.zero_add] at kk
        obtain ⟨k0, k1⟩ := kk
        have i3 : (0 : Int) < (nk : Int) := by omega
        have i4 : 0 < nk := by omega
        clear hk hcut
        go_upto_region 6 with fail
        go_cut [5, 6] (fun s0 s1 wx => ∃ (P7 P8 : Nat) (A1 : Option Addr) (n1 c1 : Nat) (A2 : Option Addr) (n2 c2 : Nat), s0 = .pointer (some ⟨P7, 0, none⟩) ∧ Hid (MidK w2 wx true true true true true P7 P8 A1 n1 c1 A2 n2 c2 (dvZ1 u z a) (dvY1 u y a) (dvZ2 u z a) (dvY2 u y a) (fstL u a ps) (sndL u a ps)))
        case first =>
          refine wp_region_steps (fun a0 L a' wx => ∃ (v34 v35 v36 v37 v38 v33 v39 v40 v5 v6 : Value) (P7 P8 : Nat) (A1 : Option Addr) (n1 c1 : Nat) (A2 : Option Addr) (n2 c2 : Nat) (A3 : Option Addr) (n3 c3 : Nat) (A4 : Option Addr) (n4 c4 : Nat), a' = ((((((((((a0.put (some 34) v34).put (some 35) v35).put (some 36) v36).put (some 37) v37).put (some 38) v38).put (some 33) v33).put (some 39) v39).put (some 40) v40).put (some 5) v5).put (some 6) v6) ∧
              (L 0 = true → v34 = .agg #[.int .i64 z, .int .i64 y, .slice (some ⟨g, off, none⟩) n c]) ∧
              (L 1 = true → v35 = .slice (some ⟨gk, 0, none⟩) nk ck) ∧
              (L 2 = true → v36 = .pointer (some ⟨gk, 0, none⟩)) ∧
              (L 3 = true → v37 = .agg #[.bool u, .int .i64 a]) ∧
              (L 4 = true → v38 = .tuple #[.agg #[.int .i64 (dvZ1 u z a), .int .i64 (dvY1 u y a), .slice A1 n1 c1, .int .i64 (dvZ2 u z a), .int .i64 (dvY2 u y a), .slice A2 n2 c2], .agg #[.slice A3 n3 c3, .slice A4 n4 c4]]) ∧
              (L 5 = true → L 4 = true ∧ v33 = .tuple #[.agg #[.int .i64 (dvZ1 u z a), .int .i64 (dvY1 u y a), .slice A1 n1 c1, .int .i64 (dvZ2 u z a), .int .i64 (dvY2 u y a), .slice A2 n2 c2], .agg #[.slice A3 n3 c3, .slice A4 n4 c4]]) ∧
              (L 6 = true → L 4 = true ∧ v39 = .agg #[.int .i64 (dvZ1 u z a), .int .i64 (dvY1 u y a), .slice A1 n1 c1, .int .i64 (dvZ2 u z a), .int .i64 (dvY2 u y a), .slice A2 n2 c2]) ∧
              (L 7 = true → L 4 = true ∧ v40 = .agg #[.slice A3 n3 c3, .slice A4 n4 c4]) ∧
              (L 8 = true → v5 = .pointer (some ⟨P7, 0, none⟩)) ∧
              (L 9 = true → v6 = .pointer (some ⟨P8, 0, none⟩)) ∧
              (L 10 = true → L 4 = true ∧ L 8 = true ∧ L 9 = true) ∧
              (L 11 = true → L 10 = true) ∧
              MidK w2 wx (L 4) (L 8) (L 9) (L 10) (L 11) P7 P8 A1 n1 c1 A2 n2 c2 (dvZ1 u z a) (dvY1 u y a) (dvZ2 u z a) (dvY2 u y a) (fstL u a ps) (sndL u a ps)) [0, 1, 2, 3, 4, 5, 6, 7, 8, 9, 10, 11] (by kernel_rfl) (by kernel_rfl) (by kernel_rfl) ?h0 ?hs ?hfin
          case h0 =>
            refine ⟨?_, ?_, ?_, ?_, ?_, ?_, ?_, ?_, ?_, ?_, 0, 0, none, 0, 0, none, 0, 0, none, 0, 0, none, 0, 0, ?eq, nofun, nofun, nofun, nofun, nofun, nofun, nofun, nofun, nofun, nofun, nofun, nofun, MidK.start _⟩
            case eq =>
              simp only [Act.put, List.setIfInBounds_toArray, List.set_cons_zero, List.set_cons_succ]
              try rfl
          case hs =>
            refine Steps.cons [] rfl (by kernel_rfl) ?p0 ?_
            case p0 =>
              rintro L a' wx hL hd ⟨v34, v35, v36, v37, v38, v33, v39, v40, v5, v6, P7, P8, A1, n1, c1, A2, n2, c2, A3, n3, c3, A4, n4, c4, rfl, h0, h1, h2, h3, h4, h5, h6, h7, h8, h9, hC1, hC2, M⟩ K' hK
              have q0 := (M.be.cell (p := ⟨w.heap.size, 0, none⟩) (by dsimp only; omega)).trans p0; have q1 := (M.be.cell (p := ⟨w.heap.size, 1, none⟩) (by dsimp only; omega)).trans p1; have q2 := (M.be.cell (p := ⟨w.heap.size, 2, none⟩) (by dsimp only; omega)).trans p2
              simp only [Act.put, List.setIfInBounds_toArray, List.set_cons_zero, List.set_cons_succ]
              go_simp
              exact hK _ _ ⟨_, v35, v36, v37, v38, v33, v39, v40, v5, v6, P7, P8, A1, n1, c1, A2, n2, c2, A3, n3, c3, A4, n4, c4, by simp only [Act.put, List.setIfInBounds_toArray, List.set_cons_zero, List.set_cons_succ], fun _ => rfl, h1, h2, h3, h4, h5, h6, h7, h8, h9, hC1, hC2, M⟩
            refine Steps.cons [] rfl (by kernel_rfl) ?p1 ?_
            case p1 =>
              rintro L a' wx hL hd ⟨v34, v35, v36, v37, v38, v33, v39, v40, v5, v6, P7, P8, A1, n1, c1, A2, n2, c2, A3, n3, c3, A4, n4, c4, rfl, h0, h1, h2, h3, h4, h5, h6, h7, h8, h9, hC1, hC2, M⟩ K' hK
              simp only [Act.put, List.setIfInBounds_toArray, List.set_cons_zero, List.set_cons_succ]
              go_simp
              exact hK _ _ ⟨v34, _, v36, v37, v38, v33, v39, v40, v5, v6, P7, P8, A1, n1, c1, A2, n2, c2, A3, n3, c3, A4, n4, c4, by simp only [Act.put, List.setIfInBounds_toArray, List.set_cons_zero, List.set_cons_succ], h0, fun _ => rfl, h2, h3, h4, h5, h6, h7, h8, h9, hC1, hC2, M⟩
            refine Steps.cons [1] rfl (by kernel_rfl) ?p2 ?_
            case p2 =>
              rintro L a' wx hL hd ⟨v34, v35, v36, v37, v38, v33, v39, v40, v5, v6, P7, P8, A1, n1, c1, A2, n2, c2, A3, n3, c3, A4, n4, c4, rfl, h0, h1, h2, h3, h4, h5, h6, h7, h8, h9, hC1, hC2, M⟩ K' hK
              have e1 := h1 (hd 1 (by simp)); subst e1
              simp only [Act.put, List.setIfInBounds_toArray, List.set_cons_zero, List.set_cons_succ]
              go_simp
              exact hK _ _ ⟨v34, _, _, v37, v38, v33, v39, v40, v5, v6, P7, P8, A1, n1, c1, A2, n2, c2, A3, n3, c3, A4, n4, c4, by simp only [Act.put, List.setIfInBounds_toArray, List.set_cons_zero, List.set_cons_succ], h0, h1, fun _ => rfl, h3, h4, h5, h6, h7, h8, h9, hC1, hC2, M⟩
            refine Steps.cons [2] rfl (by kernel_rfl) ?p3 ?_
            case p3 =>
              rintro L a' wx hL hd ⟨v34, v35, v36, v37, v38, v33, v39, v40, v5, v6, P7, P8, A1, n1, c1, A2, n2, c2, A3, n3, c3, A4, n4, c4, rfl, h0, h1, h2, h3, h4, h5, h6, h7, h8, h9, hC1, hC2, M⟩ K' hK
              have e2 := h2 (hd 2 (by simp)); subst e2
              have q0 := (M.be.cell (p := ⟨gk, 0, none⟩) (by dsimp only; omega)).trans k0; have q1 := (M.be.cell (p := ⟨gk, 1, none⟩) (by dsimp only; omega)).trans k1
              simp only [Act.put, List.setIfInBounds_toArray, List.set_cons_zero, List.set_cons_succ]
              go_simp
              exact hK _ _ ⟨v34, v35, _, _, v38, v33, v39, v40, v5, v6, P7, P8, A1, n1, c1, A2, n2, c2, A3, n3, c3, A4, n4, c4, by simp only [Act.put, List.setIfInBounds_toArray, List.set_cons_zero, List.set_cons_succ], h0, h1, h2, fun _ => rfl, h4, h5, h6, h7, h8, h9, hC1, hC2, M⟩
            refine Steps.cons [0, 3] rfl (by kernel_rfl) ?p4 ?_
            case p4 =>
              rintro L a' wx hL hd ⟨v34, v35, v36, v37, v38, v33, v39, v40, v5, v6, P7, P8, A1, n1, c1, A2, n2, c2, A3, n3, c3, A4, n4, c4, rfl, h0, h1, h2, h3, h4, h5, h6, h7, h8, h9, hC1, hC2, M⟩ K' hK
              have l11 : L 10 = false := Bool.eq_false_iff.2 (fun e => absurd (hC1 e).1 (by rw [hL]; nofun))
              have l12 : L 11 = false := Bool.eq_false_iff.2 (fun e => absurd (hC2 e) (by rw [l11]; nofun))
              have rw_ : RdP wx wx.heap.size _ n ps := (H.out.below' (BW2.out.trans (M.be.mono BW2.out.size)) (by have := M.be.size; omega))
              have e0 := h0 (hd 0 (by simp)); subst e0
              have e3 := h3 (hd 3 (by simp)); subst e3
              simp only [Act.put, List.setIfInBounds_toArray, List.set_cons_zero, List.set_cons_succ]
              go_simp
              refine (impl_divide _ _ _ _ _ ps _ _ _ rw_ HK.out (by omega) (by omega)).mono ?_
              rintro e w' ⟨A1', n1', c1', A2', n2', c2', A3', n3', c3', A4', n4', c4', is, js, rfl, hr4, hb⟩
              have M' := (M.cast hL rfl rfl l11 l12).call hb hr4.r1 hr4.r2
              go_simp
              exact hK _ _ ⟨_, v35, v36, _, _, v33, v39, v40, v5, v6, P7, P8, A1', n1', c1', A2', n2', c2', A3', n3', c3', A4', n4', c4', by simp only [Act.put, List.setIfInBounds_toArray, List.set_cons_zero, List.set_cons_succ], h0, h1, h2, h3, fun _ => rfl, fun e => absurd (h5 e).1 (by rw [hL]; nofun), fun e => absurd (h6 e).1 (by rw [hL]; nofun), fun e => absurd (h7 e).1 (by rw [hL]; nofun), h8, h9, fun e => absurd (hC1 e).1 (by rw [hL]; nofun), hC2, M'.cast rfl rfl rfl l11.symm l12.symm⟩
            refine Steps.cons [4] rfl (by kernel_rfl) ?p5 ?_
            case p5 =>
              rintro L a' wx hL hd ⟨v34, v35, v36, v37, v38, v33, v39, v40, v5, v6, P7, P8, A1, n1, c1, A2, n2, c2, A3, n3, c3, A4, n4, c4, rfl, h0, h1, h2, h3, h4, h5, h6, h7, h8, h9, hC1, hC2, M⟩ K' hK
              have e4 := h4 (hd 4 (by simp)); subst e4
              simp only [Act.put, List.setIfInBounds_toArray, List.set_cons_zero, List.set_cons_succ]
              go_simp
              exact hK _ _ ⟨v34, v35, v36, v37, _, _, v39, v40, v5, v6, P7, P8, A1, n1, c1, A2, n2, c2, A3, n3, c3, A4, n4, c4, by simp only [Act.put, List.setIfInBounds_toArray, List.set_cons_zero, List.set_cons_succ], h0, h1, h2, h3, h4, fun _ => ⟨hd 4 (by simp), rfl⟩, h6, h7, h8, h9, hC1, hC2, M⟩
            refine Steps.cons [5] rfl (by kernel_rfl) ?p6 ?_
            case p6 =>
              rintro L a' wx hL hd ⟨v34, v35, v36, v37, v38, v33, v39, v40, v5, v6, P7, P8, A1, n1, c1, A2, n2, c2, A3, n3, c3, A4, n4, c4, rfl, h0, h1, h2, h3, h4, h5, h6, h7, h8, h9, hC1, hC2, M⟩ K' hK
              have hc := (h5 (hd 5 (by simp))).1
              have e5 := (h5 (hd 5 (by simp))).2; subst e5
              have e4 := h4 hc; subst e4
              simp only [Act.put, List.setIfInBounds_toArray, List.set_cons_zero, List.set_cons_succ]
              go_simp
              exact hK _ _ ⟨v34, v35, v36, v37, _, _, _, v40, v5, v6, P7, P8, A1, n1, c1, A2, n2, c2, A3, n3, c3, A4, n4, c4, by simp only [Act.put, List.setIfInBounds_toArray, List.set_cons_zero, List.set_cons_succ], h0, h1, h2, h3, h4, h5, fun _ => ⟨hc, rfl⟩, h7, h8, h9, hC1, hC2, M⟩
            refine Steps.cons [5] rfl (by kernel_rfl) ?p7 ?_
            case p7 =>
              rintro L a' wx hL hd ⟨v34, v35, v36, v37, v38, v33, v39, v40, v5, v6, P7, P8, A1, n1, c1, A2, n2, c2, A3, n3, c3, A4, n4, c4, rfl, h0, h1, h2, h3, h4, h5, h6, h7, h8, h9, hC1, hC2, M⟩ K' hK
              have hc := (h5 (hd 5 (by simp))).1
              have e5 := (h5 (hd 5 (by simp))).2; subst e5
              have e4 := h4 hc; subst e4
              simp only [Act.put, List.setIfInBounds_toArray, List.set_cons_zero, List.set_cons_succ]
              go_simp
              exact hK _ _ ⟨v34, v35, v36, v37, _, _, v39, _, v5, v6, P7, P8, A1, n1, c1, A2, n2, c2, A3, n3, c3, A4, n4, c4, by simp only [Act.put, List.setIfInBounds_toArray, List.set_cons_zero, List.set_cons_succ], h0, h1, h2, h3, h4, h5, h6, fun _ => ⟨hc, rfl⟩, h8, h9, hC1, hC2, M⟩
            refine Steps.cons [] rfl (by kernel_rfl) ?p8 ?_
            case p8 =>
              rintro L a' wx hL hd ⟨v34, v35, v36, v37, v38, v33, v39, v40, v5, v6, P7, P8, A1, n1, c1, A2, n2, c2, A3, n3, c3, A4, n4, c4, rfl, h0, h1, h2, h3, h4, h5, h6, h7, h8, h9, hC1, hC2, M⟩ K' hK
              have l11 : L 10 = false := Bool.eq_false_iff.2 (fun e => absurd (hC1 e).2.1 (by rw [hL]; nofun))
              have l12 : L 11 = false := Bool.eq_false_iff.2 (fun e => absurd (hC2 e) (by rw [l11]; nofun))
              simp only [Act.put, List.setIfInBounds_toArray, List.set_cons_zero, List.set_cons_succ]
              go_simp
              exact hK _ _ ⟨v34, v35, v36, v37, v38, v33, v39, v40, _, v6, wx.heap.size, P8, A1, n1, c1, A2, n2, c2, A3, n3, c3, A4, n4, c4, by simp only [Act.put, List.setIfInBounds_toArray, List.set_cons_zero, List.set_cons_succ], h0, h1, h2, h3, h4, h5, h6, h7, fun _ => rfl, h9, fun e => ⟨(hC1 e).1, rfl, (hC1 e).2.2⟩, hC2, (M.cast rfl hL rfl l11 rfl).alloc1.cast rfl rfl rfl l11.symm rfl⟩
            refine Steps.cons [] rfl (by kernel_rfl) ?p9 ?_
            case p9 =>
              rintro L a' wx hL hd ⟨v34, v35, v36, v37, v38, v33, v39, v40, v5, v6, P7, P8, A1, n1, c1, A2, n2, c2, A3, n3, c3, A4, n4, c4, rfl, h0, h1, h2, h3, h4, h5, h6, h7, h8, h9, hC1, hC2, M⟩ K' hK
              have l11 : L 10 = false := Bool.eq_false_iff.2 (fun e => absurd (hC1 e).2.2 (by rw [hL]; nofun))
              have l12 : L 11 = false := Bool.eq_false_iff.2 (fun e => absurd (hC2 e) (by rw [l11]; nofun))
              simp only [Act.put, List.setIfInBounds_toArray, List.set_cons_zero, List.set_cons_succ]
              go_simp
              exact hK _ _ ⟨v34, v35, v36, v37, v38, v33, v39, v40, v5, _, P7, wx.heap.size, A1, n1, c1, A2, n2, c2, A3, n3, c3, A4, n4, c4, by simp only [Act.put, List.setIfInBounds_toArray, List.set_cons_zero, List.set_cons_succ], h0, h1, h2, h3, h4, h5, h6, h7, h8, fun _ => rfl, fun e => ⟨(hC1 e).1, (hC1 e).2.1, rfl⟩, hC2, (M.cast rfl rfl hL rfl l12).alloc2.cast rfl rfl rfl rfl l12.symm⟩
            refine Steps.cons [4, 6, 8, 9] rfl (by kernel_rfl) ?p10 ?_
            case p10 =>
              rintro L a' wx hL hd ⟨v34, v35, v36, v37, v38, v33, v39, v40, v5, v6, P7, P8, A1, n1, c1, A2, n2, c2, A3, n3, c3, A4, n4, c4, rfl, h0, h1, h2, h3, h4, h5, h6, h7, h8, h9, hC1, hC2, M⟩ K' hK
              have l12 : L 11 = false := Bool.eq_false_iff.2 (fun e => absurd (hC2 e) (by rw [hL]; nofun))
              have Q := M.cast (hd 4 (by simp)) (hd 8 (by simp)) (hd 9 (by simp)) hL l12
              have b0 := (Q.box1 rfl rfl).x0
              have b1 := (Q.box1 rfl rfl).x1
              have b2 := (Q.box1 rfl rfl).x2
              have b3 := (Q.box1 rfl rfl).x3
              have b4 := (Q.box1 rfl rfl).x4
              have b5 := (Q.box1 rfl rfl).x5
              have bf := (Q.box1 rfl rfl).f
              have e4 := h4 (hd 4 (by simp)); subst e4
              have e6 := (h6 (hd 6 (by simp))).2; subst e6
              have e8 := h8 (hd 8 (by simp)); subst e8
              have e9 := h9 (hd 9 (by simp)); subst e9
              simp only [Act.put, List.setIfInBounds_toArray, List.set_cons_zero, List.set_cons_succ]
              go_simp
              exact hK _ _ ⟨v34, v35, v36, v37, _, v33, _, v40, _, _, P7, P8, A1, n1, c1, A2, n2, c2, A3, n3, c3, A4, n4, c4, by simp only [Act.put, List.setIfInBounds_toArray, List.set_cons_zero, List.set_cons_succ], h0, h1, h2, h3, h4, h5, h6, h7, h8, h9, fun _ => ⟨hd 4 (by simp), hd 8 (by simp), hd 9 (by simp)⟩, fun _ => rfl, Q.store1.cast (hd 4 (by simp)).symm (hd 8 (by simp)).symm (hd 9 (by simp)).symm rfl l12.symm⟩
            refine Steps.cons [4, 7, 8, 9, 10] rfl (by kernel_rfl) ?p11 ?_
            case p11 =>
              rintro L a' wx hL hd ⟨v34, v35, v36, v37, v38, v33, v39, v40, v5, v6, P7, P8, A1, n1, c1, A2, n2, c2, A3, n3, c3, A4, n4, c4, rfl, h0, h1, h2, h3, h4, h5, h6, h7, h8, h9, hC1, hC2, M⟩ K' hK
              have Q := M.cast (hd 4 (by simp)) (hd 8 (by simp)) (hd 9 (by simp)) (hd 10 (by simp)) hL
              have b0 := (Q.box2 rfl rfl).c0
              have b1 := (Q.box2 rfl rfl).c1
              have bf := (Q.box2 rfl rfl).f
              have e4 := h4 (hd 4 (by simp)); subst e4
              have e7 := (h7 (hd 7 (by simp))).2; subst e7
              have e8 := h8 (hd 8 (by simp)); subst e8
              have e9 := h9 (hd 9 (by simp)); subst e9
              simp only [Act.put, List.setIfInBounds_toArray, List.set_cons_zero, List.set_cons_succ]
              go_simp
              exact hK _ _ ⟨v34, v35, v36, v37, _, v33, v39, _, _, _, P7, P8, A1, n1, c1, A2, n2, c2, A3, n3, c3, A4, n4, c4, by simp only [Act.put, List.setIfInBounds_toArray, List.set_cons_zero, List.set_cons_succ], h0, h1, h2, h3, h4, h5, h6, h7, h8, h9, hC1, fun _ => hd 10 (by simp), (Q.store2 _ _).cast (hd 4 (by simp)).symm (hd 8 (by simp)).symm (hd 9 (by simp)).symm (hd 10 (by simp)).symm rfl⟩
            exact Steps.nil
          case hfin =>
            rintro L a' wx hl ⟨v34, v35, v36, v37, v38, v33, v39, v40, v5, v6, P7, P8, A1, n1, c1, A2, n2, c2, A3, n3, c3, A4, n4, c4, rfl, h0, h1, h2, h3, h4, h5, h6, h7, h8, h9, hC1, hC2, M⟩
            have e8 := h8 (hl 8 (by simp)); subst e8
            have Q := Lib.hid (M.cast (hl 4 (by simp)) (hl 8 (by simp)) (hl 9 (by simp)) (hl 10 (by simp)) (hl 11 (by simp)))
            clear M h0 h1 h2 h3 h4 h5 h6 h7 h8 h9 hC1 hC2
            simp only [Act.put, List.setIfInBounds_toArray, List.set_cons_zero, List.set_cons_succ]
            go_wp2_with fail
            go_meet
            case rel => exact ⟨P7, P8, A1, n1, c1, A2, n2, c2, rfl, Q⟩
        case rest =>
        rename World => w5
        obtain ⟨P5, P6, A1, n1, c1, A2, n2, c2, rfl, hM⟩ := hcut
        have M1 := Lib.hid (hM.out.full1 rfl rfl)
        have O1 := Lib.hid (hM.out.row1 rfl)
        have O2 := Lib.hid (hM.out.row2 rfl)
        have BR5 := Lib.hid (BR2.out.next hM.out.be)
        have HB5 := Lib.hid (BW2.out.trans (hM.out.be.mono BW2.out.size))
        have hx5 := hM.out.be.size
        clear hM p0 p1 p2 k0 k1
        have b0 := M1.out.x0
        have b1 := M1.out.x1
        have b2 := M1.out.x2
        go_wp2_with fail
        refine (IH.out _ _ _ _ _ (fstL u a ps) _ ((O1.out.rd Pt.len).below' (by go_grown) (by go_size)) (by omega)).mono ?_
        rintro e w6 ⟨z6, y6, A6, n6, c6, rfl, hb6⟩
        have hx6 := hb6.size
        have HBA := Lib.hid (hb6.trans ((Below.refl w6.heap.size w6).alloc (Nat.le_refl _) (.cells #[.int .i64 z6, .int .i64 y6, .slice A6 n6 c6] 29) |>.mono hb6.size))
        have M6 := Lib.hid (M1.out.next HBA.out)
        have O6 := Lib.hid (O2.out.next HBA.out)
        have BR6 := Lib.hid (BR5.out.next HBA.out)
        have BX6 := Lib.hid (Box3.mk_ w6 z6 y6 A6 n6 c6 29)
        have HB6 := Lib.hid (HB5.out.trans (HBA.out.mono HB5.out.size))
        clear hb6 b0 b1 b2
        cases hs1 : knotB f (dvZ1 u z a) (dvY1 u y a) (fstL u a ps) with
        | true =>
          have HF := Lib.hid (show knotB (f + 1) z y ps = true by rw [HS.out, hs1]; rfl)
          have b0 := BX6.out.c0
          have b1 := BX6.out.c1
          have b2 := BX6.out.c2
          have a0 := BR6.out.c0
          have a1 := BR6.out.c1
          have a2 := BR6.out.c2
          have af := BR6.out.f
          have r0 := (BR6.out.all_ z6 y6 A6 n6 c6).c0
          have r1 := (BR6.out.all_ z6 y6 A6 n6 c6).c1
          have r2 := (BR6.out.all_ z6 y6 A6 n6 c6).c2
          go_upto_region 9 with fail
          repeat (first | go_values | go_skip | go_guarded | go_step | go_upon)
          refine bodyPost_ret (by simp [results, Try.results101, go_sem, r0, r1, r2]; try rfl) rfl ?_
          exact ⟨z6, y6, A6, n6, c6, by rw [HF.out], HB6.out.trans (below_set3 (Nat.le_succ _) _ _ _ _)⟩
        | false =>
          have HF := Lib.hid (show knotB (f + 1) z y ps = knotB f (dvZ2 u z a) (dvY2 u y a) (sndL u a ps) by rw [HS.out, hs1]; rfl)
          have b3 := M6.out.x3
          have b4 := M6.out.x4
          have b5 := M6.out.x5
          go_wp2_with fail
          refine (IH.out _ _ _ _ _ (sndL u a ps) _ ((O6.out.rd Pt.len).below' (by go_grown) (by go_size)) (by omega)).mono ?_
          rintro e w7 ⟨z7, y7, A7, n7, c7, rfl, hb7⟩
          have BR7 := Lib.hid (BR6.out.next hb7)
          have HB7 := Lib.hid (HB6.out.trans (hb7.mono HB6.out.size))
          clear hb7 b3 b4 b5
          have a0 := BR7.out.c0
          have a1 := BR7.out.c1
          have a2 := BR7.out.c2
          have af := BR7.out.f
          have r0 := (BR7.out.all_ z7 y7 A7 n7 c7).c0
          have r1 := (BR7.out.all_ z7 y7 A7 n7 c7).c1
          have r2 := (BR7.out.all_ z7 y7 A7 n7 c7).c2
          dsimp only
          repeat (first | go_values | go_skip | go_guarded | go_step | go_upon)
          refine bodyPost_ret (by simp [results, Try.results101, go_sem, r0, r1, r2]; try rfl) rfl ?_
          exact ⟨z7, y7, A7, n7, c7, by rw [HF.out], HB7.out.trans (below_set3 (Nat.le_succ _) _ _ _ _)⟩

end Go.Proofs.Ytlcllpgbpjdofaa
