/- Walk of CanSew, the reference's side. No condition. -/
import Derived.Test.YtlcllpgbpjdofaaKp
import Derived.Test.YtlcllpgbpjdofaaSm
import Derived.Test.YtlcllpgbpjdofaaSi
import Derived.Test.YtlcllpgbpjdofaaCk
import Derived.Deep.DeepCutAuto
set_option linter.unusedSimpArgs false
set_option linter.unusedVariables false
set_option maxRecDepth 100000
namespace Go.Proofs.Ytlcllpgbpjdofaa
open Go.RowKit

set_option maxRecDepth 100000 in
set_option maxHeartbeats 40000000 in
theorem spec_CanSew : ∀ (f : Nat) (z y : Int) (A : Option Addr) (n c : Nat) (ps : List Pt) (w : World) (h : RdP w w.heap.size A n ps) (hf : (z + y).toNat ≤ f),
    Calls Try.prog 56 #[.agg #[.int .i64 z, .int .i64 y, .slice A n c]] w fun e w' => e = .returned (.bool (sewB f z y ps)) ∧ Below w.heap.size w w' := by
  intro f
  induction f with
  | zero =>
    intro z y A n c ps w h hf
    have hs := lt2
    cases hbk : layB z y ps with
    | true => have := lay_pos hbk; omega
    | false =>
      have HK := Lib.hid hbk
      have H := Lib.hid h
      clear h hbk
      go_enter Try.func56, Try.ntmps56
      go_wp2_with fail
      refine (spec_LayoutOk _ _ _ _ _ ps _ (H.out.below' (by go_grown) (by go_size))).mono ?_
      rintro e w1 ⟨rfl, hb1⟩
      rw [HK.out]
      go_wp2
      go_ret
      exact ⟨rfl, ((Below.refl w.heap.size w).alloc (Nat.le_refl _) _).trans (hb1.mono (by simp))⟩
  | succ f ih =>
    intro z y A n c ps w h hf
    have hs := lt2
    have IH := Lib.hid ih
    clear ih
    cases hbk : layB z y ps with
    | false =>
      have HS := Lib.hid (show sewB (f + 1) z y ps = false by rw [sewB, if_pos hbk])
      have HK := Lib.hid hbk
      have H := Lib.hid h
      clear h hbk
      go_enter Try.func56, Try.ntmps56
      go_wp2_with fail
      refine (spec_LayoutOk _ _ _ _ _ ps _ (H.out.below' (by go_grown) (by go_size))).mono ?_
      rintro e w1 ⟨rfl, hb1⟩
      rw [HK.out]
      go_wp2
      go_ret
      exact ⟨ret_bool HS.out.symm, ((Below.refl w.heap.size w).alloc (Nat.le_refl _) _).trans (hb1.mono (by simp))⟩
    | true =>
      obtain ⟨_, _, _, _, hn1', hn2'⟩ := dimOk_t (layB_p hbk).1
      have HL := Lib.hid h.1
      rw [HL.out] at hn1' hn2'
      have HK := Lib.hid hbk
      have H := Lib.hid h
      have B0 := Lib.hid (Box3.mk_ w z y A n c 29)
      have BW0 := Lib.hid ((Below.refl w.heap.size w).alloc (Nat.le_refl _) (.cells #[.int .i64 z, .int .i64 y, .slice A n c] 29))
      clear h hbk
      by_cases h1 : n = 1
      · have HS := Lib.hid (show sewB (f + 1) z y ps = true by rw [sewB, if_neg (by rw [HK.out]; simp), if_pos (by rw [HL.out]; exact h1)])
        subst h1
        go_enter Try.func56, Try.ntmps56
        go_wp2_with fail
        refine (spec_LayoutOk _ _ _ _ _ ps _ (H.out.below' (by go_grown) (by go_size))).mono ?_
        rintro e w1 ⟨rfl, hb1⟩
        rw [HK.out]
        have B1 := Lib.hid (B0.out.next hb1)
        have BW1 := Lib.hid (BW0.out.trans (hb1.mono BW0.out.size))
        clear hb1
        have b0 := B1.out.c0
        have b1 := B1.out.c1
        have b2 := B1.out.c2
        go_wp2
        go_ret
        exact ⟨ret_bool HS.out.symm, BW1.out⟩
      · have hq1 : ((n : Int) == 1) = false := by simp; omega
        go_enter Try.func56, Try.ntmps56
        go_wp2_with fail
        refine (spec_LayoutOk _ _ _ _ _ ps _ (H.out.below' (by go_grown) (by go_size))).mono ?_
        rintro e w1 ⟨rfl, hb1⟩
        rw [HK.out]
        have B1 := Lib.hid (B0.out.next hb1)
        have BW1 := Lib.hid (BW0.out.trans (hb1.mono BW0.out.size))
        have hx1 := hb1.size
        simp only [World.size_alloc] at hx1
        clear hb1
        have b0 := B1.out.c0
        have b1 := B1.out.c1
        have b2 := B1.out.c2
        go_wp2_with fail
        refine (spec_CutsOf _ _ _ _ _ ps _ (H.out.below' BW1.out (by omega))).mono ?_
        rintro e w2 ⟨A3, n3, c3, rfl, ho2, hb2⟩
        clear b0 b1 b2
        have B2 := Lib.hid (B1.out.next hb2)
        have HBW := Lib.hid (BW1.out.trans (hb2.mono BW1.out.size))
        have hx2 := hb2.size
        have HN3 := Lib.hid ho2.len
        have HO2 := Lib.hid ho2
        clear hb2 ho2
        by_cases h3 : n3 = 0
        · have HS := Lib.hid (show sewB (f + 1) z y ps = false by rw [sewB, if_neg (by rw [HK.out]; simp), if_neg (by rw [HL.out]; exact h1), if_pos (by rw [HN3.out]; exact h3)])
          subst h3
          go_wp2
          go_ret
          exact ⟨ret_bool HS.out.symm, HBW.out⟩
        · have hq3 : ((n3 : Int) == 0) = false := by simp; omega
          obtain ⟨⟨u, a⟩, hk⟩ : ∃ q : Ct, q = kith (cutsB z y ps) 0 := ⟨_, rfl⟩
          have hcut : cutB z y ps u a = true := by
            have := cutsB_mem (kith_mem (ks := cutsB z y ps) (by rw [HN3.out]; exact h3))
            rw [← hk] at this
            exact this
          have HCUT := Lib.hid hcut
          have HS := Lib.hid (show sewB (f + 1) z y ps = (sewB f (dvZ1 u z a) (dvY1 u y a) (fstL u a ps) && sewB f (dvZ2 u z a) (dvY2 u y a) (sndL u a ps)) by
            rw [sewB, if_neg (by rw [HK.out]; simp), if_neg (by rw [HL.out]; exact h1), if_neg (by rw [HN3.out]; exact h3), ← hk])
          have hle := parts_less hcut
          obtain ⟨gk, rfl, hgk1, hgk2⟩ := OwnG.form HO2.out (by omega)
          have kk := OwnK.at2 HO2.out (k := 0) (by omega)
          rw [← hk] at kk
          simp only [Nat.zero_mul, Nat.zero_add] at kk
          obtain ⟨k0, k1⟩ := kk
          have i3 : (0 : Int) < (n3 : Int) := by omega
          have i4 : 0 < n3 := by omega
          clear hk hcut
          have b0 := B2.out.c0
          have b1 := B2.out.c1
          have b2 := B2.out.c2
          go_upto_region 8 with fail
          go_cut [4, 5, 6] (fun s0 s1 s2 wx => ∃ (P7 P8 : Nat) (A1 : Option Addr) (n1 c1 : Nat) (A2 : Option Addr) (n2 c2 : Nat), s0 = .pointer (some ⟨P7, 0, none⟩) ∧ s1 = .pointer (some ⟨P8, 0, none⟩) ∧ s2 = .bool (cutB z y ps u a) ∧ Hid (Mid w2 wx true true true true true P7 P8 A1 n1 c1 A2 n2 c2 (spZ1 z y ps u a) (spY1 z y ps u a) (spZ2 z y ps u a) (spY2 z y ps u a) (spL1 z y ps u a) (spL2 z y ps u a)))
          case first =>
            refine wp_region_steps (fun a0 L a' wx => ∃ (v20 v21 v22 v23 v24 v19 v25 v26 v27 v4 v5 v6 : Value) (gl P7 P8 : Nat) (A1 : Option Addr) (n1 c1 : Nat) (A2 : Option Addr) (n2 c2 : Nat), a' = ((((((((((((a0.put (some 20) v20).put (some 21) v21).put (some 22) v22).put (some 23) v23).put (some 24) v24).put (some 19) v19).put (some 25) v25).put (some 26) v26).put (some 27) v27).put (some 4) v4).put (some 5) v5).put (some 6) v6) ∧
                (L 0 = true → v20 = .agg #[.int .i64 z, .int .i64 y, .slice A n c]) ∧
                (L 1 = true → v21 = .slice (some ⟨gk, 0, none⟩) n3 c3) ∧
                (L 2 = true → v22 = .pointer (some ⟨gk, 0, none⟩)) ∧
                (L 3 = true → v23 = .agg #[.bool u, .int .i64 a]) ∧
                (L 4 = true → v24 = .tuple #[.agg #[.int .i64 (spZ1 z y ps u a), .int .i64 (spY1 z y ps u a), .slice A1 n1 c1], .agg #[.int .i64 (spZ2 z y ps u a), .int .i64 (spY2 z y ps u a), .slice A2 n2 c2], .bool (cutB z y ps u a)]) ∧
                (L 5 = true → L 4 = true ∧ v19 = .tuple #[.agg #[.int .i64 (spZ1 z y ps u a), .int .i64 (spY1 z y ps u a), .slice A1 n1 c1], .agg #[.int .i64 (spZ2 z y ps u a), .int .i64 (spY2 z y ps u a), .slice A2 n2 c2], .bool (cutB z y ps u a)]) ∧
                (L 6 = true → L 4 = true ∧ v25 = .agg #[.int .i64 (spZ1 z y ps u a), .int .i64 (spY1 z y ps u a), .slice A1 n1 c1]) ∧
                (L 7 = true → L 4 = true ∧ v26 = .agg #[.int .i64 (spZ2 z y ps u a), .int .i64 (spY2 z y ps u a), .slice A2 n2 c2]) ∧
                (L 8 = true → v27 = .bool (cutB z y ps u a)) ∧
                (L 9 = true → v4 = .pointer (some ⟨P7, 0, none⟩)) ∧
                (L 10 = true → v5 = .pointer (some ⟨P8, 0, none⟩)) ∧
                (L 13 = true → v6 = .bool (cutB z y ps u a)) ∧
                (L 11 = true → L 4 = true ∧ L 9 = true ∧ L 10 = true) ∧
                (L 12 = true → L 11 = true) ∧
                Mid w2 wx (L 4) (L 9) (L 10) (L 11) (L 12) P7 P8 A1 n1 c1 A2 n2 c2 (spZ1 z y ps u a) (spY1 z y ps u a) (spZ2 z y ps u a) (spY2 z y ps u a) (spL1 z y ps u a) (spL2 z y ps u a)) [0, 1, 2, 3, 4, 5, 6, 7, 8, 9, 10, 11, 12, 13] (by kernel_rfl) (by kernel_rfl) (by kernel_rfl) ?h0 ?hs ?hfin
            case h0 =>
              refine ⟨?_, ?_, ?_, ?_, ?_, ?_, ?_, ?_, ?_, ?_, ?_, ?_, 0, 0, 0, none, 0, 0, none, 0, 0, ?eq, nofun, nofun, nofun, nofun, nofun, nofun, nofun, nofun, nofun, nofun, nofun, nofun, nofun, nofun, Mid.start _⟩
              case eq =>
                simp only [Act.put, List.setIfInBounds_toArray, List.set_cons_zero, List.set_cons_succ]
                try rfl
            case hs =>
              refine Steps.cons [] rfl (by kernel_rfl) ?p0 ?_
              case p0 =>
                rintro L a' wx hL hd ⟨v20, v21, v22, v23, v24, v19, v25, v26, v27, v4, v5, v6, gl, P7, P8, A1, n1, c1, A2, n2, c2, rfl, h0, h1, h2, h3, h4, h5, h6, h7, h8, h9, h10, h13, hC1, hC2, M⟩ K' hK
                have q0 := (M.be.cell (p := ⟨w.heap.size, 0, none⟩) (by dsimp only; omega)).trans b0; have q1 := (M.be.cell (p := ⟨w.heap.size, 1, none⟩) (by dsimp only; omega)).trans b1; have q2 := (M.be.cell (p := ⟨w.heap.size, 2, none⟩) (by dsimp only; omega)).trans b2
                simp only [Act.put, List.setIfInBounds_toArray, List.set_cons_zero, List.set_cons_succ]
                go_simp
                exact hK _ _ ⟨_, v21, v22, v23, v24, v19, v25, v26, v27, v4, v5, v6, gl, P7, P8, A1, n1, c1, A2, n2, c2, by simp only [Act.put, List.setIfInBounds_toArray, List.set_cons_zero, List.set_cons_succ], fun _ => rfl, h1, h2, h3, h4, h5, h6, h7, h8, h9, h10, h13, hC1, hC2, M⟩
              refine Steps.cons [] rfl (by kernel_rfl) ?p1 ?_
              case p1 =>
                rintro L a' wx hL hd ⟨v20, v21, v22, v23, v24, v19, v25, v26, v27, v4, v5, v6, gl, P7, P8, A1, n1, c1, A2, n2, c2, rfl, h0, h1, h2, h3, h4, h5, h6, h7, h8, h9, h10, h13, hC1, hC2, M⟩ K' hK
                simp only [Act.put, List.setIfInBounds_toArray, List.set_cons_zero, List.set_cons_succ]
                go_simp
                exact hK _ _ ⟨v20, _, v22, v23, v24, v19, v25, v26, v27, v4, v5, v6, gl, P7, P8, A1, n1, c1, A2, n2, c2, by simp only [Act.put, List.setIfInBounds_toArray, List.set_cons_zero, List.set_cons_succ], h0, fun _ => rfl, h2, h3, h4, h5, h6, h7, h8, h9, h10, h13, hC1, hC2, M⟩
              refine Steps.cons [1] rfl (by kernel_rfl) ?p2 ?_
              case p2 =>
                rintro L a' wx hL hd ⟨v20, v21, v22, v23, v24, v19, v25, v26, v27, v4, v5, v6, gl, P7, P8, A1, n1, c1, A2, n2, c2, rfl, h0, h1, h2, h3, h4, h5, h6, h7, h8, h9, h10, h13, hC1, hC2, M⟩ K' hK
                have e1 := h1 (hd 1 (by simp)); subst e1
                simp only [Act.put, List.setIfInBounds_toArray, List.set_cons_zero, List.set_cons_succ]
                go_simp
                exact hK _ _ ⟨v20, _, _, v23, v24, v19, v25, v26, v27, v4, v5, v6, gl, P7, P8, A1, n1, c1, A2, n2, c2, by simp only [Act.put, List.setIfInBounds_toArray, List.set_cons_zero, List.set_cons_succ], h0, h1, fun _ => rfl, h3, h4, h5, h6, h7, h8, h9, h10, h13, hC1, hC2, M⟩
              refine Steps.cons [2] rfl (by kernel_rfl) ?p3 ?_
              case p3 =>
                rintro L a' wx hL hd ⟨v20, v21, v22, v23, v24, v19, v25, v26, v27, v4, v5, v6, gl, P7, P8, A1, n1, c1, A2, n2, c2, rfl, h0, h1, h2, h3, h4, h5, h6, h7, h8, h9, h10, h13, hC1, hC2, M⟩ K' hK
                have e2 := h2 (hd 2 (by simp)); subst e2
                have q0 := (M.be.cell (p := ⟨gk, 0, none⟩) (by dsimp only; omega)).trans k0; have q1 := (M.be.cell (p := ⟨gk, 1, none⟩) (by dsimp only; omega)).trans k1
                simp only [Act.put, List.setIfInBounds_toArray, List.set_cons_zero, List.set_cons_succ]
                go_simp
                exact hK _ _ ⟨v20, v21, _, _, v24, v19, v25, v26, v27, v4, v5, v6, gl, P7, P8, A1, n1, c1, A2, n2, c2, by simp only [Act.put, List.setIfInBounds_toArray, List.set_cons_zero, List.set_cons_succ], h0, h1, h2, fun _ => rfl, h4, h5, h6, h7, h8, h9, h10, h13, hC1, hC2, M⟩
              refine Steps.cons [0, 3] rfl (by kernel_rfl) ?p4 ?_
              case p4 =>
                rintro L a' wx hL hd ⟨v20, v21, v22, v23, v24, v19, v25, v26, v27, v4, v5, v6, gl, P7, P8, A1, n1, c1, A2, n2, c2, rfl, h0, h1, h2, h3, h4, h5, h6, h7, h8, h9, h10, h13, hC1, hC2, M⟩ K' hK
                have l11 : L 11 = false := Bool.eq_false_iff.2 (fun e => absurd (hC1 e).1 (by rw [hL]; nofun))
                have l12 : L 12 = false := Bool.eq_false_iff.2 (fun e => absurd (hC2 e) (by rw [l11]; nofun))
                have rw_ : RdP wx wx.heap.size _ n ps := (H.out.below' (HBW.out.trans (M.be.mono HBW.out.size)) (by have := M.be.size; omega))
                have e0 := h0 (hd 0 (by simp)); subst e0
                have e3 := h3 (hd 3 (by simp)); subst e3
                simp only [Act.put, List.setIfInBounds_toArray, List.set_cons_zero, List.set_cons_succ]
                go_simp
                refine (spec_SplitLayout _ _ _ _ _ ps _ _ _ rw_).mono ?_
                rintro e w' ⟨A1', n1', c1', A2', n2', c2', rfl, o1, o2, ap, hb⟩
                have M' := (M.cast hL rfl rfl l11 l12).call hb o1 o2 ap
                go_simp
                exact hK _ _ ⟨_, v21, v22, _, _, v19, v25, v26, v27, v4, v5, v6, gl, P7, P8, A1', n1', c1', A2', n2', c2', by simp only [Act.put, List.setIfInBounds_toArray, List.set_cons_zero, List.set_cons_succ], h0, h1, h2, h3, fun _ => rfl, fun e => absurd (h5 e).1 (by rw [hL]; nofun), fun e => absurd (h6 e).1 (by rw [hL]; nofun), fun e => absurd (h7 e).1 (by rw [hL]; nofun), h8, h9, h10, h13, fun e => absurd (hC1 e).1 (by rw [hL]; nofun), hC2, M'.cast rfl rfl rfl l11.symm l12.symm⟩
              refine Steps.cons [4] rfl (by kernel_rfl) ?p5 ?_
              case p5 =>
                rintro L a' wx hL hd ⟨v20, v21, v22, v23, v24, v19, v25, v26, v27, v4, v5, v6, gl, P7, P8, A1, n1, c1, A2, n2, c2, rfl, h0, h1, h2, h3, h4, h5, h6, h7, h8, h9, h10, h13, hC1, hC2, M⟩ K' hK
                have e4 := h4 (hd 4 (by simp)); subst e4
                simp only [Act.put, List.setIfInBounds_toArray, List.set_cons_zero, List.set_cons_succ]
                go_simp
                exact hK _ _ ⟨v20, v21, v22, v23, _, _, v25, v26, v27, v4, v5, v6, gl, P7, P8, A1, n1, c1, A2, n2, c2, by simp only [Act.put, List.setIfInBounds_toArray, List.set_cons_zero, List.set_cons_succ], h0, h1, h2, h3, h4, fun _ => ⟨hd 4 (by simp), rfl⟩, h6, h7, h8, h9, h10, h13, hC1, hC2, M⟩
              refine Steps.cons [5] rfl (by kernel_rfl) ?p6 ?_
              case p6 =>
                rintro L a' wx hL hd ⟨v20, v21, v22, v23, v24, v19, v25, v26, v27, v4, v5, v6, gl, P7, P8, A1, n1, c1, A2, n2, c2, rfl, h0, h1, h2, h3, h4, h5, h6, h7, h8, h9, h10, h13, hC1, hC2, M⟩ K' hK
                have hc := (h5 (hd 5 (by simp))).1
                have e5 := (h5 (hd 5 (by simp))).2; subst e5
                have e4 := h4 hc; subst e4
                simp only [Act.put, List.setIfInBounds_toArray, List.set_cons_zero, List.set_cons_succ]
                go_simp
                exact hK _ _ ⟨v20, v21, v22, v23, _, _, _, v26, v27, v4, v5, v6, gl, P7, P8, A1, n1, c1, A2, n2, c2, by simp only [Act.put, List.setIfInBounds_toArray, List.set_cons_zero, List.set_cons_succ], h0, h1, h2, h3, h4, h5, fun _ => ⟨hc, rfl⟩, h7, h8, h9, h10, h13, hC1, hC2, M⟩
              refine Steps.cons [5] rfl (by kernel_rfl) ?p7 ?_
              case p7 =>
                rintro L a' wx hL hd ⟨v20, v21, v22, v23, v24, v19, v25, v26, v27, v4, v5, v6, gl, P7, P8, A1, n1, c1, A2, n2, c2, rfl, h0, h1, h2, h3, h4, h5, h6, h7, h8, h9, h10, h13, hC1, hC2, M⟩ K' hK
                have hc := (h5 (hd 5 (by simp))).1
                have e5 := (h5 (hd 5 (by simp))).2; subst e5
                have e4 := h4 hc; subst e4
                simp only [Act.put, List.setIfInBounds_toArray, List.set_cons_zero, List.set_cons_succ]
                go_simp
                exact hK _ _ ⟨v20, v21, v22, v23, _, _, v25, _, v27, v4, v5, v6, gl, P7, P8, A1, n1, c1, A2, n2, c2, by simp only [Act.put, List.setIfInBounds_toArray, List.set_cons_zero, List.set_cons_succ], h0, h1, h2, h3, h4, h5, h6, fun _ => ⟨hc, rfl⟩, h8, h9, h10, h13, hC1, hC2, M⟩
              refine Steps.cons [5] rfl (by kernel_rfl) ?p8 ?_
              case p8 =>
                rintro L a' wx hL hd ⟨v20, v21, v22, v23, v24, v19, v25, v26, v27, v4, v5, v6, gl, P7, P8, A1, n1, c1, A2, n2, c2, rfl, h0, h1, h2, h3, h4, h5, h6, h7, h8, h9, h10, h13, hC1, hC2, M⟩ K' hK
                have hc := (h5 (hd 5 (by simp))).1
                have e5 := (h5 (hd 5 (by simp))).2; subst e5
                have e4 := h4 hc; subst e4
                simp only [Act.put, List.setIfInBounds_toArray, List.set_cons_zero, List.set_cons_succ]
                go_simp
                exact hK _ _ ⟨v20, v21, v22, v23, _, _, v25, v26, _, v4, v5, v6, gl, P7, P8, A1, n1, c1, A2, n2, c2, by simp only [Act.put, List.setIfInBounds_toArray, List.set_cons_zero, List.set_cons_succ], h0, h1, h2, h3, h4, h5, h6, h7, fun _ => rfl, h9, h10, h13, hC1, hC2, M⟩
              refine Steps.cons [] rfl (by kernel_rfl) ?p9 ?_
              case p9 =>
                rintro L a' wx hL hd ⟨v20, v21, v22, v23, v24, v19, v25, v26, v27, v4, v5, v6, gl, P7, P8, A1, n1, c1, A2, n2, c2, rfl, h0, h1, h2, h3, h4, h5, h6, h7, h8, h9, h10, h13, hC1, hC2, M⟩ K' hK
                have l11 : L 11 = false := Bool.eq_false_iff.2 (fun e => absurd (hC1 e).2.1 (by rw [hL]; nofun))
                have l12 : L 12 = false := Bool.eq_false_iff.2 (fun e => absurd (hC2 e) (by rw [l11]; nofun))
                simp only [Act.put, List.setIfInBounds_toArray, List.set_cons_zero, List.set_cons_succ]
                go_simp
                have M' := (M.cast rfl hL rfl l11 rfl).alloc1 29
                have hb := (Below.refl wx.heap.size wx).alloc (Nat.le_refl _) (.cells #[.int .i64 0, .int .i64 0, .slice none 0 0] 29)
                exact hK _ _ ⟨v20, v21, v22, v23, v24, v19, v25, v26, v27, _, v5, v6, gl, wx.heap.size, P8, A1, n1, c1, A2, n2, c2, by simp only [Act.put, List.setIfInBounds_toArray, List.set_cons_zero, List.set_cons_succ], h0, h1, h2, h3, h4, h5, h6, h7, h8, fun _ => rfl, h10, h13, fun e => ⟨(hC1 e).1, rfl, (hC1 e).2.2⟩, hC2, M'.cast rfl rfl rfl l11.symm rfl⟩
              refine Steps.cons [] rfl (by kernel_rfl) ?p10 ?_
              case p10 =>
                rintro L a' wx hL hd ⟨v20, v21, v22, v23, v24, v19, v25, v26, v27, v4, v5, v6, gl, P7, P8, A1, n1, c1, A2, n2, c2, rfl, h0, h1, h2, h3, h4, h5, h6, h7, h8, h9, h10, h13, hC1, hC2, M⟩ K' hK
                have l11 : L 11 = false := Bool.eq_false_iff.2 (fun e => absurd (hC1 e).2.2 (by rw [hL]; nofun))
                have l12 : L 12 = false := Bool.eq_false_iff.2 (fun e => absurd (hC2 e) (by rw [l11]; nofun))
                simp only [Act.put, List.setIfInBounds_toArray, List.set_cons_zero, List.set_cons_succ]
                go_simp
                have M' := (M.cast rfl rfl hL rfl l12).alloc2 29
                have hb := (Below.refl wx.heap.size wx).alloc (Nat.le_refl _) (.cells #[.int .i64 0, .int .i64 0, .slice none 0 0] 29)
                exact hK _ _ ⟨v20, v21, v22, v23, v24, v19, v25, v26, v27, v4, _, v6, gl, P7, wx.heap.size, A1, n1, c1, A2, n2, c2, by simp only [Act.put, List.setIfInBounds_toArray, List.set_cons_zero, List.set_cons_succ], h0, h1, h2, h3, h4, h5, h6, h7, h8, h9, fun _ => rfl, h13, fun e => ⟨(hC1 e).1, (hC1 e).2.1, rfl⟩, hC2, M'.cast rfl rfl rfl rfl l12.symm⟩
              refine Steps.cons [4, 6, 9, 10] rfl (by kernel_rfl) ?p11 ?_
              case p11 =>
                rintro L a' wx hL hd ⟨v20, v21, v22, v23, v24, v19, v25, v26, v27, v4, v5, v6, gl, P7, P8, A1, n1, c1, A2, n2, c2, rfl, h0, h1, h2, h3, h4, h5, h6, h7, h8, h9, h10, h13, hC1, hC2, M⟩ K' hK
                have l12 : L 12 = false := Bool.eq_false_iff.2 (fun e => absurd (hC2 e) (by rw [hL]; nofun))
                have Q := M.cast (hd 4 (by simp)) (hd 9 (by simp)) (hd 10 (by simp)) hL l12
                have b0 := (Q.box1 rfl rfl).c0
                have b1 := (Q.box1 rfl rfl).c1
                have b2 := (Q.box1 rfl rfl).c2
                have bf := (Q.box1 rfl rfl).f
                have e4 := h4 (hd 4 (by simp)); subst e4
                have e6 := (h6 (hd 6 (by simp))).2; subst e6
                have e9 := h9 (hd 9 (by simp)); subst e9
                have e10 := h10 (hd 10 (by simp)); subst e10
                simp only [Act.put, List.setIfInBounds_toArray, List.set_cons_zero, List.set_cons_succ]
                go_simp
                have M' := Q.store1
                exact hK _ _ ⟨v20, v21, v22, v23, _, v19, _, v26, v27, _, _, v6, gl, P7, P8, A1, n1, c1, A2, n2, c2, by simp only [Act.put, List.setIfInBounds_toArray, List.set_cons_zero, List.set_cons_succ], h0, h1, h2, h3, h4, h5, h6, h7, h8, h9, h10, h13, fun _ => ⟨hd 4 (by simp), hd 9 (by simp), hd 10 (by simp)⟩, fun _ => rfl, M'.cast (hd 4 (by simp)).symm (hd 9 (by simp)).symm (hd 10 (by simp)).symm rfl l12.symm⟩
              refine Steps.cons [4, 7, 9, 10, 11] rfl (by kernel_rfl) ?p12 ?_
              case p12 =>
                rintro L a' wx hL hd ⟨v20, v21, v22, v23, v24, v19, v25, v26, v27, v4, v5, v6, gl, P7, P8, A1, n1, c1, A2, n2, c2, rfl, h0, h1, h2, h3, h4, h5, h6, h7, h8, h9, h10, h13, hC1, hC2, M⟩ K' hK
                have Q := M.cast (hd 4 (by simp)) (hd 9 (by simp)) (hd 10 (by simp)) (hd 11 (by simp)) hL
                have b0 := (Q.box2 rfl rfl).c0
                have b1 := (Q.box2 rfl rfl).c1
                have b2 := (Q.box2 rfl rfl).c2
                have bf := (Q.box2 rfl rfl).f
                have e4 := h4 (hd 4 (by simp)); subst e4
                have e7 := (h7 (hd 7 (by simp))).2; subst e7
                have e9 := h9 (hd 9 (by simp)); subst e9
                have e10 := h10 (hd 10 (by simp)); subst e10
                simp only [Act.put, List.setIfInBounds_toArray, List.set_cons_zero, List.set_cons_succ]
                go_simp
                have M' := Q.store2
                exact hK _ _ ⟨v20, v21, v22, v23, _, v19, v25, _, v27, _, _, v6, gl, P7, P8, A1, n1, c1, A2, n2, c2, by simp only [Act.put, List.setIfInBounds_toArray, List.set_cons_zero, List.set_cons_succ], h0, h1, h2, h3, h4, h5, h6, h7, h8, h9, h10, h13, hC1, fun _ => hd 11 (by simp), M'.cast (hd 4 (by simp)).symm (hd 9 (by simp)).symm (hd 10 (by simp)).symm (hd 11 (by simp)).symm rfl⟩
              refine Steps.cons [8] rfl (by kernel_rfl) ?p13 ?_
              case p13 =>
                rintro L a' wx hL hd ⟨v20, v21, v22, v23, v24, v19, v25, v26, v27, v4, v5, v6, gl, P7, P8, A1, n1, c1, A2, n2, c2, rfl, h0, h1, h2, h3, h4, h5, h6, h7, h8, h9, h10, h13, hC1, hC2, M⟩ K' hK
                have e8 := h8 (hd 8 (by simp)); subst e8
                simp only [Act.put, List.setIfInBounds_toArray, List.set_cons_zero, List.set_cons_succ]
                go_simp
                exact hK _ _ ⟨v20, v21, v22, v23, v24, v19, v25, v26, _, v4, v5, _, gl, P7, P8, A1, n1, c1, A2, n2, c2, by simp only [Act.put, List.setIfInBounds_toArray, List.set_cons_zero, List.set_cons_succ], h0, h1, h2, h3, h4, h5, h6, h7, h8, h9, h10, fun _ => rfl, hC1, hC2, M⟩
              exact Steps.nil
            case hfin =>
              rintro L a' wx hl ⟨v20, v21, v22, v23, v24, v19, v25, v26, v27, v4, v5, v6, gl, P7, P8, A1, n1, c1, A2, n2, c2, rfl, h0, h1, h2, h3, h4, h5, h6, h7, h8, h9, h10, h13, hC1, hC2, M⟩
              have e9 := h9 (hl 9 (by simp)); subst e9
              have e10 := h10 (hl 10 (by simp)); subst e10
              have e13 := h13 (hl 13 (by simp)); subst e13
              have Q := Lib.hid (M.cast (hl 4 (by simp)) (hl 9 (by simp)) (hl 10 (by simp)) (hl 11 (by simp)) (hl 12 (by simp)))
              clear M h0 h1 h2 h3 h4 h5 h6 h7 h8 h9 h10 h13 hC1 hC2
              simp only [Act.put, List.setIfInBounds_toArray, List.set_cons_zero, List.set_cons_succ]
              go_wp2_with fail
              go_meet
              case rel => exact ⟨P7, P8, A1, n1, c1, A2, n2, c2, rfl, rfl, rfl, Q⟩
          case rest =>
          rename World => w5
          obtain ⟨P4, P5, A1, n1, c1, A2, n2, c2, rfl, rfl, rfl, hM⟩ := hcut
          have M1 := Lib.hid (hM.out.full1 rfl rfl)
          have M2 := Lib.hid (hM.out.full2 rfl rfl)
          have O1 := Lib.hid (hM.out.row1 rfl)
          have O2 := Lib.hid (hM.out.row2 rfl)
          have HB5 := Lib.hid (HBW.out.trans (hM.out.be.mono HBW.out.size))
          clear hM b0 b1 b2 k0 k1
          rw [show spZ1 z y ps u a = dvZ1 u z a from if_pos HCUT.out, show spY1 z y ps u a = dvY1 u y a from if_pos HCUT.out] at M1
          rw [show spZ2 z y ps u a = dvZ2 u z a from if_pos HCUT.out, show spY2 z y ps u a = dvY2 u y a from if_pos HCUT.out] at M2
          rw [show spL1 z y ps u a = fstL u a ps from if_pos HCUT.out] at O1
          rw [show spL2 z y ps u a = sndL u a ps from if_pos HCUT.out] at O2
          have b0 := M1.out.c0
          have b1 := M1.out.c1
          have b2 := M1.out.c2
          go_wp2_with fail
          refine (IH.out _ _ _ _ _ (fstL u a ps) _ ((O1.out.rd Pt.len).below' (by go_grown) (by go_size)) (by omega)).mono ?_
          rintro e w6 ⟨rfl, hb6⟩
          have M3 := Lib.hid (M2.out.next hb6)
          have O3 := Lib.hid (O2.out.next hb6)
          have HB6 := Lib.hid (HB5.out.trans (hb6.mono HB5.out.size))
          clear hb6 b0 b1 b2
          have b0 := M3.out.c0
          have b1 := M3.out.c1
          have b2 := M3.out.c2
          cases hs1 : sewB f (dvZ1 u z a) (dvY1 u y a) (fstL u a ps) with
          | false =>
            have HF := Lib.hid (show sewB (f + 1) z y ps = false by rw [HS.out, hs1]; rfl)
            go_wp2
            go_ret
            exact ⟨ret_bool HF.out.symm, HB6.out⟩
          | true =>
            have HF := Lib.hid (show sewB (f + 1) z y ps = sewB f (dvZ2 u z a) (dvY2 u y a) (sndL u a ps) by rw [HS.out, hs1]; rfl)
            go_wp2_with fail
            refine (IH.out _ _ _ _ _ (sndL u a ps) _ ((O3.out.rd Pt.len).below' (by go_grown) (by go_size)) (by omega)).mono ?_
            rintro e w7 ⟨rfl, hb7⟩
            have HB7 := Lib.hid (HB6.out.trans (hb7.mono HB6.out.size))
            clear hb7
            go_wp2
            go_ret
            exact ⟨ret_bool HF.out.symm, HB7.out⟩

end Go.Proofs.Ytlcllpgbpjdofaa
