/- The walk of l09Cut: a drawn layout is one. No condition. -/
import Derived.Test.YtlcllpgbpjdofaaLb
import Derived.Deep.DeepCutAuto
set_option linter.unusedSimpArgs false
set_option linter.unusedVariables false
set_option maxRecDepth 100000
namespace Go.Proofs.Ytlcllpgbpjdofaa
open Go.RowKit

set_option maxRecDepth 100000 in
set_option maxHeartbeats 40000000 in
theorem spec_l09Cut (B g : Nat) (A : Option Addr) (n c : Nat) (w : World) (h : Cur w B g A n c) :
    Calls Try.prog 66 #[.pointer (some ⟨g, 0, none⟩)] w (DrawnL w B g A n c) := by
  have hs := lt2
  have HC := Lib.hid h
  have hgw := h.2.1
  have hBg := h.1
  clear h
  go_enter Try.func66, Try.ntmps66
  go_wp2_with fail
  refine (spec_l01Below _ _ _ _ _ _ _ (HC.out.next ((Below.refl _ _).alloc (Nat.le_refl _) _))).mono ?_
  rintro e w1 ⟨x, px, rfl, hc1, hg1⟩
  have H1 := Lib.hid hc1
  have X1 := Lib.hid hg1
  have G1 := Lib.hid (grown_tr (gG_alloc (gG_refl w (some g)) _) hg1)
  have s1 := hg1.size
  try simp only [World.size_alloc, World.size_setCell] at s1
  clear hc1 hg1
  obtain ⟨x_0, x_1⟩ := px.2 (by omega)
  clear px
  go_wp2_with fail
  refine (spec_l01Below _ _ _ _ _ _ _ H1.out).mono ?_
  rintro e w2 ⟨x2, px, rfl, hc1, hg1⟩
  have H2 := Lib.hid hc1
  have X2 := Lib.hid hg1
  have G2 := Lib.hid (grown_tr G1.out hg1)
  have s2 := hg1.size
  try simp only [World.size_alloc, World.size_setCell] at s2
  clear hc1 hg1
  obtain ⟨x2_0, x2_1⟩ := px.2 (by omega)
  clear px
  have Z2 := Lib.hid (((Box3.mk_ w 0 0 none 0 0 29).grown X1.out (fun e => absurd (Option.some.inj e) (by omega))).grown X2.out (fun e => absurd (Option.some.inj e) (by omega)))
  have W3 := Lib.hid (show Below w2.heap.size w2 ((w2.alloc (.cells #[.int .i64 (2 + x), .int .i64 (2 + x2), .slice (some ⟨w2.heap.size + 1, 0, none⟩) 1 1] 29)).alloc (.cells #[.int .i64 0, .int .i64 0, .int .i64 (2 + x), .int .i64 (2 + x2), .int .i64 0] 34)) from ((Below.refl _ _).alloc (Nat.le_refl _) _).alloc (by simp) _)
  have C3 := Lib.hid (H2.out.next W3.out)
  go_wp2_with fail
  refine (spec_l01Once _ _ _ _ _ _ _ C3.out).mono ?_
  rintro e w3 ⟨bo, rfl, hc1, hg1⟩
  have H3 := Lib.hid hc1
  have X3 := Lib.hid hg1
  have G3 := Lib.hid (grown_tr (gG_alloc (gG_alloc G2.out _) _) hg1)
  have s3 := hg1.size
  simp only [World.size_alloc] at s3
  clear hc1 hg1
  have Z3 := Lib.hid ((Z2.out.next W3.out).grown X3.out (fun e => absurd (Option.some.inj e) (by omega)))
  have Y3 := Lib.hid (((Box3.mk_ w2 (2 + x) (2 + x2) (some ⟨w2.heap.size + 1, 0, none⟩) 1 1 29).next ((Below.refl _ _).alloc (Nat.le_refl _) _)).grown X3.out (fun e => absurd (Option.some.inj e) (by omega)))
  have O3 := Lib.hid (show OwnP w3 (w2.heap.size + 1) (some ⟨w2.heap.size + 1, 0, none⟩) 1 1 [⟨0, 0, 2 + x, 2 + x2, 0⟩] from by
    have h := OwnP.litAt (w := (w2.alloc (.cells #[.int .i64 (2 + x), .int .i64 (2 + x2), .slice (some ⟨w2.heap.size + 1, 0, none⟩) 1 1] 29))) (B := w2.heap.size + 1) (g := w2.heap.size + 1) (n := 1) (cs := #[.int .i64 0, .int .i64 0, .int .i64 (2 + x), .int .i64 (2 + x2), .int .i64 0]) (xs := [⟨0, 0, 2 + x, 2 + x2, 0⟩]) (by simp) (Nat.le_refl _) rfl rfl (by omega)
    exact h.keep X3.out (fun q hq e => by have := (h.lt _ hq).1; cases e; omega))
  go_upto_if 26 with fail
  go_cut [] (fun wx => ∃ (z y : Int) (A' : Option Addr) (m c' : Nat) (ps : List Pt), w2.heap.size < wx.heap.size ∧ Hid (layB z y ps = true) ∧ Hid (Box3 wx w2.heap.size z y A' m c') ∧ Hid (Box3 wx w.heap.size 0 0 none 0 0) ∧ Hid (OwnP wx (w2.heap.size + 1) A' m c' ps) ∧ Hid (Cur wx B g A n c) ∧ Hid (w.grownBy wx (some g)))
  case first =>
    cases bo with
    | true =>
      obtain ⟨y0, y1, y2, yf, ylt⟩ := Y3.out
      go_wp2_with fail
      refine (spec_SampleLayout _).mono ?_
      rintro e w4 ⟨gs, rfl, ho4, hb4⟩
      have O4 := Lib.hid ho4
      have s4 := hb4.size
      have C4 := Lib.hid (H3.out.next hb4)
      have G4 := Lib.hid (grown_tr G3.out (grown_of_below hb4 _))
      have Z4 := Lib.hid (Z3.out.next hb4)
      have Y4 := Lib.hid (Y3.out.next hb4)
      clear ho4 hb4 y0 y1 y2 yf ylt
      obtain ⟨y0, y1, y2, yf, ylt⟩ := Y4.out
      have CC := Lib.hid (((C4.out.set_ (b := w2.heap.size) (by omega) (by omega) 0 (.int .i64 3)).set_ (b := w2.heap.size) (by omega) (by omega) 1 (.int .i64 3)).set_ (b := w2.heap.size) (by omega) (by omega) 2 (.slice (some ⟨gs, 0, none⟩) 5 5))
      have GG := Lib.hid (gG_setN (gG_setN (gG_setN G4.out (b := w2.heap.size) (by omega) 0 (.int .i64 3)) (b := w2.heap.size) (by omega) 1 (.int .i64 3)) (b := w2.heap.size) (by omega) 2 (.slice (some ⟨gs, 0, none⟩) 5 5))
      have Z5 := Lib.hid (((Z4.out.set_ (b := w2.heap.size) (by omega) 0 (.int .i64 3)).set_ (b := w2.heap.size) (by omega) 1 (.int .i64 3)).set_ (b := w2.heap.size) (by omega) 2 (.slice (some ⟨gs, 0, none⟩) 5 5))
      have Y5 := Lib.hid (Y4.out.all_ 3 3 (some ⟨gs, 0, none⟩) 5 5)
      have O5 := Lib.hid (((O4.out.set_ (p := ⟨w2.heap.size, 0, none⟩) (by dsimp only; omega) (.int .i64 3)).set_ (p := ⟨w2.heap.size, 1, none⟩) (by dsimp only; omega) (.int .i64 3)).set_ (p := ⟨w2.heap.size, 2, none⟩) (by dsimp only; omega) (.slice (some ⟨gs, 0, none⟩) 5 5))
      go_wp2
      go_meet
      case rel => exact ⟨3, 3, some ⟨gs, 0, none⟩, 5, 5, sampleL, by simp; omega, sample_lay, Y5, Z5, O5.out.base (by omega), CC, GG⟩
    | false =>
      go_wp2
      go_meet
      case rel => exact ⟨2 + x, 2 + x2, some ⟨w2.heap.size + 1, 0, none⟩, 1, 1, [⟨0, 0, 2 + x, 2 + x2, 0⟩], by omega, one_lay (by omega) (by omega) (by omega) (by omega), Y3, Z3, O3, H3, G3⟩
  case rest =>
    rename World => w4
    obtain ⟨z0, y0, A0, m0, c0, ps0, s4, L4, Y4, Z4, O4, C4, G4⟩ := hcut
    clear Z2 W3 C3 H3 X3 G3 s3 Z3 Y3 O3 H1 X1 G1 H2 X2 G2
    go_wp2_with fail
    refine (spec_l01Below _ _ _ _ _ _ _ C4.out).mono ?_
    rintro e w5 ⟨N, px, rfl, hc1, hg1⟩
    have H5 := Lib.hid hc1
    have X5 := Lib.hid hg1
    have G5 := Lib.hid (grown_tr G4.out hg1)
    have s5 := hg1.size
    try simp only [World.size_alloc, World.size_setCell] at s5
    clear hc1 hg1
    obtain ⟨N_0, N_1⟩ := px.2 (by omega)
    clear px
    obtain ⟨N, rfl⟩ := Int.eq_ofNat_of_zero_le N_0
    have Z5 := Lib.hid (Z4.out.grown X5.out (fun e => absurd (Option.some.inj e) (by omega)))
    have Y5 := Lib.hid (Y4.out.grown X5.out (fun e => absurd (Option.some.inj e) (by omega)))
    have O5 := Lib.hid (O4.out.keep X5.out (fun q hq e => by have := (O4.out.lt _ hq).1; cases e; omega))
    go_wp2
    go_loopw [5] (fun i wr => ∃ (k m c' : Nat) (z y : Int) (A' : Option Addr) (ps : List Pt), k ≤ N ∧ i = .int .i64 k ∧ w2.heap.size < wr.heap.size ∧ Hid (layB z y ps = true) ∧ Hid (Box3 wr w2.heap.size z y A' m c') ∧ Hid (Box3 wr w.heap.size 0 0 none 0 0) ∧ Hid (OwnP wr (w2.heap.size + 1) A' m c' ps) ∧ Hid (Cur wr B g A n c) ∧ Hid (w.grownBy wr (some g))) (fun i _ => N - (intOf i).toNat)
    case atStart => exact ⟨0, m0, c0, z0, y0, A0, ps0, by omega, rfl, by omega, L4, Y5, Z5, O5, H5, G5⟩
    case round =>
      obtain ⟨k, m, c', z, y, A', ps, hk, rfl, hwr, hl, hb3, hb2, ho, hc, hg⟩ := hrel
      obtain ⟨b0, b1, b2, bf, blt⟩ := hb3.out
      have HL := Lib.hid ho.out.len
      obtain ⟨_, _, _, _, m1, m2⟩ := dimOk_t (layB_p hl.out).1
      rw [HL.out] at m1 m2
      by_cases hlt : k < N
      · by_cases hm : m < 12
        · have hi1 : (k : Int) < (N : Int) := by omega
          have hi2 : (m : Int) < 12 := by omega
          go_wp2_with fail
          refine (spec_l01Below _ _ _ _ _ _ _ hc.out).mono ?_
          rintro e wa ⟨i, px, rfl, hc1, hg1⟩
          have Ha := Lib.hid hc1
          have Xa := Lib.hid hg1
          have Ga := Lib.hid (grown_tr hg.out hg1)
          have sa := hg1.size
          try simp only [World.size_alloc, World.size_setCell] at sa
          clear hc1 hg1
          obtain ⟨i_0, i_1⟩ := px.2 (by omega)
          clear px
          obtain ⟨j, rfl⟩ := Int.eq_ofNat_of_zero_le i_0
          have hjm : j < m := by omega
          have AO := Lib.hid (ho.out.keep Xa.out (fun q hq e => by have := (ho.out.lt _ hq).1; cases e; omega))
          obtain ⟨gr, rfl, hgr1, hgr2⟩ := AO.out.form (by omega)
          obtain ⟨d0, d1, d2, d3, d4⟩ := OwnP.at5 AO.out hjm
          obtain ⟨e1, e2, e3, e4, e5, e6, e7, e8⟩ := okPt_t ((layB_p hl.out).2.1 j (by rw [HL.out]; exact hjm))
          obtain ⟨b1z, b2z, b3z, b4z, _, _⟩ := dimOk_t (layB_p hl.out).1
          have A3 := Lib.hid (hb3.out.grown Xa.out (fun e => absurd (Option.some.inj e) (by omega)))
          have A2 := Lib.hid (hb2.out.grown Xa.out (fun e => absurd (Option.some.inj e) (by omega)))
          clear b0 b1 b2 bf blt
          obtain ⟨b0, b1, b2, bf, blt⟩ := A3.out
          have hcb := Lib.hid ((Ha.out.next ((Below.refl _ _).alloc (Nat.le_refl _) (.cells #[.int .i64 (pith ps j).x, .int .i64 (pith ps j).y, .int .i64 (pith ps j).w, .int .i64 (pith ps j).h, .int .i64 (pith ps j).c] 34))).next ((Below.refl _ _).alloc (Nat.le_refl _) (.cells #[.int .i64 (pith ps j).x, .int .i64 (pith ps j).y, .int .i64 (pith ps j).w, .int .i64 (pith ps j).h, .int .i64 (pith ps j).c] 34)))
          have B7 := Lib.hid ((Box5.mk_ wa (pith ps j) 34).next ((Below.refl _ _).alloc (Nat.le_refl _) (.cells #[.int .i64 (pith ps j).x, .int .i64 (pith ps j).y, .int .i64 (pith ps j).w, .int .i64 (pith ps j).h, .int .i64 (pith ps j).c] 34)))
          have B8 := Lib.hid (show Box5 ((wa.alloc (.cells #[.int .i64 (pith ps j).x, .int .i64 (pith ps j).y, .int .i64 (pith ps j).w, .int .i64 (pith ps j).h, .int .i64 (pith ps j).c] 34)).alloc (.cells #[.int .i64 (pith ps j).x, .int .i64 (pith ps j).y, .int .i64 (pith ps j).w, .int .i64 (pith ps j).h, .int .i64 (pith ps j).c] 34)) (wa.heap.size + 1) (pith ps j) from by
            have h := Box5.mk_ (wa.alloc (.cells #[.int .i64 (pith ps j).x, .int .i64 (pith ps j).y, .int .i64 (pith ps j).w, .int .i64 (pith ps j).h, .int .i64 (pith ps j).c] 34)) (pith ps j) 34
            simpa only [World.size_alloc] using h)
          go_upto_region 12 with fail
          go_cut [58] (fun s58 wx => ∃ q : Bool, s58 = .bool q ∧ (q = true → 1 < (pith ps j).w) ∧ Hid (Cur wx B g A n c) ∧ Hid (((wa.alloc (.cells #[.int .i64 (pith ps j).x, .int .i64 (pith ps j).y, .int .i64 (pith ps j).w, .int .i64 (pith ps j).h, .int .i64 (pith ps j).c] 34)).alloc (.cells #[.int .i64 (pith ps j).x, .int .i64 (pith ps j).y, .int .i64 (pith ps j).w, .int .i64 (pith ps j).h, .int .i64 (pith ps j).c] 34)).grownBy wx (some g)))
          case first =>
            go_wp2_with fail
            refine (spec_l01Once _ _ _ _ _ _ _ hcb.out).mono ?_
            rintro e wb ⟨bb, rfl, hc1, hg1⟩
            have Hb := Lib.hid hc1
            have Xb := Lib.hid hg1
            clear hc1 hg1
            have K7 := Lib.hid (B7.out.grown Xb.out (fun e => absurd (Option.some.inj e) (by omega)))
            clear d0 d1 d2 d3 d4 b0 b1 b2 bf blt
            obtain ⟨u0, u1, u2, u3, u4, uf, ult⟩ := K7.out
            cases bb with
            | true =>
              go_wp2
              go_meet
              case rel => exact ⟨decide (1 < (pith ps j).w), rfl, fun h => of_decide_eq_true h, Hb, Xb⟩
            | false =>
              go_wp2
              go_meet
              case rel => exact ⟨false, rfl, nofun, Hb, Xb⟩
          case rest =>
            rename World => wb
            obtain ⟨q, rfl, hq58, Hb, Xb⟩ := hcut
            have Gb := Lib.hid (grown_tr (gG_alloc (gG_alloc Ga.out _) _) Xb.out)
            have sb := Xb.out.size
            simp only [World.size_alloc] at sb
            have BL := Lib.hid (show Below wa.heap.size wa ((wa.alloc (.cells #[.int .i64 (pith ps j).x, .int .i64 (pith ps j).y, .int .i64 (pith ps j).w, .int .i64 (pith ps j).h, .int .i64 (pith ps j).c] 34)).alloc (.cells #[.int .i64 (pith ps j).x, .int .i64 (pith ps j).y, .int .i64 (pith ps j).w, .int .i64 (pith ps j).h, .int .i64 (pith ps j).c] 34)) from ((Below.refl _ _).alloc (Nat.le_refl _) _).alloc (by simp) _)
            replace B7 := Lib.hid (B7.out.grown Xb.out (fun e => absurd (Option.some.inj e) (by omega)))
            replace B8 := Lib.hid (B8.out.grown Xb.out (fun e => absurd (Option.some.inj e) (by omega)))
            have K3 := Lib.hid ((A3.out.next BL.out).grown Xb.out (fun e => absurd (Option.some.inj e) (by omega)))
            have K2 := Lib.hid ((A2.out.next BL.out).grown Xb.out (fun e => absurd (Option.some.inj e) (by omega)))
            have KO := Lib.hid ((AO.out.next BL.out).keep Xb.out (fun q hq e => by have := (AO.out.lt _ hq).1; cases e; omega))
            clear d0 d1 d2 d3 d4 b0 b1 b2 bf blt hcb BL
            obtain ⟨u0, u1, u2, u3, u4, uf, ult⟩ := B7.out
            obtain ⟨v0, v1, v2, v3, v4, vf, vlt⟩ := B8.out
            obtain ⟨k0, k1, k2, kf, klt⟩ := K3.out
            cases q with
            | true =>
              have hw1 := hq58 rfl
              clear hq58
              go_wp2_with fail
              refine (spec_l01Below _ _ _ _ _ _ _ Hb.out).mono ?_
              rintro e wc ⟨a, px, rfl, hc1, hg1⟩
              have Hc := Lib.hid hc1
              have Xc := Lib.hid hg1
              have Gc := Lib.hid (grown_tr Gb.out hg1)
              have sc := hg1.size
              try simp only [World.size_alloc, World.size_setCell] at sc
              clear hc1 hg1
              obtain ⟨a_0, a_1⟩ := px.2 (by omega)
              clear px
              clear u0 u1 u2 u3 u4 uf ult v0 v1 v2 v3 v4 vf vlt k0 k1 k2 kf klt
              have E7 := Lib.hid (B7.out.grown Xc.out (fun e => absurd (Option.some.inj e) (by omega)))
              have E8 := Lib.hid (B8.out.grown Xc.out (fun e => absurd (Option.some.inj e) (by omega)))
              have E3 := Lib.hid (K3.out.grown Xc.out (fun e => absurd (Option.some.inj e) (by omega)))
              have E2 := Lib.hid (K2.out.grown Xc.out (fun e => absurd (Option.some.inj e) (by omega)))
              have EO := Lib.hid (KO.out.keep Xc.out (fun q hq e => by have := (AO.out.lt _ hq).1; cases e; omega))
              have R1 := Lib.hid (E8.out.s0 ((pith ps j).x + (1 + a)))
              have R2 := Lib.hid (R1.out.s2 ((pith ps j).w - (1 + a)))
              obtain ⟨u0, u1, u2, u3, u4, uf, ult⟩ := E7.out
              obtain ⟨v0, v1, v2, v3, v4, vf, vlt⟩ := E8.out
              have hwrap : IntKind.i64.wrap ((pith ps j).x + (1 + a)) = (pith ps j).x + (1 + a) := IntWalk.i64_in _ (by omega)
              have hne78 : wa.heap.size + 1 ≠ wa.heap.size := by omega
              have hne87 : wa.heap.size ≠ wa.heap.size + 1 := by omega
              have HCc := Lib.hid (((Hc.out.set_ (b := wa.heap.size + 1) (by omega) (by omega) 0 (.int .i64 ((pith ps j).x + (1 + a)))).set_ (b := wa.heap.size + 1) (by omega) (by omega) 2 (.int .i64 ((pith ps j).w - (1 + a)))).set_ (b := wa.heap.size) (by omega) (by omega) 2 (.int .i64 (1 + a)))
              have GCc := Lib.hid (gG_setN (gG_setN (gG_setN Gc.out (b := wa.heap.size + 1) (by omega) 0 (.int .i64 ((pith ps j).x + (1 + a)))) (b := wa.heap.size + 1) (by omega) 2 (.int .i64 ((pith ps j).w - (1 + a)))) (b := wa.heap.size) (by omega) 2 (.int .i64 (1 + a)))
              go_wp2_with fail
              refine (spec_l01Below _ _ _ _ _ _ _ HCc.out).mono ?_
              rintro e wd ⟨col, px, rfl, hc1, hg1⟩
              have Hd := Lib.hid hc1
              have Xd := Lib.hid hg1
              have Gd := Lib.hid (grown_tr GCc.out hg1)
              have sd := hg1.size
              try simp only [World.size_alloc, World.size_setCell] at sd
              clear hc1 hg1
              obtain ⟨col_0, col_1⟩ := px.2 (by omega)
              clear px hwrap
              clear u0 u1 u2 u3 u4 uf ult v0 v1 v2 v3 v4 vf vlt
              have J7 := Lib.hid ((((E7.out.set_ (b := wa.heap.size + 1) (by omega) _ _).set_ (b := wa.heap.size + 1) (by omega) _ _).s2 (1 + a)).grown Xd.out (fun e => absurd (Option.some.inj e) (by omega)))
              have J8 := Lib.hid ((R2.out.set_ (b := wa.heap.size) (by omega) _ _).grown Xd.out (fun e => absurd (Option.some.inj e) (by omega)))
              have J3 := Lib.hid ((((E3.out.set_ (b := wa.heap.size + 1) (by omega) _ _).set_ (b := wa.heap.size + 1) (by omega) _ _).set_ (b := wa.heap.size) (by omega) _ _).grown Xd.out (fun e => absurd (Option.some.inj e) (by omega)))
              have J2 := Lib.hid ((((E2.out.set_ (b := wa.heap.size + 1) (by omega) _ _).set_ (b := wa.heap.size + 1) (by omega) _ _).set_ (b := wa.heap.size) (by omega) _ _).grown Xd.out (fun e => absurd (Option.some.inj e) (by omega)))
              have F1 := grown_tr (gG_set (gG_refl wc (some (wa.heap.size + 1))) 0 (.int .i64 ((pith ps j).x + (1 + a)))) (gG_set (gG_refl _ (some (wa.heap.size + 1))) 2 (.int .i64 ((pith ps j).w - (1 + a))))
              have JO1 := EO.out.keep F1 (fun q hq e => by have := (AO.out.lt _ hq).2; cases e; omega)
              have JO2 := JO1.keep (gG_set (gG_refl _ (some wa.heap.size)) 2 (.int .i64 (1 + a))) (fun q hq e => by have := (AO.out.lt _ hq).2; cases e; omega)
              have JO := Lib.hid (JO2.keep Xd.out (fun q hq e => by have := (AO.out.lt _ hq).1; cases e; omega))
              clear F1 JO1 JO2
              have T8 := Lib.hid (J8.out.s4 col)
              obtain ⟨u0, u1, u2, u3, u4, uf, ult⟩ := J7.out
              obtain ⟨v0, v1, v2, v3, v4, vf, vlt⟩ := J8.out
              obtain ⟨k0, k1, k2, kf, klt⟩ := J3.out
              have q0 := JO.out.keep (gG_set (gG_refl wd (some (wa.heap.size + 1))) 4 (.int .i64 col)) (fun q hq e => by have := (AO.out.lt _ hq).2; cases e; omega)
              have s1 := OwnP.st0 q0 hjm (⟨(pith ps j).x, (pith ps j).y, 1 + a, (pith ps j).h, (pith ps j).c⟩ : Pt).x
              have s2 := OwnP.st1 s1.1 hjm (⟨(pith ps j).x, (pith ps j).y, 1 + a, (pith ps j).h, (pith ps j).c⟩ : Pt).y
              have s3 := OwnP.st2 s2.1 hjm (⟨(pith ps j).x, (pith ps j).y, 1 + a, (pith ps j).h, (pith ps j).c⟩ : Pt).w
              have s4 := OwnP.st3 s3.1 hjm (⟨(pith ps j).x, (pith ps j).y, 1 + a, (pith ps j).h, (pith ps j).c⟩ : Pt).h
              have s5 := OwnP.st4 s4.1 hjm (⟨(pith ps j).x, (pith ps j).y, 1 + a, (pith ps j).h, (pith ps j).c⟩ : Pt).c
              obtain ⟨d0, _⟩ := OwnP.at5 q0 hjm
              obtain ⟨_, d1, _⟩ := OwnP.at5 s1.1 hjm
              obtain ⟨_, _, d2, _⟩ := OwnP.at5 s2.1 hjm
              obtain ⟨_, _, _, d3, _⟩ := OwnP.at5 s3.1 hjm
              obtain ⟨_, _, _, _, d4⟩ := OwnP.at5 s4.1 hjm
              have f0 := q0.frozenAt (by omega) (j * 5)
              have f1 := s1.1.frozenAt (by omega) (j * 5 + 1)
              have f2 := s2.1.frozenAt (by omega) (j * 5 + 2)
              have f3 := s3.1.frozenAt (by omega) (j * 5 + 3)
              have f4 := s4.1.frozenAt (by omega) (j * 5 + 4)
              clear s1 s2 s3 s4
              have S5 := Lib.hid (show OwnP ((((((wd.setCell ⟨wa.heap.size + 1, 4, none⟩ (.int .i64 col)).setCell ⟨gr, j * 5, none⟩ (.int .i64 ((pith ps j).x))).setCell ⟨gr, j * 5 + 1, none⟩ (.int .i64 ((pith ps j).y))).setCell ⟨gr, j * 5 + 2, none⟩ (.int .i64 (1 + a))).setCell ⟨gr, j * 5 + 3, none⟩ (.int .i64 ((pith ps j).h))).setCell ⟨gr, j * 5 + 4, none⟩ (.int .i64 ((pith ps j).c))) (w2.heap.size + 1) (some ⟨gr, 0, none⟩) m c' (ps.set j ⟨(pith ps j).x, (pith ps j).y, 1 + a, (pith ps j).h, (pith ps j).c⟩) from OwnP.st_all q0 hjm ⟨(pith ps j).x, (pith ps j).y, 1 + a, (pith ps j).h, (pith ps j).c⟩)
              clear q0
              have HSP := Lib.hid (split_x (k := col) hl.out (show j < ps.length by rw [HL.out]; exact hjm) (show ps.length < 12 by rw [HL.out]; exact hm) (show 1 ≤ 1 + a by omega) (show 1 + a < (pith ps j).w by omega) col_0 (by omega))
              have N3 := Lib.hid (show Box3 ((((((wd.setCell ⟨wa.heap.size + 1, 4, none⟩ (.int .i64 col)).setCell ⟨gr, j * 5, none⟩ (.int .i64 ((pith ps j).x))).setCell ⟨gr, j * 5 + 1, none⟩ (.int .i64 ((pith ps j).y))).setCell ⟨gr, j * 5 + 2, none⟩ (.int .i64 (1 + a))).setCell ⟨gr, j * 5 + 3, none⟩ (.int .i64 ((pith ps j).h))).setCell ⟨gr, j * 5 + 4, none⟩ (.int .i64 ((pith ps j).c))) w2.heap.size z y (some ⟨gr, 0, none⟩) m c' from (((((J3.out.set_ (b := wa.heap.size + 1) (by omega) _ _).set_ (b := gr) (by omega) _ _).set_ (b := gr) (by omega) _ _).set_ (b := gr) (by omega) _ _).set_ (b := gr) (by omega) _ _).set_ (b := gr) (by omega) _ _)
              have N2 := Lib.hid (show Box3 ((((((wd.setCell ⟨wa.heap.size + 1, 4, none⟩ (.int .i64 col)).setCell ⟨gr, j * 5, none⟩ (.int .i64 ((pith ps j).x))).setCell ⟨gr, j * 5 + 1, none⟩ (.int .i64 ((pith ps j).y))).setCell ⟨gr, j * 5 + 2, none⟩ (.int .i64 (1 + a))).setCell ⟨gr, j * 5 + 3, none⟩ (.int .i64 ((pith ps j).h))).setCell ⟨gr, j * 5 + 4, none⟩ (.int .i64 ((pith ps j).c))) w.heap.size 0 0 none 0 0 from (((((J2.out.set_ (b := wa.heap.size + 1) (by omega) _ _).set_ (b := gr) (by omega) _ _).set_ (b := gr) (by omega) _ _).set_ (b := gr) (by omega) _ _).set_ (b := gr) (by omega) _ _).set_ (b := gr) (by omega) _ _)
              have NC := Lib.hid (show Cur ((((((wd.setCell ⟨wa.heap.size + 1, 4, none⟩ (.int .i64 col)).setCell ⟨gr, j * 5, none⟩ (.int .i64 ((pith ps j).x))).setCell ⟨gr, j * 5 + 1, none⟩ (.int .i64 ((pith ps j).y))).setCell ⟨gr, j * 5 + 2, none⟩ (.int .i64 (1 + a))).setCell ⟨gr, j * 5 + 3, none⟩ (.int .i64 ((pith ps j).h))).setCell ⟨gr, j * 5 + 4, none⟩ (.int .i64 ((pith ps j).c))) B g A n c from (((((Hd.out.set_ (b := wa.heap.size + 1) (by omega) (by omega) _ _).set_ (b := gr) (by omega) (by omega) _ _).set_ (b := gr) (by omega) (by omega) _ _).set_ (b := gr) (by omega) (by omega) _ _).set_ (b := gr) (by omega) (by omega) _ _).set_ (b := gr) (by omega) (by omega) _ _)
              have NG := Lib.hid (show w.grownBy ((((((wd.setCell ⟨wa.heap.size + 1, 4, none⟩ (.int .i64 col)).setCell ⟨gr, j * 5, none⟩ (.int .i64 ((pith ps j).x))).setCell ⟨gr, j * 5 + 1, none⟩ (.int .i64 ((pith ps j).y))).setCell ⟨gr, j * 5 + 2, none⟩ (.int .i64 (1 + a))).setCell ⟨gr, j * 5 + 3, none⟩ (.int .i64 ((pith ps j).h))).setCell ⟨gr, j * 5 + 4, none⟩ (.int .i64 ((pith ps j).c))) (some g) from gG_setN (gG_setN (gG_setN (gG_setN (gG_setN (gG_setN Gd.out (b := wa.heap.size + 1) (by omega) _ _) (b := gr) (by omega) _ _) (b := gr) (by omega) _ _) (b := gr) (by omega) _ _) (b := gr) (by omega) _ _) (b := gr) (by omega) _ _)
              have hg8 : wa.heap.size + 1 ≠ gr := by omega
              have hg7 : wa.heap.size ≠ gr := by omega
              have hg3 : w2.heap.size ≠ gr := by omega
              have hg8' : gr ≠ wa.heap.size + 1 := by omega
              have hg7' : gr ≠ wa.heap.size := by omega
              have hg3' : gr ≠ w2.heap.size := by omega
              have h83 : wa.heap.size + 1 ≠ w2.heap.size := by omega
              go_wp2_with (at_builtin; refine wpList_pushP' _ ⟨(pith ps j).x + (1 + a), (pith ps j).y, (pith ps j).w - (1 + a), (pith ps j).h, col⟩ rfl _ _ rfl rfl (w2.heap.size + 1) _ _ _ _ rfl S5.out rfl (by simp) (by omega) (by simp; omega) ?_; intro g5 c5 w6 ho5 hg5 hn5; have O5 := Lib.hid ho5; have sz5 := hg5.size; (try simp at sz5); have M3 := Lib.hid (N3.out.grown hg5 (own_ne (by omega))); have M2 := Lib.hid (N2.out.grown hg5 (own_ne (by omega))); have MC := Lib.hid (NC.out.keep hg5 (own_ne (by omega)) (own_le (by omega))); have MG := Lib.hid (gG_ownN NG.out hg5 (own_le (by omega))); have r0 := M3.out.c0; have r1 := M3.out.c1; have r2 := M3.out.c2; have rf := M3.out.f; have rlt := M3.out.lt; clear ho5 hg5 hn5)
              go_roundw
              case rel => exact ⟨k + 1, m + 1, c5, z, y, some ⟨g5, 0, none⟩, _, by omega, by go_num, by simp; omega, HSP.out, M3.out.s2 _ _ _, M2.out.set_ (b := w2.heap.size) (by omega) _ _, O5.out.set_ (by dsimp only; omega) _, MC.out.set_ (b := w2.heap.size) (by omega) (by omega) _ _, gG_setN MG.out (b := w2.heap.size) (by omega) _ _⟩
              case measure => simp [intOf]; omega
            | false =>
              by_cases hh1 : 1 < (pith ps j).h
              · go_wp2_with fail
                refine (spec_l01Below _ _ _ _ _ _ _ Hb.out).mono ?_
                rintro e wc ⟨a, px, rfl, hc1, hg1⟩
                have Hc := Lib.hid hc1
                have Xc := Lib.hid hg1
                have Gc := Lib.hid (grown_tr Gb.out hg1)
                have sc := hg1.size
                try simp only [World.size_alloc, World.size_setCell] at sc
                clear hc1 hg1
                obtain ⟨a_0, a_1⟩ := px.2 (by omega)
                clear px
                clear u0 u1 u2 u3 u4 uf ult v0 v1 v2 v3 v4 vf vlt k0 k1 k2 kf klt
                have E7 := Lib.hid (B7.out.grown Xc.out (fun e => absurd (Option.some.inj e) (by omega)))
                have E8 := Lib.hid (B8.out.grown Xc.out (fun e => absurd (Option.some.inj e) (by omega)))
                have E3 := Lib.hid (K3.out.grown Xc.out (fun e => absurd (Option.some.inj e) (by omega)))
                have E2 := Lib.hid (K2.out.grown Xc.out (fun e => absurd (Option.some.inj e) (by omega)))
                have EO := Lib.hid (KO.out.keep Xc.out (fun q hq e => by have := (AO.out.lt _ hq).1; cases e; omega))
                have R1 := Lib.hid (E8.out.s1 ((pith ps j).y + (1 + a)))
                have R2 := Lib.hid (R1.out.s3 ((pith ps j).h - (1 + a)))
                obtain ⟨u0, u1, u2, u3, u4, uf, ult⟩ := E7.out
                obtain ⟨v0, v1, v2, v3, v4, vf, vlt⟩ := E8.out
                have hwrap : IntKind.i64.wrap ((pith ps j).y + (1 + a)) = (pith ps j).y + (1 + a) := IntWalk.i64_in _ (by omega)
                have hne78 : wa.heap.size + 1 ≠ wa.heap.size := by omega
                have hne87 : wa.heap.size ≠ wa.heap.size + 1 := by omega
                have HCc := Lib.hid (((Hc.out.set_ (b := wa.heap.size + 1) (by omega) (by omega) 1 (.int .i64 ((pith ps j).y + (1 + a)))).set_ (b := wa.heap.size + 1) (by omega) (by omega) 3 (.int .i64 ((pith ps j).h - (1 + a)))).set_ (b := wa.heap.size) (by omega) (by omega) 3 (.int .i64 (1 + a)))
                have GCc := Lib.hid (gG_setN (gG_setN (gG_setN Gc.out (b := wa.heap.size + 1) (by omega) 1 (.int .i64 ((pith ps j).y + (1 + a)))) (b := wa.heap.size + 1) (by omega) 3 (.int .i64 ((pith ps j).h - (1 + a)))) (b := wa.heap.size) (by omega) 3 (.int .i64 (1 + a)))
                go_wp2_with fail
                refine (spec_l01Below _ _ _ _ _ _ _ HCc.out).mono ?_
                rintro e wd ⟨col, px, rfl, hc1, hg1⟩
                have Hd := Lib.hid hc1
                have Xd := Lib.hid hg1
                have Gd := Lib.hid (grown_tr GCc.out hg1)
                have sd := hg1.size
                try simp only [World.size_alloc, World.size_setCell] at sd
                clear hc1 hg1
                obtain ⟨col_0, col_1⟩ := px.2 (by omega)
                clear px hwrap
                clear u0 u1 u2 u3 u4 uf ult v0 v1 v2 v3 v4 vf vlt
                have J7 := Lib.hid ((((E7.out.set_ (b := wa.heap.size + 1) (by omega) _ _).set_ (b := wa.heap.size + 1) (by omega) _ _).s3 (1 + a)).grown Xd.out (fun e => absurd (Option.some.inj e) (by omega)))
                have J8 := Lib.hid ((R2.out.set_ (b := wa.heap.size) (by omega) _ _).grown Xd.out (fun e => absurd (Option.some.inj e) (by omega)))
                have J3 := Lib.hid ((((E3.out.set_ (b := wa.heap.size + 1) (by omega) _ _).set_ (b := wa.heap.size + 1) (by omega) _ _).set_ (b := wa.heap.size) (by omega) _ _).grown Xd.out (fun e => absurd (Option.some.inj e) (by omega)))
                have J2 := Lib.hid ((((E2.out.set_ (b := wa.heap.size + 1) (by omega) _ _).set_ (b := wa.heap.size + 1) (by omega) _ _).set_ (b := wa.heap.size) (by omega) _ _).grown Xd.out (fun e => absurd (Option.some.inj e) (by omega)))
                have F1 := grown_tr (gG_set (gG_refl wc (some (wa.heap.size + 1))) 1 (.int .i64 ((pith ps j).y + (1 + a)))) (gG_set (gG_refl _ (some (wa.heap.size + 1))) 3 (.int .i64 ((pith ps j).h - (1 + a))))
                have JO1 := EO.out.keep F1 (fun q hq e => by have := (AO.out.lt _ hq).2; cases e; omega)
                have JO2 := JO1.keep (gG_set (gG_refl _ (some wa.heap.size)) 3 (.int .i64 (1 + a))) (fun q hq e => by have := (AO.out.lt _ hq).2; cases e; omega)
                have JO := Lib.hid (JO2.keep Xd.out (fun q hq e => by have := (AO.out.lt _ hq).1; cases e; omega))
                clear F1 JO1 JO2
                have T8 := Lib.hid (J8.out.s4 col)
                obtain ⟨u0, u1, u2, u3, u4, uf, ult⟩ := J7.out
                obtain ⟨v0, v1, v2, v3, v4, vf, vlt⟩ := J8.out
                obtain ⟨k0, k1, k2, kf, klt⟩ := J3.out
                have q0 := JO.out.keep (gG_set (gG_refl wd (some (wa.heap.size + 1))) 4 (.int .i64 col)) (fun q hq e => by have := (AO.out.lt _ hq).2; cases e; omega)
                have s1 := OwnP.st0 q0 hjm (⟨(pith ps j).x, (pith ps j).y, (pith ps j).w, 1 + a, (pith ps j).c⟩ : Pt).x
                have s2 := OwnP.st1 s1.1 hjm (⟨(pith ps j).x, (pith ps j).y, (pith ps j).w, 1 + a, (pith ps j).c⟩ : Pt).y
                have s3 := OwnP.st2 s2.1 hjm (⟨(pith ps j).x, (pith ps j).y, (pith ps j).w, 1 + a, (pith ps j).c⟩ : Pt).w
                have s4 := OwnP.st3 s3.1 hjm (⟨(pith ps j).x, (pith ps j).y, (pith ps j).w, 1 + a, (pith ps j).c⟩ : Pt).h
                have s5 := OwnP.st4 s4.1 hjm (⟨(pith ps j).x, (pith ps j).y, (pith ps j).w, 1 + a, (pith ps j).c⟩ : Pt).c
                obtain ⟨d0, _⟩ := OwnP.at5 q0 hjm
                obtain ⟨_, d1, _⟩ := OwnP.at5 s1.1 hjm
                obtain ⟨_, _, d2, _⟩ := OwnP.at5 s2.1 hjm
                obtain ⟨_, _, _, d3, _⟩ := OwnP.at5 s3.1 hjm
                obtain ⟨_, _, _, _, d4⟩ := OwnP.at5 s4.1 hjm
                have f0 := q0.frozenAt (by omega) (j * 5)
                have f1 := s1.1.frozenAt (by omega) (j * 5 + 1)
                have f2 := s2.1.frozenAt (by omega) (j * 5 + 2)
                have f3 := s3.1.frozenAt (by omega) (j * 5 + 3)
                have f4 := s4.1.frozenAt (by omega) (j * 5 + 4)
                clear s1 s2 s3 s4
                have S5 := Lib.hid (show OwnP ((((((wd.setCell ⟨wa.heap.size + 1, 4, none⟩ (.int .i64 col)).setCell ⟨gr, j * 5, none⟩ (.int .i64 ((pith ps j).x))).setCell ⟨gr, j * 5 + 1, none⟩ (.int .i64 ((pith ps j).y))).setCell ⟨gr, j * 5 + 2, none⟩ (.int .i64 ((pith ps j).w))).setCell ⟨gr, j * 5 + 3, none⟩ (.int .i64 (1 + a))).setCell ⟨gr, j * 5 + 4, none⟩ (.int .i64 ((pith ps j).c))) (w2.heap.size + 1) (some ⟨gr, 0, none⟩) m c' (ps.set j ⟨(pith ps j).x, (pith ps j).y, (pith ps j).w, 1 + a, (pith ps j).c⟩) from OwnP.st_all q0 hjm ⟨(pith ps j).x, (pith ps j).y, (pith ps j).w, 1 + a, (pith ps j).c⟩)
                clear q0
                have HSP := Lib.hid (split_y (k := col) hl.out (show j < ps.length by rw [HL.out]; exact hjm) (show ps.length < 12 by rw [HL.out]; exact hm) (show 1 ≤ 1 + a by omega) (show 1 + a < (pith ps j).h by omega) col_0 (by omega))
                have N3 := Lib.hid (show Box3 ((((((wd.setCell ⟨wa.heap.size + 1, 4, none⟩ (.int .i64 col)).setCell ⟨gr, j * 5, none⟩ (.int .i64 ((pith ps j).x))).setCell ⟨gr, j * 5 + 1, none⟩ (.int .i64 ((pith ps j).y))).setCell ⟨gr, j * 5 + 2, none⟩ (.int .i64 ((pith ps j).w))).setCell ⟨gr, j * 5 + 3, none⟩ (.int .i64 (1 + a))).setCell ⟨gr, j * 5 + 4, none⟩ (.int .i64 ((pith ps j).c))) w2.heap.size z y (some ⟨gr, 0, none⟩) m c' from (((((J3.out.set_ (b := wa.heap.size + 1) (by omega) _ _).set_ (b := gr) (by omega) _ _).set_ (b := gr) (by omega) _ _).set_ (b := gr) (by omega) _ _).set_ (b := gr) (by omega) _ _).set_ (b := gr) (by omega) _ _)
                have N2 := Lib.hid (show Box3 ((((((wd.setCell ⟨wa.heap.size + 1, 4, none⟩ (.int .i64 col)).setCell ⟨gr, j * 5, none⟩ (.int .i64 ((pith ps j).x))).setCell ⟨gr, j * 5 + 1, none⟩ (.int .i64 ((pith ps j).y))).setCell ⟨gr, j * 5 + 2, none⟩ (.int .i64 ((pith ps j).w))).setCell ⟨gr, j * 5 + 3, none⟩ (.int .i64 (1 + a))).setCell ⟨gr, j * 5 + 4, none⟩ (.int .i64 ((pith ps j).c))) w.heap.size 0 0 none 0 0 from (((((J2.out.set_ (b := wa.heap.size + 1) (by omega) _ _).set_ (b := gr) (by omega) _ _).set_ (b := gr) (by omega) _ _).set_ (b := gr) (by omega) _ _).set_ (b := gr) (by omega) _ _).set_ (b := gr) (by omega) _ _)
                have NC := Lib.hid (show Cur ((((((wd.setCell ⟨wa.heap.size + 1, 4, none⟩ (.int .i64 col)).setCell ⟨gr, j * 5, none⟩ (.int .i64 ((pith ps j).x))).setCell ⟨gr, j * 5 + 1, none⟩ (.int .i64 ((pith ps j).y))).setCell ⟨gr, j * 5 + 2, none⟩ (.int .i64 ((pith ps j).w))).setCell ⟨gr, j * 5 + 3, none⟩ (.int .i64 (1 + a))).setCell ⟨gr, j * 5 + 4, none⟩ (.int .i64 ((pith ps j).c))) B g A n c from (((((Hd.out.set_ (b := wa.heap.size + 1) (by omega) (by omega) _ _).set_ (b := gr) (by omega) (by omega) _ _).set_ (b := gr) (by omega) (by omega) _ _).set_ (b := gr) (by omega) (by omega) _ _).set_ (b := gr) (by omega) (by omega) _ _).set_ (b := gr) (by omega) (by omega) _ _)
                have NG := Lib.hid (show w.grownBy ((((((wd.setCell ⟨wa.heap.size + 1, 4, none⟩ (.int .i64 col)).setCell ⟨gr, j * 5, none⟩ (.int .i64 ((pith ps j).x))).setCell ⟨gr, j * 5 + 1, none⟩ (.int .i64 ((pith ps j).y))).setCell ⟨gr, j * 5 + 2, none⟩ (.int .i64 ((pith ps j).w))).setCell ⟨gr, j * 5 + 3, none⟩ (.int .i64 (1 + a))).setCell ⟨gr, j * 5 + 4, none⟩ (.int .i64 ((pith ps j).c))) (some g) from gG_setN (gG_setN (gG_setN (gG_setN (gG_setN (gG_setN Gd.out (b := wa.heap.size + 1) (by omega) _ _) (b := gr) (by omega) _ _) (b := gr) (by omega) _ _) (b := gr) (by omega) _ _) (b := gr) (by omega) _ _) (b := gr) (by omega) _ _)
                have hg8 : wa.heap.size + 1 ≠ gr := by omega
                have hg7 : wa.heap.size ≠ gr := by omega
                have hg3 : w2.heap.size ≠ gr := by omega
                have hg8' : gr ≠ wa.heap.size + 1 := by omega
                have hg7' : gr ≠ wa.heap.size := by omega
                have hg3' : gr ≠ w2.heap.size := by omega
                have h83 : wa.heap.size + 1 ≠ w2.heap.size := by omega
                go_wp2_with (at_builtin; refine wpList_pushP' _ ⟨(pith ps j).x, (pith ps j).y + (1 + a), (pith ps j).w, (pith ps j).h - (1 + a), col⟩ rfl _ _ rfl rfl (w2.heap.size + 1) _ _ _ _ rfl S5.out rfl (by simp) (by omega) (by simp; omega) ?_; intro g5 c5 w6 ho5 hg5 hn5; have O5 := Lib.hid ho5; have sz5 := hg5.size; (try simp at sz5); have M3 := Lib.hid (N3.out.grown hg5 (own_ne (by omega))); have M2 := Lib.hid (N2.out.grown hg5 (own_ne (by omega))); have MC := Lib.hid (NC.out.keep hg5 (own_ne (by omega)) (own_le (by omega))); have MG := Lib.hid (gG_ownN NG.out hg5 (own_le (by omega))); have r0 := M3.out.c0; have r1 := M3.out.c1; have r2 := M3.out.c2; have rf := M3.out.f; have rlt := M3.out.lt; clear ho5 hg5 hn5)
                go_roundw
                case rel => exact ⟨k + 1, m + 1, c5, z, y, some ⟨g5, 0, none⟩, _, by omega, by go_num, by simp; omega, HSP.out, M3.out.s2 _ _ _, M2.out.set_ (b := w2.heap.size) (by omega) _ _, O5.out.set_ (by dsimp only; omega) _, MC.out.set_ (b := w2.heap.size) (by omega) (by omega) _ _, gG_setN MG.out (b := w2.heap.size) (by omega) _ _⟩
                case measure => simp [intOf]; omega
              · go_wp2
                go_roundw
                case rel => exact ⟨k + 1, m, c', z, y, some ⟨gr, 0, none⟩, ps, by omega, by go_num, by omega, hl.out, K3.out, K2.out, KO.out, Hb.out, Gb.out⟩
                case measure => simp [intOf]; omega
        · have hi1 : (k : Int) < (N : Int) := by omega
          have hi2 : ¬ (m : Int) < 12 := by omega
          obtain ⟨a0, a1, a2, af, alt⟩ := hb2.out
          obtain ⟨r0, r1, r2, _, _⟩ := hb2.out.all_ z y A' m c'
          clear hlt
          go_upto_region 25 with fail
          repeat (first | go_values | go_skip | go_guarded | go_step | go_upon)
          clear a0 a1 a2 af alt b0 b1 b2 bf blt
          refine bodyPost_ret (by simp [results, Try.results66, go_sem, r0, r1, r2]; try rfl) rfl ?_
          refine ⟨⟨z, y, A', m, c', ps, hl.out, rfl, ?_, ?_, ?_⟩⟩
          · exact (((ho.out.set_ (by dsimp only; omega) _).set_ (by dsimp only; omega) _).set_ (by dsimp only; omega) _).base (by omega)
          · exact ((hc.out.set_ (by omega) (by omega) _ _).set_ (by omega) (by omega) _ _).set_ (by omega) (by omega) _ _
          · exact gG_setN (gG_setN (gG_setN hg.out (Nat.le_refl _) _ _) (Nat.le_refl _) _ _) (Nat.le_refl _) _ _
      · have hi1 : ¬ (k : Int) < (N : Int) := by omega
        obtain ⟨a0, a1, a2, af, alt⟩ := hb2.out
        obtain ⟨r0, r1, r2, _, _⟩ := hb2.out.all_ z y A' m c'
        clear hlt
        go_upto_region 25 with fail
        repeat (first | go_values | go_skip | go_guarded | go_step | go_upon)
        clear a0 a1 a2 af alt b0 b1 b2 bf blt
        refine bodyPost_ret (by simp [results, Try.results66, go_sem, r0, r1, r2]; try rfl) rfl ?_
        refine ⟨⟨z, y, A', m, c', ps, hl.out, rfl, ?_, ?_, ?_⟩⟩
        · exact (((ho.out.set_ (by dsimp only; omega) _).set_ (by dsimp only; omega) _).set_ (by dsimp only; omega) _).base (by omega)
        · exact ((hc.out.set_ (by omega) (by omega) _ _).set_ (by omega) (by omega) _ _).set_ (by omega) (by omega) _ _
        · exact gG_setN (gG_setN (gG_setN hg.out (Nat.le_refl _) _ _) (Nat.le_refl _) _ _) (Nat.le_refl _) _ _
end Go.Proofs.Ytlcllpgbpjdofaa
