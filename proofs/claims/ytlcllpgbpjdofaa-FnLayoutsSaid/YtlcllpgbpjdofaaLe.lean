/- The law FnLayouts returns true. No condition. -/
import Derived.Test.YtlcllpgbpjdofaaLc
import Derived.Test.YtlcllpgbpjdofaaR3
import Derived.Test.YtlcllpgbpjdofaaKn
import Derived.Deep.DeepCutAuto
set_option linter.unusedSimpArgs false
set_option linter.unusedVariables false
set_option maxRecDepth 100000
namespace Go.Proofs.Ytlcllpgbpjdofaa
open Go.RowKit

set_option maxHeartbeats 1000000 in
theorem spec_DrawLayout (A : Option Addr) (n c : Nat) (w : World) (h : RdB w w.heap.size A n) :
    Calls Try.prog 15 #[.slice A n c] w fun e w' => ∃ (z y : Int) (A' : Option Addr) (n' c' : Nat) (ps : List Pt), layB z y ps = true ∧ e = .returned (.agg #[.int .i64 z, .int .i64 y, .slice A' n' c']) ∧ OwnP w' w.heap.size A' n' c' ps ∧ Below w.heap.size w w' := by
  have H := Lib.hid h
  clear h
  go_enter Try.func15, Try.ntmps15
  go_wp2_with fail
  refine (spec_l01New w.heap.size _ _ _ _ (by simp) (H.out.below ((Below.refl _ _).alloc (Nat.le_refl _) _))).mono ?_
  rintro e w0 ⟨g, rfl, hg, hc, hb⟩
  have hsz0 := hb.size
  simp only [World.size_alloc] at hg hsz0
  have Z0 := Lib.hid ((Box3.mk_ w 0 0 none 0 0 29).next hb)
  have HC := Lib.hid hc
  have HB := Lib.hid (((Below.refl w.heap.size w).alloc (Nat.le_refl _) _).trans (hb.mono (by simp)))
  clear hc hb
  go_wp2_with fail
  refine (spec_l09Cut _ _ _ _ _ _ HC.out).mono ?_
  rintro e w1 ⟨⟨z, y, A', n', c', ps, hl, rfl, ho, hc1, hg1⟩⟩
  have HL := Lib.hid hl
  have Z1 := Lib.hid (Z0.out.grown hg1 (fun e => absurd (Option.some.inj e) (by omega)))
  have HO := Lib.hid ((((ho.set_ (p := ⟨w.heap.size, 0, none⟩) (by dsimp only; omega) (.int .i64 z)).set_ (p := ⟨w.heap.size, 1, none⟩) (by dsimp only; omega) (.int .i64 y)).set_ (p := ⟨w.heap.size, 2, none⟩) (by dsimp only; omega) (.slice A' n' c')).base (B' := w.heap.size) (by omega))
  have HD := Lib.hid (HB.out.grown hg1 HB.out.size (fun k e => by have := Option.some.inj e; omega))
  clear hl ho hc1 hg1
  have a0 := Z1.out.c0
  have a1 := Z1.out.c1
  have a2 := Z1.out.c2
  have af := Z1.out.f
  have r0 := (Z1.out.all_ z y A' n' c').c0
  have r1 := (Z1.out.all_ z y A' n' c').c1
  have r2 := (Z1.out.all_ z y A' n' c').c2
  dsimp only
  repeat (first | go_values | go_skip | go_guarded | go_step | go_upon)
  refine bodyPost_ret (by simp [results, Try.results15, go_sem, r0, r1, r2]; try rfl) rfl ?_
  exact ⟨z, y, A', n', c', ps, HL.out, rfl, HO.out, ((HD.out.setCell (Nat.le_refl _) _).setCell (Nat.le_refl _) _).setCell (Nat.le_refl _) _⟩

theorem besP_symm (p q : Pt) : besP p q = besP q p := by
  unfold besP
  rw [comm_symm p.x p.w q.x q.w, comm_symm p.y p.h q.y q.h]
/-- turned k times: the sides and the patches -/
def turnK (z y : Int) (ps : List Pt) : Nat → Int × Int × List Pt
  | 0 => (z, y, ps)
  | k + 1 => ((turnK z y ps k).2.1, (turnK z y ps k).1, (turnK z y ps k).2.2.map (turnPt (turnK z y ps k).2.1))
theorem turnK_lay {z y : Int} {ps : List Pt} (h : layB z y ps = true) : ∀ k, layB (turnK z y ps k).1 (turnK z y ps k).2.1 (turnK z y ps k).2.2 = true
  | 0 => h
  | k + 1 => turn_lay (turnK_lay h k)
theorem turnK_four (z y : Int) (ps : List Pt) : turnK z y ps 4 = (z, y, ps) := by
  simp only [turnK, turn_four]
/-- the law's state: the layout in its box, the counts in their row -/
structure LayS (w1 wr : World) (z y : Int) (A : Option Addr) (n c : Nat) (ks : List Int) : Prop where
  be : Below w1.heap.size w1 wr
  box : Box3 wr w1.heap.size z y A n c
  cnt : OwnI wr (w1.heap.size + 1) (some ⟨w1.heap.size + 1, 0, none⟩) n n ks
section
variable {w1 wr wr' : World} {z y : Int} {A : Option Addr} {n c : Nat} {ks : List Int}
theorem LayS.next (h : LayS w1 wr z y A n c ks) (hb : Below wr.heap.size wr wr') : LayS w1 wr' z y A n c ks := ⟨h.be.trans (hb.mono h.be.size), h.box.next hb, h.cnt.next hb⟩
theorem LayS.put (h : LayS w1 wr z y A n c ks) (k : Nat) (v : Int) : LayS w1 (wr.setCell ⟨w1.heap.size + 1, k, none⟩ (.int .i64 v)) z y A n c (ks.set k v) :=
  ⟨h.be.setCell (by simp) _, h.box.set_ (by omega) _ _, (h.cnt.store v).1⟩
theorem LayS.made {w1 w2 : World} {z y : Int} {A : Option Addr} {m cm W : Nat} {ps : List Pt} {T : TypeId} (hl : ps.length = m) (hm : m ≤ 12)
    (hown : w2.ownsRow (w1.heap.size + 1) 3 1 (.slice (some ⟨w1.heap.size + 1, 0, none⟩) m m) m (madeCells (Value.int .i64 0).cells (m * 1)).toList)
    (hg : (w1.alloc (.cells #[.int .i64 z, .int .i64 y, .slice A m cm] T)).grownBy w2 none) : LayS w1 w2 z y A m cm (cntL W ps 0 0) := by
  have k := madeI (n := m) (w := w1.alloc (.cells #[.int .i64 z, .int .i64 y, .slice A m cm] T)) (w1 := w2) (by omega) (by simpa using hown)
  refine ⟨((Below.refl _ _).alloc (Nat.le_refl _) _).grown hg (by simp) (by intro k hk; cases hk), (Box3.mk_ w1 z y A m cm T).grown hg (fun e => by cases e), ?_⟩
  rw [cntL_zero, hl]
  simpa using k
theorem LayS.lt (h : LayS w1 wr z y A n c ks) : w1.heap.size + 1 < wr.heap.size := (h.cnt.lt _ rfl).2
theorem LayS.set_ (h : LayS w1 wr z y A n c ks) {b : Nat} (hb : w1.heap.size + 1 < b) (o : Nat) (v : Value) : LayS w1 (wr.setCell ⟨b, o, none⟩ v) z y A n c ks :=
  ⟨h.be.setCell (by dsimp only; omega) _, h.box.set_ (by omega) _ _, h.cnt.keep (gG_set (gG_refl wr (some b)) o v) (fun k e1 e2 => by
    have h1 := Option.some.inj (show some (w1.heap.size + 1) = some k from e1)
    have h2 := Option.some.inj e2
    omega)⟩
end

set_option maxRecDepth 100000 in
set_option maxHeartbeats 40000000 in
theorem walk_FnLayouts (A : Option Addr) (n c : Nat) (w : World) (h : ArgB w A n) :
    Calls Try.prog 4 #[.slice A n c] w fun e w' => e = .returned (.bool true) ∧ Below w.heap.size w w' := by
  have hs := lt2
  have HA := Lib.hid h
  clear h
  obtain ⟨i0, hi, hz0, hz1, hz2⟩ := info_parts int_info
  have HI := Lib.hid hi; have HZ0 := Lib.hid hz0; have HZ1 := Lib.hid hz1; have HZ2 := Lib.hid hz2
  clear hi hz0 hz1 hz2
  by_cases hn : 1048576 < n
  · have E1 := Lib.hid (show decide (1048576 < n) = true by simpa using hn)
    go_enter Try.func4, Try.ntmps4
    go_wp2_with fail
    refine (laws_big _ _ _ _ HA.out.1).mono ?_
    rintro e w' ⟨rfl, rfl⟩
    rw [E1.out]
    go_wp2
    go_ret
    exact ⟨rfl, Below.refl _ _⟩
  · have E1 := Lib.hid (show decide (1048576 < n) = false by simpa using hn)
    go_enter Try.func4, Try.ntmps4
    go_wp2_with fail
    refine (laws_big _ _ _ _ HA.out.1).mono ?_
    rintro e w' ⟨rfl, rfl⟩
    rw [E1.out]
    go_wp2_with fail
    refine (spec_DrawLayout _ _ _ _ (HA.out.2 (by omega))).mono ?_
    rintro e w1 ⟨z, y, A', m, cm, ps, hl, rfl, ho, hb1⟩
    clear E1
    obtain ⟨hz1', hz2', hy1', hy2', hn1', hn2'⟩ := dimOk_t (layB_p hl).1
    have HL := Lib.hid ho.len
    rw [HL.out] at hn1' hn2'
    obtain ⟨Z, rfl⟩ : ∃ Z : Nat, z = (Z : Int) := ⟨z.toNat, by omega⟩
    obtain ⟨Y, rfl⟩ : ∃ Y : Nat, y = (Y : Int) := ⟨y.toNat, by omega⟩
    obtain ⟨gr, rfl, hgr1, hgr2⟩ := OwnG.form ho (by omega)
    have hb1s := hb1.size
    have HO := Lib.hid ho
    have HB := Lib.hid hb1
    have Hl := Lib.hid hl
    have HK := Lib.hid (layB_p hl).2.1
    clear ho hb1 hl
    have hm1 : 1 ≤ m := by omega
    have hm2 : m ≤ 12 := by omega
    go_wp2_with (at_make; refine wpList_make_full _ rfl _ _ _ rfl (w1.heap.size + 1) 3 i0 (.int .i64 0) 1 Try.underlying31 HI.out HZ0.out HZ1.out .i64 .i64 m m m rfl rfl rfl rfl (by rw [HZ2.out]; omega) (by unfold maxLen; omega) (by simp) ?_; intro w2 hown2 hg2; have HS := Lib.hid (LayS.made (z := Z) (y := Y) (A := some ⟨gr, 0, none⟩) (cm := cm) (W := Z) HL.out hm2 (by simpa using hown2) hg2); (try simp only [World.size_alloc]); clear hown2 hg2)
    go_loopw [6] (fun i wr => ∃ (k : Nat), k ≤ Y ∧ i = .int .i64 k ∧ Hid (LayS w1 wr Z Y (some ⟨gr, 0, none⟩) m cm (cntL Z ps k 0))) (fun i _ => Y - (intOf i).toNat)
    case atStart => exact ⟨0, Nat.zero_le _, rfl, HS⟩
    case round =>
      obtain ⟨k, hk, rfl, hS⟩ := hrel
      have b0 := hS.out.box.c0
      have b1 := hS.out.box.c1
      have b2 := hS.out.box.c2
      by_cases hlt : k < Y
      · have d1 : (k : Int) < (Y : Int) := by omega
        go_wp2_with fail
        go_loopw [7] (fun i wr => ∃ (x : Nat), x ≤ Z ∧ i = .int .i64 x ∧ Hid (LayS w1 wr Z Y (some ⟨gr, 0, none⟩) m cm (cntL Z ps k x))) (fun i _ => Z - (intOf i).toNat)
        case atStart => exact ⟨0, Nat.zero_le _, rfl, hS⟩
        case round =>
          obtain ⟨x, hx, rfl, hT⟩ := hrel
          have a0 := hT.out.box.c0
          have a1 := hT.out.box.c1
          have a2 := hT.out.box.c2
          clear b0 b1 b2 hS
          by_cases hxlt : x < Z
          · have d2 : (x : Int) < (Z : Int) := by omega
            obtain ⟨j, hj, ej, hj1, hj2⟩ := at_once Hl.out (show (0 : Int) ≤ (x : Int) by omega) d2 (show (0 : Int) ≤ (k : Int) by omega) d1
            rw [HL.out] at hj
            have EJ := Lib.hid ej
            have HS1 := Lib.hid (cntL_step (W := Z) (Y := k) (X := x) (show j < ps.length by rw [HL.out]; exact hj) hj1 hj2)
            have i1 : (0 : Int) ≤ (j : Int) := by omega
            have i2 : (j : Int) < (m : Int) := by omega
            have i3 : ¬ (j : Int) < 0 := by omega
            have i4 : ¬ (m : Int) ≤ (j : Int) := by omega
            clear hj1 hj2 ej
            go_wp2_with fail
            refine (impl_PatchAt _ _ _ _ _ ps _ _ _ (((HO.out.next hT.out.be).rd Pt.len).below' (by go_grown) (by go_size))).mono ?_
            rintro e w3 ⟨rfl, hb3⟩
            rw [EJ.out]
            have hT3 := Lib.hid (hT.out.next hb3)
            clear hb3
            have cc := hT3.out.cnt.cellAt hj
            rw [ith_cntL (by rw [HL.out]; exact hj)] at cc
            have cf := hT3.out.cnt.frozenAt (by omega) j
            have hcl := cntG_le Z (pith ps j) k x
            have hcl2 : k * Z + x ≤ 200 := by
              have : k * Z ≤ 12 * 12 := Nat.mul_le_mul (by omega) (by omega)
              omega
            have hq1 : (0 : Int) ≤ (cntG Z (pith ps j) k x : Int) := by omega
            have hq2 : (cntG Z (pith ps j) k x : Int) ≤ 200 := by omega
            clear hcl hcl2 a0 a1 a2
            go_wp2
            go_roundw
            case rel => exact ⟨x + 1, by omega, by go_num, by rw [HS1.out]; exact hT3.out.put j _⟩
            case measure => simp [intOf]; omega
          · have d2 : ¬ (x : Int) < (Z : Int) := by omega
            have ex : x = Z := by omega
            have HR := Lib.hid (show LayS w1 wr Z Y (some ⟨gr, 0, none⟩) m cm (cntL Z ps (k + 1) 0) by
              have h := hT.out
              rw [ex] at h
              rw [← cntL_row]; exact h)
            go_wp2
            go_roundw
            case rel => exact ⟨k + 1, by omega, by go_num, HR⟩
            case measure => simp [intOf]; omega
      · have d1 : ¬ (k : Int) < (Y : Int) := by omega
        have ek : k = Y := by omega
        have hS0 := Lib.hid (show LayS w1 wr Z Y (some ⟨gr, 0, none⟩) m cm (cntL Z ps Y 0) by
          have h := hS.out
          rw [ek] at h; exact h)
        clear hS
        go_wp2_with fail
        go_loopw [9, 10] (fun s i wr => ∃ (k : Nat), k ≤ m ∧ i = .int .i64 k ∧ s = .int .i64 (totZ ps k) ∧ Hid (LayS w1 wr Z Y (some ⟨gr, 0, none⟩) m cm (cntL Z ps Y 0))) (fun _ i _ => m - (intOf i).toNat)
        case atStart => exact ⟨0, Nat.zero_le _, rfl, rfl, hS0⟩
        case round =>
          clear hlt hk b0 b1 b2 d1 ek
          obtain ⟨k, hk, rfl, rfl, hS⟩ := hrel
          clear hS0
          have b0 := hS.out.box.c0
          have b1 := hS.out.box.c1
          have b2 := hS.out.box.c2
          have tb := totZ_bd Hl.out k (by rw [HL.out]; exact hk)
          have tb1 : totZ ps k ≤ 2000 := by have := tb.2; omega
          have tb0 := tb.1
          clear tb
          by_cases hlt : k < m
          · have d1 : (k : Int) < (m : Int) := by omega
            have d0 : (0 : Int) ≤ (k : Int) := by omega
            obtain ⟨x1, x2, x3, x4, x5, x6, _, _⟩ := okPt_t (HK.out k (by rw [HL.out]; exact hlt))
            have q0 := HO.out.next hS.out.be
            obtain ⟨p0, p1, p2, p3, p4⟩ := OwnP.at5 q0 hlt
            have cc := hS.out.cnt.cellAt hlt
            rw [ith_cntL (by rw [HL.out]; exact hlt)] at cc
            have ce := cntG_end Hl.out (show k < ps.length by rw [HL.out]; exact hlt)
            rw [Int.toNat_natCast, Int.toNat_natCast] at ce
            rw [ce] at cc
            have hw : (pith ps k).w * (pith ps k).h ≤ 12 * 12 := Int.mul_le_mul (by omega) (by omega) (by omega) (by omega)
            have hw0 : 0 ≤ (pith ps k).w * (pith ps k).h := Int.mul_nonneg (by omega) (by omega)
            have hwr : IntKind.i64.wrap ((pith ps k).w * (pith ps k).h) = (pith ps k).w * (pith ps k).h := IntWalk.i64_in _ (by omega)
            have hne : ((pith ps k).w * (pith ps k).h != (pith ps k).w * (pith ps k).h) = false := by simp
            clear ce q0
            go_upto_region 20 with fail
            go_quiet (fail)
            have hS1 := Lib.hid (hS.out.next ((Below.refl _ _).drewN nq))
            clear p0 p1 p2 p3 p4 cc b0 b1 b2 hS hw hw0
            go_wp2_with fail
            go_loopw [9, 11] (fun s i wr => ∃ (j : Nat), j ≤ k ∧ i = .int .i64 j ∧ s = .int .i64 (totZ ps k + rowZ ps k j) ∧ Hid (LayS w1 wr Z Y (some ⟨gr, 0, none⟩) m cm (cntL Z ps Y 0))) (fun _ i _ => k - (intOf i).toNat)
            case atStart => exact ⟨0, Nat.zero_le _, rfl, by simp [rowZ], hS1⟩
            case round =>
              clear hwr hne
              obtain ⟨j, hj, rfl, rfl, hT⟩ := hrel
              clear hS1
              have rb := rowZ_bd Hl.out (show k < ps.length by rw [HL.out]; exact hlt) j (by rw [HL.out]; omega)
              have rb0 := rb.1
              have rb1 : rowZ ps k j ≤ 200 := by have := rb.2; omega
              clear rb
              by_cases hjlt : j < k
              · have d2 : (j : Int) < (k : Int) := by omega
                have d3 : (0 : Int) ≤ (j : Int) := by omega
                have d4 : (j : Int) < (m : Int) := by omega
                have hjm : j < m := by omega
                obtain ⟨y1, y2, y3, y4, y5, y6, _, _⟩ := okPt_t (HK.out j (by rw [HL.out]; exact hjm))
                have q0 := HO.out.next hT.out.be
                obtain ⟨p0, p1, p2, p3, p4⟩ := OwnP.at5 q0 hlt
                clear q0
                have b0 := hT.out.box.c0
                have b1 := hT.out.box.c1
                have b2 := hT.out.box.c2
                have LP := hT.out.next ((Below.refl _ _).alloc (Nat.le_refl _) (.cells #[.int .i64 (pith ps k).x, .int .i64 (pith ps k).y, .int .i64 (pith ps k).w, .int .i64 (pith ps k).h, .int .i64 (pith ps k).c] 34))
                obtain ⟨v0, v1, v2, v3, v4⟩ := OwnP.at5 (HO.out.next LP.be) hjm
                have l2 := LP.box.c2
                clear LP
                have P5 := Lib.hid ((Box5.mk_ wr (pith ps k) 34).next ((Below.refl _ _).alloc (Nat.le_refl _) (.cells #[.int .i64 (pith ps j).x, .int .i64 (pith ps j).y, .int .i64 (pith ps j).w, .int .i64 (pith ps j).h, .int .i64 (pith ps j).c] 34)))
                have Q5 := Lib.hid (Box5.mk_ (wr.alloc (.cells #[.int .i64 (pith ps k).x, .int .i64 (pith ps k).y, .int .i64 (pith ps k).w, .int .i64 (pith ps k).h, .int .i64 (pith ps k).c] 34)) (pith ps j) 34)
                rw [World.size_alloc] at Q5
                have L5 := Lib.hid (hT.out.next (((Below.refl _ _).alloc (Nat.le_refl _) (.cells #[.int .i64 (pith ps k).x, .int .i64 (pith ps k).y, .int .i64 (pith ps k).w, .int .i64 (pith ps k).h, .int .i64 (pith ps k).c] 34)).alloc (by simp) (.cells #[.int .i64 (pith ps j).x, .int .i64 (pith ps j).y, .int .i64 (pith ps j).w, .int .i64 (pith ps j).h, .int .i64 (pith ps j).c] 34)))
                go_upto_region 27 with fail
                clear p0 p1 p2 p3 p4 v0 v1 v2 v3 v4 b0 b1 b2 l2
                go_cut [14] (fun s wx => s = .int .i64 (comm (pith ps k).x (pith ps k).w (pith ps j).x (pith ps j).w) ∧ Hid (Box5 wx wr.heap.size (pith ps k)) ∧ Hid (Box5 wx (wr.heap.size + 1) (pith ps j)) ∧ Hid (LayS w1 wx Z Y (some ⟨gr, 0, none⟩) m cm (cntL Z ps Y 0)))
                case first =>
                  have g0 := P5.out.c0; have g2 := P5.out.c2; have f0 := Q5.out.c0; have f2 := Q5.out.c2
                  go_wp2
                  all_goals (go_meet; case rel => exact ⟨congrArg (Value.int .i64) (by unfold comm; omega), P5, Q5, L5⟩)
                case rest =>
                rename World => wx
                obtain ⟨rfl, P6, Q6, L6⟩ := hcut
                clear P5 Q5 L5 hT
                go_upto_region 28 with fail
                go_cut [15] (fun s wy => s = .int .i64 (comm (pith ps k).y (pith ps k).h (pith ps j).y (pith ps j).h) ∧ Hid (wy = wx))
                case first =>
                  have g1 := P6.out.c1; have g3 := P6.out.c3; have f1 := Q6.out.c1; have f3 := Q6.out.c3
                  go_wp2
                  all_goals (go_meet; case rel => exact ⟨congrArg (Value.int .i64) (by unfold comm; omega), rfl⟩)
                case rest =>
                rename World => wy
                obtain ⟨rfl, hwy⟩ := hcut
                have hwy' := hwy.out
                subst hwy'
                clear P6 Q6 hwy
                go_upto_region 29 with fail
                go_cut [16] (fun s wz => s = .bool (besP (pith ps k) (pith ps j)) ∧ Hid (wz = wy))
                case first =>
                  cases t1 : (comm (pith ps k).x (pith ps k).w (pith ps j).x (pith ps j).w == 0) with
                  | true =>
                    cases t2 : decide (0 < comm (pith ps k).y (pith ps k).h (pith ps j).y (pith ps j).h) with
                    | true =>
                      go_wp2
                      go_meet
                      case rel => exact ⟨congrArg Value.bool (by rw [besP, t1, t2]; rfl), rfl⟩
                    | false =>
                      cases t3 : (comm (pith ps k).y (pith ps k).h (pith ps j).y (pith ps j).h == 0) with
                      | true =>
                        go_wp2
                        go_meet
                        case rel => exact ⟨congrArg Value.bool (by rw [besP, t1, t2, t3]; rfl), rfl⟩
                      | false =>
                        go_wp2
                        go_meet
                        case rel => exact ⟨congrArg Value.bool (by rw [besP, t1, t2, t3]; rfl), rfl⟩
                  | false =>
                    cases t3 : (comm (pith ps k).y (pith ps k).h (pith ps j).y (pith ps j).h == 0) with
                    | true =>
                      go_wp2
                      go_meet
                      case rel => exact ⟨congrArg Value.bool (by rw [besP, t1, t3]; rfl), rfl⟩
                    | false =>
                      go_wp2
                      go_meet
                      case rel => exact ⟨congrArg Value.bool (by rw [besP, t1, t3]; rfl), rfl⟩
                case rest =>
                rename World => wz
                obtain ⟨rfl, hwz⟩ := hcut
                have hwz' := hwz.out
                subst hwz'
                clear hwz
                have e1 := Lib.hid (show besB Z Y ps k j = besP (pith ps k) (pith ps j) by rw [besB, Hl.out, besI_t HL.out hlt hjm (by omega)]; rfl)
                have e2 := Lib.hid (show besB Z Y ps j k = besP (pith ps k) (pith ps j) by rw [besB, Hl.out, besI_t HL.out hjm hlt (by omega), besP_symm]; rfl)
                have cx1 : -100 ≤ comm (pith ps k).x (pith ps k).w (pith ps j).x (pith ps j).w ∧ comm (pith ps k).x (pith ps k).w (pith ps j).x (pith ps j).w ≤ 100 := by unfold comm; omega
                have cy1 : -100 ≤ comm (pith ps k).y (pith ps k).h (pith ps j).y (pith ps j).h ∧ comm (pith ps k).y (pith ps k).h (pith ps j).y (pith ps j).h ≤ 100 := by unfold comm; omega
                obtain ⟨cx2, cx3⟩ := cx1
                obtain ⟨cy2, cy3⟩ := cy1
                have b0 := L6.out.box.c0
                have b1 := L6.out.box.c1
                have b2 := L6.out.box.c2
                cases hbs : besP (pith ps k) (pith ps j) with
                | true =>
                  rw [hbs] at e1 e2
                  go_wp2_with fail
                  refine (impl_AreBeside _ _ _ _ _ ps _ _ _ (((HO.out.next L6.out.be).rd Pt.len).below' (by go_grown) (by go_size))).mono ?_
                  rintro e w4 ⟨rfl, hb4⟩
                  rw [e1.out]
                  have L7 := Lib.hid (L6.out.next hb4)
                  clear hb4 b0 b1 b2
                  have b0 := L7.out.box.c0
                  have b1 := L7.out.box.c1
                  have b2 := L7.out.box.c2
                  go_wp2_with fail
                  refine (impl_AreBeside _ _ _ _ _ ps _ _ _ (((HO.out.next L7.out.be).rd Pt.len).below' (by go_grown) (by go_size))).mono ?_
                  rintro e w5 ⟨rfl, hb5⟩
                  rw [e2.out]
                  have L8 := Lib.hid (L7.out.next hb5)
                  clear hb5 b0 b1 b2
                  go_wp2
                  all_goals
                    go_roundw
                    case rel => exact ⟨j + 1, by omega, by go_num, congrArg (Value.int .i64) (by rw [rowZ, smZ, if_pos hbs]; omega), L8⟩
                    case measure => simp [intOf]; omega
                | false =>
                  rw [hbs] at e1 e2
                  go_wp2_with fail
                  refine (impl_AreBeside _ _ _ _ _ ps _ _ _ (((HO.out.next L6.out.be).rd Pt.len).below' (by go_grown) (by go_size))).mono ?_
                  rintro e w4 ⟨rfl, hb4⟩
                  rw [e1.out]
                  have L7 := Lib.hid (L6.out.next hb4)
                  clear hb4 b0 b1 b2
                  have b0 := L7.out.box.c0
                  have b1 := L7.out.box.c1
                  have b2 := L7.out.box.c2
                  go_wp2_with fail
                  refine (impl_AreBeside _ _ _ _ _ ps _ _ _ (((HO.out.next L7.out.be).rd Pt.len).below' (by go_grown) (by go_size))).mono ?_
                  rintro e w5 ⟨rfl, hb5⟩
                  rw [e2.out]
                  have L8 := Lib.hid (L7.out.next hb5)
                  clear hb5 b0 b1 b2
                  go_wp2
                  go_roundw
                  case rel => exact ⟨j + 1, by omega, by go_num, congrArg (Value.int .i64) (by rw [rowZ, smZ, if_neg (by rw [hbs]; simp)]; omega), L8⟩
                  case measure => simp [intOf]; omega
              · have d2 : ¬ (j : Int) < (k : Int) := by omega
                have ej : j = k := by omega
                go_wp2
                go_roundw
                case rel => exact ⟨k + 1, by omega, by go_num, congrArg (Value.int .i64) (by rw [totZ, ej]), hT⟩
                case measure => simp [intOf]; omega
          · have d1 : ¬ (k : Int) < (m : Int) := by omega
            have ek : k = m := by omega
            subst ek
            rename World => w3
            have TS := Lib.hid (show seamB Z Y ps = totZ ps k by rw [← HL.out]; exact (tot_seam Hl.out).symm)
            have TT := Lib.hid (show seamB Y Z (ps.map (turnPt Y)) = totZ ps k by rw [turn_seam Hl.out]; exact TS.out)
            have hlt1 := hS.out.lt
            have LA := Lib.hid (hS.out.next ((Below.refl _ _).alloc (Nat.le_refl _) (.cells #[.int .i64 Z, .int .i64 Y, .slice (some ⟨gr, 0, none⟩) k cm] 29)))
            have BA := Lib.hid (Box3.mk_ w3 Z Y (some ⟨gr, 0, none⟩) k cm 29)
            go_wp2_with fail
            go_loopw [18] (fun i wq => ∃ (q : Nat) (z' y' : Int) (A' : Option Addr) (n' c' : Nat) (qs : List Pt), q ≤ 4 ∧ i = .int .i64 q ∧ Hid (turnK Z Y ps q = (z', y', qs)) ∧ Hid (Box3 wq w3.heap.size z' y' A' n' c') ∧ Hid (OwnP wq w.heap.size A' n' c' qs) ∧ Hid (LayS w1 wq Z Y (some ⟨gr, 0, none⟩) k cm (cntL Z ps Y 0))) (fun i _ => 4 - (intOf i).toNat)
            case atStart => exact ⟨0, Z, Y, some ⟨gr, 0, none⟩, k, cm, ps, by omega, rfl, rfl, BA, HO.out.next LA.out.be, LA⟩
            case round =>
              obtain ⟨q, z', y', A', n', c', qs, hq4, rfl, hK, hBx, ho, hS2⟩ := hrel
              rename World => wq
              clear b0 b1 b2 LA BA hS
              by_cases hlt : q < 4
              · have d2 : (q : Int) < 4 := by omega
                have hq := turnK_lay Hl.out q
                rw [hK.out] at hq
                dsimp only at hq
                have HQ := Lib.hid hq
                clear hq
                have b0 := hBx.out.c0
                have b1 := hBx.out.c1
                have b2 := hBx.out.c2
                go_wp2_with fail
                refine (impl_TurnLayout _ _ _ _ _ qs _ ((ho.out.rd Pt.len).below' (by go_grown) (by go_size))).mono ?_
                rintro e w4 ⟨A2, n2, c2, rfl, ho4, hb4⟩
                rw [show turnZ z' y' qs = y' from if_pos HQ.out, show turnY z' y' qs = z' from if_pos HQ.out]
                rw [show turnL z' y' qs = qs.map (turnPt y') from by rw [← turn_all]; exact if_pos HQ.out] at ho4
                have hs4 := hb4.size
                have hlt2 := hS2.out.lt
                have hltb := hBx.out.lt
                have S4 := Lib.hid (((hS2.out.next hb4).set_ (b := w3.heap.size) hlt1 0 (.int .i64 y')).set_ (b := w3.heap.size) hlt1 1 (.int .i64 z') |>.set_ (b := w3.heap.size) hlt1 2 (.slice A2 n2 c2))
                have B4 := Lib.hid (hBx.out.next hb4)
                have O4 := Lib.hid ((((ho4.set_ (p := ⟨w3.heap.size, 0, none⟩) (by dsimp only; omega) (.int .i64 y')).set_ (p := ⟨w3.heap.size, 1, none⟩) (by dsimp only; omega) (.int .i64 z')).set_ (p := ⟨w3.heap.size, 2, none⟩) (by dsimp only; omega) (.slice A2 n2 c2)).base (B' := w.heap.size) (by omega))
                clear ho4 hb4 b0 b1 b2
                have b0 := B4.out.c0
                have b1 := B4.out.c1
                have b2 := B4.out.c2
                have bf := B4.out.f
                go_wp2
                go_roundw
                case rel => exact ⟨q + 1, y', z', A2, n2, c2, qs.map (turnPt y'), by omega, by go_num, show turnK Z Y ps (q + 1) = (y', z', qs.map (turnPt y')) from by simp only [turnK, hK.out], B4.out.all_ _ _ _ _ _, O4, S4⟩
                case measure => simp [intOf]; omega
              · have d2 : ¬ (q : Int) < 4 := by omega
                have e := hK.out
                rw [show q = 4 by omega, turnK_four] at e
                have e1 : (Z : Int) = z' := congrArg (fun x => x.1) e
                have e2 : (Y : Int) = y' := congrArg (fun x => x.2.1) e
                have e3 : ps = qs := congrArg (fun x => x.2.2) e
                clear e hK
                subst e1
                subst e2
                subst e3
                have e4 : n' = k := by rw [← HL.out]; exact ho.out.len.symm
                subst e4
                obtain ⟨gt, rfl, hgt1, hgt2⟩ := OwnG.form ho.out (by omega)
                have b0 := hBx.out.c0
                have b1 := hBx.out.c1
                have b2 := hBx.out.c2
                go_wp2_with fail
                go_loopw [19] (fun i wu => ∃ (k : Nat), k ≤ n' ∧ i = .int .i64 k ∧ Hid (Below wq.heap.size wq wu)) (fun i _ => n' - (intOf i).toNat)
                case atStart => exact ⟨0, Nat.zero_le _, rfl, Below.refl _ _⟩
                case round =>
                  clear b0 b1 b2
                  obtain ⟨k, hk, rfl, hu⟩ := hrel
                  rename World => wu
                  have S5 := Lib.hid (hS2.out.next hu.out)
                  have B5 := Lib.hid (hBx.out.next hu.out)
                  have a0 := S5.out.box.c0
                  have a1 := S5.out.box.c1
                  have a2 := S5.out.box.c2
                  have b0 := B5.out.c0
                  have b1 := B5.out.c1
                  have b2 := B5.out.c2
                  by_cases hlt : k < n'
                  · have d3 : (k : Int) < (n' : Int) := by omega
                    have d4 : (0 : Int) ≤ (k : Int) := by omega
                    have q0 := HO.out.next S5.out.be
                    have q1 := ho.out.next hu.out
                    obtain ⟨p0, p1, p2, p3, p4⟩ := OwnP.at5 q0 hlt
                    obtain ⟨v0, v1, v2, v3, v4⟩ := OwnP.at5 q1 hlt
                    clear q0 q1
                    go_upto_region 44 with fail
                    go_quiet (fail)
                    go_wp2
                    go_roundw
                    case rel => exact ⟨k + 1, by omega, by go_num, hu.out.drewN nq⟩
                    case measure => simp [intOf]; omega
                  · have d3 : ¬ (k : Int) < (n' : Int) := by omega
                    go_wp2_with fail
                    refine (impl_LayoutOk _ _ _ _ _ ps _ (((HO.out.next S5.out.be).rd Pt.len).below' (by go_grown) (by go_size))).mono ?_
                    rintro e w5 ⟨rfl, hb5⟩
                    rw [Hl.out]
                    have S6 := Lib.hid (S5.out.next hb5)
                    have B6 := Lib.hid (B5.out.next hb5)
                    clear hb5 a0 a1 a2 b0 b1 b2
                    have a0 := S6.out.box.c0
                    have a1 := S6.out.box.c1
                    have a2 := S6.out.box.c2
                    go_wp2_with fail
                    refine (impl_SeamLength _ _ _ _ _ ps _ (((HO.out.next S6.out.be).rd Pt.len).below' (by go_grown) (by go_size))).mono ?_
                    rintro e w6 ⟨rfl, hb6⟩
                    rw [TS.out]
                    have S7 := Lib.hid (S6.out.next hb6)
                    have B7 := Lib.hid (B6.out.next hb6)
                    clear hb6 a0 a1 a2
                    have a0 := S7.out.box.c0
                    have a1 := S7.out.box.c1
                    have a2 := S7.out.box.c2
                    go_wp2_with fail
                    refine (impl_TurnLayout _ _ _ _ _ ps _ (((HO.out.next S7.out.be).rd Pt.len).below' (by go_grown) (by go_size))).mono ?_
                    rintro e w7 ⟨A7, n7, c7, rfl, ho7, hb7⟩
                    rw [show turnZ Z Y ps = Y from if_pos Hl.out, show turnY Z Y ps = Z from if_pos Hl.out]
                    rw [show turnL Z Y ps = ps.map (turnPt Y) from by rw [← turn_all]; exact if_pos Hl.out] at ho7
                    have O7 := Lib.hid ho7
                    have S8 := Lib.hid (S7.out.next hb7)
                    have B8 := Lib.hid (B7.out.next hb7)
                    clear hb7 ho7 a0 a1 a2
                    go_wp2_with fail
                    refine (impl_SeamLength _ _ _ _ _ (ps.map (turnPt Y)) _ ((O7.out.rd Pt.len).below' (by go_grown) (by go_size))).mono ?_
                    rintro e w8 ⟨rfl, hb8⟩
                    rw [TT.out]
                    have S9 := Lib.hid (S8.out.next hb8)
                    have B9 := Lib.hid (B8.out.next hb8)
                    clear hb8
                    have a0 := S9.out.box.c0
                    have b0 := B9.out.c0
                    go_wp2_with fail
                    refine (impl_SampleLayout _).mono ?_
                    rintro e w9 ⟨gs, rfl, ho9, hb9⟩
                    have O9 := Lib.hid ho9
                    have S10 := Lib.hid (S9.out.next hb9)
                    clear hb9 ho9 a0 b0
                    go_wp2_with fail
                    refine (impl_SeamLength _ _ _ _ _ sampleL _ ((O9.out.rd Pt.len).below' (by go_grown) (by go_size))).mono ?_
                    rintro e wv ⟨rfl, hbv⟩
                    rw [sample_seam]
                    have S11 := Lib.hid (S10.out.next hbv)
                    clear hbv
                    go_wp2
                    go_ret
                    exact ⟨rfl, HB.out.trans (S11.out.be.mono hb1s)⟩


end Go.Proofs.Ytlcllpgbpjdofaa
