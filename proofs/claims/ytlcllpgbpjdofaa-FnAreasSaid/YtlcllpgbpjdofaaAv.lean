/- The law FnAreas returns true. No condition. -/
import Derived.Test.YtlcllpgbpjdofaaAs
import Derived.Test.YtlcllpgbpjdofaaR3
import Derived.BigQuiet
set_option linter.unusedSimpArgs false
set_option linter.unusedVariables false
set_option maxRecDepth 100000
namespace Go.Proofs.Ytlcllpgbpjdofaa
open Go.RowKit

set_option maxRecDepth 100000 in
set_option maxHeartbeats 40000000 in
theorem walk_FnAreas (A : Option Addr) (n c : Nat) (w : World) (h : ArgB w A n) :
    Calls Try.prog 5 #[.slice A n c] w fun e w' => e = .returned (.bool true) ∧ Below w.heap.size w w' := by
  have hs := lt2
  have hs3 := lt3
  have HA := Lib.hid h
  clear h
  by_cases hn : 1048576 < n
  · have E1 := Lib.hid (show decide (1048576 < n) = true by simpa using hn)
    go_enter Try.func5, Try.ntmps5
    go_wp2_with fail
    refine (laws_big _ _ _ _ HA.out.1).mono ?_
    rintro e w' ⟨rfl, rfl⟩
    rw [E1.out]
    go_wp2
    go_ret
    exact ⟨rfl, Below.refl _ _⟩
  · have E1 := Lib.hid (show decide (1048576 < n) = false by simpa using hn)
    go_enter Try.func5, Try.ntmps5
    go_wp2_with fail
    refine (laws_big _ _ _ _ HA.out.1).mono ?_
    rintro e w' ⟨rfl, rfl⟩
    rw [E1.out]
    go_wp2_with fail
    refine (spec_DrawBlock _ _ _ _ (HA.out.2 (by omega))).mono ?_
    rintro e w1 ⟨z, A', m, cm, xs, hb, rfl, ho, hb1⟩
    clear E1
    obtain ⟨z1, z2, hl, hal⟩ := bOk_size hb
    rw [ho.len] at hl
    have HZ := Lib.hid hl
    have HL := Lib.hid ho.len
    have HAL := Lib.hid hal
    have hm16 : m ≤ 16 := bOk_len hb ho.len
    have hm1 : 1 ≤ m := by
      have : 1 ≤ z * z := by
        have h2 : z = 1 ∨ z = 2 ∨ z = 3 ∨ z = 4 := by omega
        rcases h2 with rfl | rfl | rfl | rfl <;> decide
      omega
    obtain ⟨gr, rfl, hgr1, hgr2⟩ := OwnC.form ho (by omega)
    have hb1s := hb1.size
    have HB := Lib.hid hb1
    have Hb := Lib.hid hb
    have BX1 := Lib.hid (Box2.mk_ w1 z (some ⟨gr, 0, none⟩) m cm 42)
    have OC1 := Lib.hid (ho.next ((Below.refl _ _).alloc (Nat.le_refl _) (.cells #[.int .i64 z, .slice (some ⟨gr, 0, none⟩) m cm] 42)))
    have BB1 := Lib.hid ((Below.refl w1.heap.size w1).alloc (Nat.le_refl _) (.cells #[.int .i64 z, .slice (some ⟨gr, 0, none⟩) m cm] 42))
    clear ho hb1 hb hl hal
    go_wp2_with fail
    refine (impl_AreaTable z _ _ _ xs _ (OC1.out.rd.below' (by go_grown) (by go_size))).mono ?_
    rintro e w2 ⟨At, nt, ct, rfl, ot, hb2⟩
    have BX2 := Lib.hid (BX1.out.next hb2)
    have OC2 := Lib.hid (OC1.out.next hb2)
    have BB2 := Lib.hid (BB1.out.trans (hb2.mono (by simp)))
    have ott := ot
    rw [show tabB z xs = tabTo z xs 6 from by rw [tabB, if_pos Hb.out]] at ott
    have e6 : nt = 6 := by rw [← ott.len, tabTo_len]
    subst e6
    obtain ⟨gt, rfl, hgt1, hgt2⟩ := OwnI.form ott (by omega)
    have OT2 := Lib.hid ott
    have s2 := hb2.size
    simp only [World.size_alloc] at s2 hgt1
    clear ot ott hb2
    have b0 := BX2.out.c0
    have b1 := BX2.out.c1
    go_wp2_with fail
    refine (spec_ColorsOf z _ _ _ xs _ (OC2.out.rd.below' (by go_grown) (by go_size))).mono ?_
    rintro e w3 ⟨Al, nl, cl, rfl, ol, hb3⟩
    have BX3 := Lib.hid (BX2.out.next hb3)
    have OC3 := Lib.hid (OC2.out.next hb3)
    have OT3 := Lib.hid (OT2.out.next hb3)
    have BB3 := Lib.hid (BB2.out.trans (hb3.mono (by omega)))
    have HNL := Lib.hid ol.len
    have hnl1 : 0 < nl := by rw [← ol.len]; exact colB_pos Hb.out
    obtain ⟨gl, rfl, hgl1, hgl2⟩ := OwnI.form ol hnl1
    have OL3 := Lib.hid ol
    have hnl6 : nl ≤ 6 := by
      rw [← ol.len, colB, if_pos Hb.out]; exact colTo_len _ _ _
    have s3 := hb3.size
    clear ol hb3 b0 b1 BX1 BX2 OC1 OC2 OT2 BB1 BB2
    obtain ⟨P, hP⟩ : ∃ P, P = w1.heap.size := ⟨_, rfl⟩
    rw [← hP] at BX3
    go_wp2_with fail
    try rw [← hP]
    have HPP := Lib.hid hP
    clear hP
    go_loopw [6, 7] (fun s i wr => ∃ (k : Nat), k ≤ 6 ∧ i = .int .i64 k ∧ s = .int .i64 (arS z xs k) ∧ Hid (Below w3.heap.size w3 wr)) (fun _ i _ => 6 - (intOf i).toNat)
    case atStart => exact ⟨0, Nat.zero_le _, rfl, rfl, Below.refl _ _⟩
    case round =>
      obtain ⟨k, hk, rfl, rfl, hr⟩ := hrel
      have bx := BX3.out.next hr.out
      have oc := OC3.out.next hr.out
      have ot := OT3.out.next hr.out
      have ol := OL3.out.next hr.out
      have hrs := hr.out.size
      have hPlt := bx.lt
      have hgtlt := (ot.lt _ rfl).2
      by_cases hlt : k < 6
      · have d1 : (k : Int) < 6 := by omega
        have d0 : (0 : Int) ≤ (k : Int) := by omega
        have u0 := bx.c0
        have u1 := bx.c1
        have cc := ot.cellAt (k := k) hlt
        rw [ith_tab hlt] at cc
        have cc2 : wr.cell? ⟨gt, k, none⟩ = some (.int .i64 (areaB z xs (k : Int))) := cc
        clear cc
        have ab := areaB_bd Hb.out (k : Int)
        have sb := arS_bd Hb.out k
        have ab0 := ab.1
        have ab1 := ab.2
        have sb0 := sb.1
        have sb1 : arS z xs k ≤ 400 := by have := sb.2; omega
        clear ab sb
        have HC := Lib.hid (has_col Hb.out hlt)
        have hne1 : (areaB z xs (k : Int) != areaB z xs (k : Int)) = false := by simp
        have hne2 : (decide (0 < areaB z xs (k : Int)) != decide (0 < areaB z xs (k : Int))) = false := by simp
        go_upto_region 11 with fail
        go_region_held3 (fun w' => w'.cell? ⟨P, 0, none⟩ = some (.int .i64 z) ∧ w'.cell? ⟨P, 1, none⟩ = some (.slice (some ⟨gr, 0, none⟩) m cm) ∧ w'.cell? ⟨gt, k, none⟩ = some (.int .i64 (areaB z xs (k : Int)))) (go_keep) (first
            | (go_at_call 25; (with_reducible refine (impl_AreaOf z _ _ _ xs _ _ ?_).mono ?_); exact (oc.rd.below' (by (repeat' (first | (with_reducible exact Below.refl _ _) | (with_reducible refine Below.setCell ?_ ?_ _) | (with_reducible refine Below.alloc ?_ ?_ _) | (with_reducible refine Below.drew ?_) | (with_reducible refine Below.drewN ?_ _) | (with_reducible refine Below.trans ?_ (Below.mono (by with_reducible assumption) ?_)) | go_size | (dsimp only; omega)))) (by go_size)); rintro e wA ⟨rfl, hbA⟩; have hyA := bsize hbA; (try simp at hyA); obtain ⟨bcA_0, bfA_0, bzA_0⟩ := bcell hbA (b := P) (by go_size); obtain ⟨bcA_1, bfA_1, bzA_1⟩ := bcell hbA (b := gt) (by go_size))
            | (go_at_call 26; (with_reducible refine (laws_has _ _ _ (colB z xs) _ _ ?_).mono ?_); exact ((ol.rd.below (by (repeat' (first | (with_reducible exact Below.refl _ _) | (with_reducible refine Below.setCell ?_ ?_ _) | (with_reducible refine Below.alloc ?_ ?_ _) | (with_reducible refine Below.drew ?_) | (with_reducible refine Below.drewN ?_ _) | (with_reducible refine Below.trans ?_ (Below.mono (by with_reducible assumption) ?_)) | go_size | (dsimp only; omega))))).more (by go_size)); rintro e wH ⟨rfl, rfl⟩; rw [HC.out]))
        have HBA := Lib.hid (hr.out.trans (((Below.refl wr.heap.size wr).drew.trans hbA).mono hrs))
        clear cc2 u0 u1 hbA
        go_wp2
        go_roundw
        case rel => exact ⟨k + 1, by omega, by go_num, rfl, HBA⟩
        case measure => simp [intOf]; omega
      · obtain rfl : k = 6 := by omega
        rw [arS_six Hb.out]
        have u0 := bx.c0
        have u1 := bx.c1
        clear hlt hk
        go_wp2_with fail
        refine (impl_MainColor z _ _ _ xs _ (oc.rd.below' (by go_grown) (by go_size))).mono ?_
        rintro e w4 ⟨rfl, hb4⟩
        rw [show mainB z xs = ((bestTo (areaN z xs) 6 : Nat) : Int) from by rw [mainB, if_pos Hb.out]]
        obtain ⟨M, hM⟩ : ∃ M, M = bestTo (areaN z xs) 6 := ⟨_, rfl⟩
        have hM6 : M < 6 := by rw [hM]; exact bestTo_lt _ _ (by omega)
        have HMX := Lib.hid (show ∀ j : Nat, j < 6 → areaB z xs (j : Int) ≤ areaB z xs (M : Int) from fun j hj => by
          have := bestTo_max (areaN z xs) 6 j hj
          rw [← hM] at this
          exact this)
        rw [← hM]
        have BX4 := Lib.hid (bx.next hb4)
        have OC4 := Lib.hid (oc.next hb4)
        have OT4 := Lib.hid (ot.next hb4)
        have OL4 := Lib.hid (ol.next hb4)
        have HB4 := Lib.hid (hr.out.trans (hb4.mono hrs))
        clear hM bx oc ot ol hb4 u0 u1
        have m0 : (0 : Int) ≤ (M : Int) := by omega
        have m1 : (M : Int) < 6 := by omega
        go_wp2_with fail
        go_loopw [9, 10] (fun b i wr => ∃ (k : Nat), k ≤ nl ∧ i = .int .i64 k ∧ b = .bool (balTo z xs k) ∧ Hid (Below w4.heap.size w4 wr)) (fun _ i _ => nl - (intOf i).toNat)
        case atStart => exact ⟨0, Nat.zero_le _, rfl, rfl, Below.refl _ _⟩
        case round =>
          clear hr hrs hPlt hgtlt
          obtain ⟨k, hk, rfl, rfl, hr⟩ := hrel
          have hrs := hr.out.size
          by_cases hlt : k < nl
          · have d1 : (k : Int) < (nl : Int) := by omega
            have d0 : (0 : Int) ≤ (k : Int) := by omega
            have d2 : (0 : Int) < (nl : Int) := by omega
            obtain ⟨q, hq6, eq⟩ := col_at Hb.out (j := k) (by rw [HNL.out]; exact hlt)
            obtain ⟨r, hr6, eqr⟩ := col_at Hb.out (j := 0) (by rw [HNL.out]; exact hnl1)
            have EB := Lib.hid (show balTo z xs (k + 1) = (balTo z xs k && decide (areaB z xs (q : Int) = areaB z xs (r : Int))) by rw [balTo_succ, eq, eqr])
            have hmx := HMX.out q hq6
            have hdx : decide (areaB z xs (M : Int) < areaB z xs (q : Int)) = false := decide_eq_false (by omega)
            have q0 : (0 : Int) ≤ (q : Int) := by omega
            have q1 : (q : Int) < 6 := by omega
            have r0 : (0 : Int) ≤ (r : Int) := by omega
            have r1 : (r : Int) < 6 := by omega
            have cl := (OL4.out.next hr.out).cellAt (k := k) hlt
            rw [eq] at cl
            have cl0 := (OL4.out.next hr.out).cellAt (k := 0) hnl1
            rw [eqr] at cl0
            have cq := (OT4.out.next hr.out).cellAt (k := q) hq6
            rw [ith_tab hq6] at cq
            have cq' : wr.cell? ⟨gt, q, none⟩ = some (.int .i64 (areaB z xs (q : Int))) := cq
            have cr := (OT4.out.next hr.out).cellAt (k := r) hr6
            rw [ith_tab hr6] at cr
            have cr' : wr.cell? ⟨gt, r, none⟩ = some (.int .i64 (areaB z xs (r : Int))) := cr
            clear cq cr eq eqr hmx
            go_upto_region 20 with fail
            go_cut [9] (fun s wx => s = .bool (balTo z xs (k + 1)) ∧ Hid (Below wr.heap.size wr wx))
            case first =>
              cases hbt : balTo z xs k with
              | true =>
                go_quiet (fail)
                go_wp2
                go_meet
                case rel => exact ⟨congrArg Value.bool (by rw [EB.out, hbt, Bool.true_and]; rfl), (Below.refl _ _).drewN _⟩
              | false =>
                go_quiet (fail)
                go_wp2
                go_meet
                case rel => exact ⟨congrArg Value.bool (by rw [EB.out, hbt]; rfl), (Below.refl _ _).drewN _⟩
            case rest =>
            rename World => wx
            obtain ⟨rfl, hx⟩ := hcut
            have HRX := Lib.hid (hr.out.trans (hx.out.mono hrs))
            have el := (hx.out.cell (p := ⟨gl, k, none⟩) (by have := ((OL4.out.next hr.out).lt _ rfl).2; dsimp only; omega)).trans cl
            have et := (hx.out.cell (p := ⟨gt, q, none⟩) (by have := ((OT4.out.next hr.out).lt _ rfl).2; dsimp only; omega)).trans cq'
            have cM := (OT4.out.next HRX.out).cellAt (k := M) hM6
            rw [ith_tab hM6] at cM
            have cM' : wx.cell? ⟨gt, M, none⟩ = some (.int .i64 (areaB z xs (M : Int))) := cM
            clear cM cl cl0 cq' cr' hx hr hrs
            go_upto_region 21 with fail
            go_quiet (fail)
            go_wp2
            go_roundw
            case rel => exact ⟨k + 1, by omega, by go_num, rfl, HRX.out.drewN _⟩
            case measure => simp [intOf]; omega
          · obtain rfl : k = nl := by omega
            have d1 : ¬ (k : Int) < (k : Int) := by omega
            have OC5 := Lib.hid (OC4.out.next hr.out)
            have BX5 := Lib.hid (BX4.out.next hr.out)
            have hcell := OC5.out.cellAt (k := 0) (by omega)
            simp only [Nat.zero_mul, Nat.zero_add] at hcell
            obtain ⟨x0, x1, x2⟩ := hcell
            have hok := allOkC_at HAL.out (show 0 < xs.length by rw [HL.out]; omega)
            obtain ⟨cs, hcs⟩ : ∃ q, q = cith xs 0 := ⟨_, rfl⟩
            rw [← hcs] at x0 x1 x2 hok
            clear hcs
            have HOK := Lib.hid hok
            clear hok
            have b0 := BX5.out.c0
            have b1 := BX5.out.c1
            have i1 : (0 : Int) < (m : Int) := by omega
            have OC6 := Lib.hid (OC5.out.next ((Below.refl _ _).alloc (Nat.le_refl _) (.cells #[.int .i64 cs.s, .int .i64 cs.a, .int .i64 cs.b] 49)))
            have BX6 := Lib.hid (BX5.out.next ((Below.refl _ _).alloc (Nat.le_refl _) (.cells #[.int .i64 cs.s, .int .i64 cs.a, .int .i64 cs.b] 49)))
            have b0' := BX6.out.c0
            have b1' := BX6.out.c1
            go_wp2_with fail
            refine (impl_CountTriangles z _ _ _ xs _ (OC6.out.rd.below' (by go_grown) (by go_size))).mono ?_
            rintro e w6 ⟨rfl, hb6⟩
            clear b0 b1 b0' b1' x0 x1 x2
            have hs6 := hb6.size
            simp only [World.size_alloc] at hs6
            have OC7 := Lib.hid (OC6.out.next hb6)
            have BX7 := Lib.hid (BX6.out.next hb6)
            have HB7 := Lib.hid (((Below.refl wr.heap.size wr).alloc (Nat.le_refl _) (.cells #[.int .i64 cs.s, .int .i64 cs.a, .int .i64 cs.b] 49)).trans (hb6.mono (by simp)))
            obtain ⟨Q, hQ⟩ : ∃ Q, Q = wr.heap.size := ⟨_, rfl⟩
            have x0 : w6.cell? ⟨Q, 0, none⟩ = some (.int .i64 cs.s) := by rw [hQ]; exact (hb6.cell (p := ⟨wr.heap.size, 0, none⟩) (by simp)).trans (by rw [World.cell?_alloc_new]; rfl)
            have x1 : w6.cell? ⟨Q, 1, none⟩ = some (.int .i64 cs.a) := by rw [hQ]; exact (hb6.cell (p := ⟨wr.heap.size, 1, none⟩) (by simp)).trans (by rw [World.cell?_alloc_new]; rfl)
            have x2 : w6.cell? ⟨Q, 2, none⟩ = some (.int .i64 cs.b) := by rw [hQ]; exact (hb6.cell (p := ⟨wr.heap.size, 2, none⟩) (by simp)).trans (by rw [World.cell?_alloc_new]; rfl)
            have hQlt : Q < w6.heap.size := by omega
            try simp only [← hQ]
            have HQ := Lib.hid hQ
            clear hQ hb6
            have b0 := BX7.out.c0
            have b1 := BX7.out.c1
            have hPlt := BX7.out.lt
            have HBL := Lib.hid (show balB z xs = balTo z xs k by rw [balB_eq Hb.out, HNL.out])
            obtain ⟨bv, hbv⟩ : ∃ bv, bv = balTo z xs k := ⟨_, rfl⟩
            rw [← hbv] at HBL
            try rw [← hbv]
            clear hbv
            have tb := tri_bd Hb.out HL.out
            have t0 := tb.1
            have t1 := tb.2
            clear tb
            obtain ⟨tv, htv⟩ : ∃ tv, tv = triB z xs := ⟨_, rfl⟩
            rw [← htv] at t0 t1
            try rw [← htv]
            clear htv
            have hz4 : (4 : Int) * z * z = 4 * (m : Int) := by rw [HZ.out, Int.mul_assoc]
            have hw1 : IntKind.i64.wrap (4 * z) = 4 * z := IntWalk.i64_in _ (by omega)
            have hw2 : IntKind.i64.wrap (4 * z * z) = 4 * z * z := IntWalk.i64_in _ (by omega)
            have hw3 : IntKind.i64.wrap (2 * (m : Int)) = 2 * (m : Int) := IntWalk.i64_in _ (by omega)
            have heq1 : (4 * z * z == 4 * z * z) = true := by simp
            have heq2 : (bv == bv) = true := by simp
            have hde1 : decide (0 ≤ tv) = true := decide_eq_true t0
            have hde2 : decide (tv ≤ 2 * (m : Int)) = true := decide_eq_true t1
            clear hz4
            have OCE := OC7.out
            go_upto_region 25 with fail
            by_cases hab : cs.a = cs.b
            · have heq : (cs.a == cs.b) = true := by simpa using hab
              have HE1 := Lib.hid (show areaC cs.s cs.a cs.b cs.a = 4 by have h := HOK.out; rw [← hab] at h ⊢; exact area_same h)
              have HE2 := Lib.hid (show areaC cs.s cs.a cs.b cs.b = 4 by have h := HOK.out; rw [← hab] at h ⊢; exact area_same h)
              clear hab
              go_region_held3 (fun w' => w'.cell? ⟨P, 0, none⟩ = some (.int .i64 z) ∧ w'.cell? ⟨P, 1, none⟩ = some (.slice (some ⟨gr, 0, none⟩) m cm) ∧ w'.cell? ⟨Q, 0, none⟩ = some (.int .i64 cs.s) ∧ w'.cell? ⟨Q, 1, none⟩ = some (.int .i64 cs.a) ∧ w'.cell? ⟨Q, 2, none⟩ = some (.int .i64 cs.b)) (go_keep) (first
                  | (go_at_call 29; (with_reducible refine (impl_IsBalanced z _ _ _ xs _ ?_).mono ?_); exact (OCE.rd.below' (by (repeat' (first | (with_reducible exact Below.refl _ _) | (with_reducible refine Below.setCell ?_ ?_ _) | (with_reducible refine Below.alloc ?_ ?_ _) | (with_reducible refine Below.drew ?_) | (with_reducible refine Below.drewN ?_ _) | (with_reducible refine Below.trans ?_ (Below.mono (by with_reducible assumption) ?_)) | go_size | (dsimp only; omega)))) (by go_size)); rintro e wB ⟨rfl, hbB⟩; have hyB := bsize hbB; (try simp at hyB); obtain ⟨bcB_0, bfB_0, bzB_0⟩ := bcell hbB (b := P) (by go_size); obtain ⟨bcB_1, bfB_1, bzB_1⟩ := bcell hbB (b := Q) (by go_size); rw [HBL.out])
                  | (go_at_call 30; (with_reducible refine (impl_CellArea _ _ _ _ _).mono ?_); rintro e wC ⟨rfl, hbC⟩; have hyC := bsize hbC; (try simp at hyC); obtain ⟨bcC_0, bfC_0, bzC_0⟩ := bcell hbC (b := P) (by go_size); obtain ⟨bcC_1, bfC_1, bzC_1⟩ := bcell hbC (b := Q) (by go_size); (first | rw [HE1.out] | rw [HE2.out]))
                  | (go_at_call 31; (with_reducible refine (laws_btoi _ _).mono ?_); rintro e wI ⟨rfl, rfl⟩)
                  | (go_at_call 32; (with_reducible refine (impl_StarBlock _).mono ?_); rintro e wS ⟨gs, rfl, os, hbS⟩; have hyS := bsize hbS; (try simp at hyS); obtain ⟨bcS_0, bfS_0, bzS_0⟩ := bcell hbS (b := P) (by go_size); obtain ⟨bcS_1, bfS_1, bzS_1⟩ := bcell hbS (b := Q) (by go_size); have OS := Lib.hid os)
                  | (go_at_call 28; (with_reducible refine (impl_CountTriangles 3 _ _ _ starL _ ?_).mono ?_); exact (OS.out.rd.below' (by (repeat' (first | (with_reducible exact Below.refl _ _) | (with_reducible refine Below.setCell ?_ ?_ _) | (with_reducible refine Below.alloc ?_ ?_ _) | (with_reducible refine Below.drew ?_) | (with_reducible refine Below.drewN ?_ _) | (with_reducible refine Below.trans ?_ (Below.mono (by with_reducible assumption) ?_)) | go_size | (dsimp only; omega)))) (by go_size)); rintro e wT ⟨rfl, hbT⟩; have hyT := bsize hbT; (try simp at hyT); obtain ⟨bcT_0, bfT_0, bzT_0⟩ := bcell hbT (b := P) (by go_size); obtain ⟨bcT_1, bfT_1, bzT_1⟩ := bcell hbT (b := Q) (by go_size); rw [tri_star]))
              have HFIN : Below w6.heap.size w6 wT := by (repeat' (first | (with_reducible exact Below.refl _ _) | (with_reducible refine Below.setCell ?_ ?_ _) | (with_reducible refine Below.alloc ?_ ?_ _) | (with_reducible refine Below.drew ?_) | (with_reducible refine Below.drewN ?_ _) | (with_reducible refine Below.trans ?_ (Below.mono (by with_reducible assumption) ?_)) | go_size | (dsimp only; omega)))
              have HALL := Lib.hid (HB.out.trans ((BB3.out.trans ((HB4.out.trans ((hr.out.trans ((HB7.out.trans (HFIN.mono HB7.out.size)).mono hr.out.size)).mono HB4.out.size)).mono BB3.out.size)).mono HB.out.size))
              go_wp2
              go_ret
              exact ⟨rfl, HALL.out⟩
            · have heq : (cs.a == cs.b) = false := by simpa using hab
              have HE1 := Lib.hid (area_apart HOK.out hab).1
              have HE2 := Lib.hid (area_apart HOK.out hab).2
              clear hab
              go_region_held3 (fun w' => w'.cell? ⟨P, 0, none⟩ = some (.int .i64 z) ∧ w'.cell? ⟨P, 1, none⟩ = some (.slice (some ⟨gr, 0, none⟩) m cm) ∧ w'.cell? ⟨Q, 0, none⟩ = some (.int .i64 cs.s) ∧ w'.cell? ⟨Q, 1, none⟩ = some (.int .i64 cs.a) ∧ w'.cell? ⟨Q, 2, none⟩ = some (.int .i64 cs.b)) (go_keep) (first
                  | (go_at_call 29; (with_reducible refine (impl_IsBalanced z _ _ _ xs _ ?_).mono ?_); exact (OCE.rd.below' (by (repeat' (first | (with_reducible exact Below.refl _ _) | (with_reducible refine Below.setCell ?_ ?_ _) | (with_reducible refine Below.alloc ?_ ?_ _) | (with_reducible refine Below.drew ?_) | (with_reducible refine Below.drewN ?_ _) | (with_reducible refine Below.trans ?_ (Below.mono (by with_reducible assumption) ?_)) | go_size | (dsimp only; omega)))) (by go_size)); rintro e wB ⟨rfl, hbB⟩; have hyB := bsize hbB; (try simp at hyB); obtain ⟨bcB_0, bfB_0, bzB_0⟩ := bcell hbB (b := P) (by go_size); obtain ⟨bcB_1, bfB_1, bzB_1⟩ := bcell hbB (b := Q) (by go_size); rw [HBL.out])
                  | (go_at_call 30; (with_reducible refine (impl_CellArea _ _ _ _ _).mono ?_); rintro e wC ⟨rfl, hbC⟩; have hyC := bsize hbC; (try simp at hyC); obtain ⟨bcC_0, bfC_0, bzC_0⟩ := bcell hbC (b := P) (by go_size); obtain ⟨bcC_1, bfC_1, bzC_1⟩ := bcell hbC (b := Q) (by go_size); (first | rw [HE1.out] | rw [HE2.out]))
                  | (go_at_call 31; (with_reducible refine (laws_btoi _ _).mono ?_); rintro e wI ⟨rfl, rfl⟩)
                  | (go_at_call 32; (with_reducible refine (impl_StarBlock _).mono ?_); rintro e wS ⟨gs, rfl, os, hbS⟩; have hyS := bsize hbS; (try simp at hyS); obtain ⟨bcS_0, bfS_0, bzS_0⟩ := bcell hbS (b := P) (by go_size); obtain ⟨bcS_1, bfS_1, bzS_1⟩ := bcell hbS (b := Q) (by go_size); have OS := Lib.hid os)
                  | (go_at_call 28; (with_reducible refine (impl_CountTriangles 3 _ _ _ starL _ ?_).mono ?_); exact (OS.out.rd.below' (by (repeat' (first | (with_reducible exact Below.refl _ _) | (with_reducible refine Below.setCell ?_ ?_ _) | (with_reducible refine Below.alloc ?_ ?_ _) | (with_reducible refine Below.drew ?_) | (with_reducible refine Below.drewN ?_ _) | (with_reducible refine Below.trans ?_ (Below.mono (by with_reducible assumption) ?_)) | go_size | (dsimp only; omega)))) (by go_size)); rintro e wT ⟨rfl, hbT⟩; have hyT := bsize hbT; (try simp at hyT); obtain ⟨bcT_0, bfT_0, bzT_0⟩ := bcell hbT (b := P) (by go_size); obtain ⟨bcT_1, bfT_1, bzT_1⟩ := bcell hbT (b := Q) (by go_size); rw [tri_star]))
              have HFIN : Below w6.heap.size w6 wT := by (repeat' (first | (with_reducible exact Below.refl _ _) | (with_reducible refine Below.setCell ?_ ?_ _) | (with_reducible refine Below.alloc ?_ ?_ _) | (with_reducible refine Below.drew ?_) | (with_reducible refine Below.drewN ?_ _) | (with_reducible refine Below.trans ?_ (Below.mono (by with_reducible assumption) ?_)) | go_size | (dsimp only; omega)))
              have HALL := Lib.hid (HB.out.trans ((BB3.out.trans ((HB4.out.trans ((hr.out.trans ((HB7.out.trans (HFIN.mono HB7.out.size)).mono hr.out.size)).mono HB4.out.size)).mono BB3.out.size)).mono HB.out.size))
              go_wp2
              go_ret
              exact ⟨rfl, HALL.out⟩

end Go.Proofs.Ytlcllpgbpjdofaa
