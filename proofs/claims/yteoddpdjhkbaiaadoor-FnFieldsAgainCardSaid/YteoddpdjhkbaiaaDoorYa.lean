/- The law FnFieldsAgain returns true where the library's listed variables read as their text lays them. -/
import Derived.Test.YteoddpdjhkbaiaaDoorYx
import Derived.Test.YteoddpdjhkbaiaaDoorYb
import Derived.Test.YteoddpdjhkbaiaaDoorYf
import Derived.Test.YteoddpdjhkbaiaaDoorR3
set_option linter.unusedSimpArgs false
set_option linter.unusedVariables false
set_option maxRecDepth 100000
namespace Go.Proofs.YteoddpdjhkbaiaaDoor
open Go.RowKit

theorem itoa_neg3 : itoaS (-3) = ⟨#[45, 51]⟩ := by
  unfold itoaS Lib.itoa
  rw [if_pos (by omega), show (-3 : Int).natAbs = 3 from rfl, Lib.decDigits, dif_pos (by omega)]
  rfl
set_option maxRecDepth 100000 in
set_option maxHeartbeats 1000000 in
theorem laws_sameTexts (A A' : Option Addr) (n c n' c' : Nat) (xs : List ByteArray) (w : World) (h : RdZ w w.heap.size A n xs) (h' : RdZ w w.heap.size A' n' xs) :
    Calls Tryd.prog 23 #[.slice A n c, .slice A' n' c'] w fun e w' => e = .returned (.bool true) ∧ Below w.heap.size w w' := by
  have hle := h.le
  have hle' := h'.le
  obtain rfl : n = n' := by rw [← h.1, ← h'.1]
  have H := Lib.hid h
  have H' := Lib.hid h'
  clear h h'
  have hq : ((n : Int) != (n : Int)) = false := by simp
  go_enter Tryd.func23, Tryd.ntmps23
  go_wp2
  clear hq
  go_loopw [5] (fun i wr => ∃ (k : Nat), k ≤ n ∧ i = .int .i64 k ∧ Hid (Below w.heap.size w wr)) (fun i _ => n - (intOf i).toNat)
  case atStart => exact ⟨0, Nat.zero_le _, rfl, Below.refl _ _⟩
  case round =>
    obtain ⟨k, hk, rfl, hb⟩ := hrel
    by_cases hlt : k < n
    · obtain ⟨g, off, rfl, hc0⟩ := RdZ.at1 (H.out.below hb.out) hlt
      obtain ⟨g', off', rfl, hc0'⟩ := RdZ.at1 (H'.out.below hb.out) hlt
      have h0 : (0 : Int) ≤ (k : Int) := by omega
      have h1 : (k : Int) < (n : Int) := by omega
      go_wp2
      go_quiet (fail)
      go_wp2
      go_roundw
      case rel => exact ⟨k + 1, by omega, by go_num, hb.out.drewN _⟩
      case measure => simp [intOf]; omega
    · go_wp2
      go_ret
      exact ⟨rfl, hb.out⟩

set_option maxHeartbeats 1000000 in
theorem spec_l01Pick (B g : Nat) (A : Option Addr) (n c : Nat) (G off m k0 : Nat) (w : World) (h : Cur w B g A n c) (hne : G ≠ g) (hG : G < w.heap.size) (hm0 : 0 < m) (hm1 : m ≤ 256) (hc : ∀ k, k < m → ∃ v, w.cell? ⟨G, off + k, none⟩ = some (.string v)) :
    Calls Tryd.prog 49 #[.pointer (some ⟨g, 0, none⟩), .slice (some ⟨G, off, none⟩) m k0] w (DrawnS w B g A n c (fun s => ∃ k, k < m ∧ w.cell? ⟨G, off + k, none⟩ = some (.string s))) := by
  have HC := Lib.hid h
  have H := Lib.hid hc
  clear h hc
  go_enter Tryd.func49, Tryd.ntmps49
  go_wp2_with fail
  refine (spec_l01Below _ _ _ _ _ _ _ HC.out).mono ?_
  rintro e w1 ⟨x, hx, rfl, hc1, hg1⟩
  have H1 := Lib.hid hc1
  have G1 := Lib.hid hg1
  clear hc1 hg1
  obtain ⟨hx0, hx1⟩ := hx.2 (by omega)
  clear hx
  obtain ⟨k, rfl⟩ := Int.eq_ofNat_of_zero_le hx0
  obtain ⟨v, hv⟩ := H.out k (by omega)
  have hv1 : w1.cell? ⟨G, off + k, none⟩ = some (.string v) := (World.cell?_of_block (a := ⟨G, off + k, none⟩) (G1.out.block G hG (fun e => hne (by cases e; rfl)))).trans hv
  have HV := Lib.hid hv
  clear hv
  go_wp2
  go_ret
  exact ⟨v, ⟨k, by omega, HV.out⟩, rfl, H1.out, G1.out⟩
theorem str_cells (w : World) (xs : List ByteArray) (T : TypeId) (m : Nat) (hl : xs.length = m) : ∀ k, k < m → ∃ v, (w.alloc (.cells (xs.map Value.string).toArray T)).cell? ⟨w.heap.size, 0 + k, none⟩ = some (.string v) := by
  intro k hk
  exact ⟨xs[k]'(by omega), cells_at w _ T (by simp [hl, hk])⟩
theorem str_bound (w : World) (xs : List ByteArray) (T : TypeId) (y : ByteArray) {k B : Nat} (h : (w.alloc (.cells (xs.map Value.string).toArray T)).cell? ⟨w.heap.size, 0 + k, none⟩ = some (.string y)) (hb : ∀ x ∈ xs, x.size ≤ B) : y.size ≤ B := by
  rw [Nat.zero_add, World.cell?_alloc_new] at h
  have h1 : (xs.map Value.string)[k]? = some (.string y) := by simpa using h
  rw [List.getElem?_map] at h1
  cases hx : xs[k]? with
  | none => rw [hx] at h1; cases h1
  | some x =>
    rw [hx] at h1
    simp only [Option.map_some, Option.some.injEq, Value.string.injEq] at h1
    subst h1
    exact hb _ (List.mem_of_getElem? hx)

set_option maxRecDepth 100000 in
set_option maxHeartbeats 4000000 in
theorem spec_DrawSplitFields (A : Option Addr) (n c : Nat) (w : World) (h : RdB w w.heap.size A n) :
    Calls Tryd.prog 20 #[.slice A n c] w fun e w' => ∃ s : ByteArray, s.size ≤ 2000 ∧ e = .returned (.string s) ∧ Below w.heap.size w w' := by
  have H := Lib.hid h
  clear h
  go_enter Tryd.func20, Tryd.ntmps20
  go_wp2_with fail
  refine (spec_l01New _ _ _ _ _ (Nat.le_refl _) H.out).mono ?_
  rintro e w0 ⟨g, rfl, hg, hc, hb⟩
  have H0 := Lib.hid hc
  have HB := Lib.hid hb
  have G0 := Lib.hid (gG_refl w0 (some g))
  clear hc hb
  have KB : ∀ w', w0.grownBy w' (some g) → Below w.heap.size w w' := fun w' hg' => HB.out.grown hg' HB.out.size (fun k e => by cases e; exact hg)
  have HK := Lib.hid KB
  clear KB
  go_wp2_with fail
  refine (spec_l01Below _ _ _ _ _ _ _ H0.out).mono ?_
  rintro e w1 ⟨x, px, rfl, hc1, hg1⟩
  have H1 := Lib.hid hc1
  have G1 := Lib.hid (grown_tr G0.out hg1)
  obtain ⟨x_0, x_1⟩ := px.2 (by omega)
  clear px hc1 hg1
  go_wp2_with fail
  refine (spec_l01Once _ _ _ _ _ _ _ H1.out).mono ?_
  rintro e w2 ⟨b, rfl, hc1, hg1⟩
  have H2 := Lib.hid hc1
  have G2 := Lib.hid (grown_tr G1.out hg1)
  clear hc1 hg1
  cases b with
  | true =>
    go_wp2_with fail
    refine (spec_l01Below _ _ _ _ _ _ _ H2.out).mono ?_
    rintro e w3 ⟨y, px, rfl, hc1, hg1⟩
    have H3 := Lib.hid hc1
    have G3 := Lib.hid (grown_tr G2.out hg1)
    obtain ⟨y_0, y_1⟩ := px.2 (by omega)
    clear px hc1 hg1
    obtain ⟨m, hm⟩ := Int.eq_ofNat_of_zero_le (show 0 ≤ 24 + y by omega)
    have hm25 : m ≤ 25 := by omega
    have hyw : wrap64 (24 + y) = (m : Int) := by rw [← hm]; exact IntWalk.wrap64_in _ (by omega)
    obtain rfl : y = (m : Int) - 24 := by omega
    have hyq : 24 + ((m : Int) - 24) = (m : Int) := by omega
    clear hm
    go_wp2
    go_loopw [5, 6] (fun v i wr => ∃ (k : Nat) (s : ByteArray), k ≤ m ∧ i = .int .i64 k ∧ v = .string s ∧ s.size ≤ 8 * k ∧ Hid (Cur wr w.heap.size g A n c) ∧ Hid (w0.grownBy wr (some g))) (fun _ i _ => m - (intOf i).toNat)
    case atStart => exact ⟨0, ByteArray.empty, by omega, rfl, rfl, by decide, H3, G3⟩
    case round =>
      obtain ⟨k, s, hk, rfl, rfl, hs, hc, hg⟩ := hrel
      by_cases hlt : k < m
      · by_cases hk0 : 0 < k
        · have hq0 : (0 : Int) < (k : Int) := by omega
          go_wp2_with fail
          refine (spec_l01Below _ _ _ _ _ _ _ hc.out).mono ?_
          rintro e wsa ⟨x, px, rfl, hc1, hg1⟩
          have Hsa := Lib.hid hc1
          have Gsa := Lib.hid (grown_tr hg.out hg1)
          obtain ⟨x_0, x_1⟩ := px.2 (by omega)
          clear px hc1 hg1
          go_wp2_with fail
          refine (spec_l01Below _ _ _ _ _ _ _ Hsa.out).mono ?_
          rintro e wsb ⟨y, px, rfl, hc1, hg1⟩
          have Hsb := Lib.hid hc1
          have Gsb := Lib.hid (grown_tr Gsa.out hg1)
          obtain ⟨y_0, y_1⟩ := px.2 (by omega)
          clear px hc1 hg1
          have hxy : 0 ≤ x * y ∧ x * y ≤ 2 := by
            have hx : x = 0 ∨ x = 1 := by omega
            rcases hx with rfl | rfl <;> omega
          obtain ⟨hxy0, hxy1⟩ := hxy
          have hxw : wrap64 (x * y) = x * y := IntWalk.wrap64_in _ (by omega)
          go_wp2_with fail
          refine (spec_l01LongI _ _ _ (by omega) (by omega) (by omega) (by omega)).mono ?_
          rintro e wsc ⟨b1, hb1, rfl, hb3⟩
          have hbz : b1.size ≤ 3 := by
            have h1 := congrArg List.length hb1
            simp at h1
            omega
          have Hsc := Lib.hid (Hsb.out.next hb3)
          have Gsc := Lib.hid (gG_own Gsb.out (grown_of_below hb3 none) (fun q e => by cases e))
          have hlen : ¬ 9223372036854775807 < s.size + b1.size := by omega
          clear hb1 hb3
          go_wp2
          go_loopw [5, 7] (fun v j wr => ∃ (q : Nat) (s2 : ByteArray), q ≤ 5 ∧ j = .int .i64 q ∧ v = .string s2 ∧ s2.size ≤ 8 * k + 3 + q ∧ Hid (Cur wr w.heap.size g A n c) ∧ Hid (w0.grownBy wr (some g))) (fun _ j _ => 5 - (intOf j).toNat)
          case atStart => exact ⟨0, s ++ b1, by omega, rfl, rfl, by rw [app_size]; omega, Hsc, Gsc⟩
          case round =>
            obtain ⟨q, s2, hq, rfl, rfl, hs2, hc, hg⟩ := hrel
            go_wp2_with fail
            refine (spec_l01Below _ _ _ _ _ _ _ hc.out).mono ?_
            rintro e wa ⟨x, px, rfl, hc1, hg1⟩
            have HA := Lib.hid hc1
            have GA := Lib.hid (grown_tr hg.out hg1)
            obtain ⟨x_0, x_1⟩ := px.2 (by omega)
            clear px hc1 hg1
            by_cases hqx : (q : Int) ≤ x
            · go_wp2_with fail
              refine (spec_l01Below _ _ _ _ _ _ _ HA.out).mono ?_
              rintro e wb ⟨y, py, rfl, hc1, hg1⟩
              have HB := Lib.hid hc1
              have GB := Lib.hid (grown_tr GA.out hg1)
              obtain ⟨y_0, y_1⟩ := py.2 (by omega)
              clear py hc1 hg1
              have hby : ((UInt8.ofNat (33 + y).toNat).toNat : Int) = 33 + y := byte_nat (by omega) (by omega)
              have hconv := one_byteS wb (UInt8.ofNat (33 + y).toNat)
              rw [hby] at hconv
              have hsz : (bstr [UInt8.ofNat (33 + y).toNat]).size = 1 := rfl
              have hlen : ¬ 9223372036854775807 < s2.size + (bstr [UInt8.ofNat (33 + y).toNat]).size := by omega
              clear hby
              go_wp2
              go_roundw
              case rel => exact ⟨q + 1, _, by omega, by go_num, rfl, by rw [app_size]; omega, HB.out.next ((Below.refl _ _).alloc (Nat.le_refl _) _), gG_alloc GB.out _⟩
              case measure => simp [intOf]; omega
            · go_wp2
              go_roundw
              case rel => exact ⟨k + 1, s2, by omega, by go_num, rfl, by omega, HA.out, GA.out⟩
              case measure => simp [intOf]; omega
        · obtain rfl : k = 0 := by omega
          clear hk0
          go_wp2_with fail
          refine (spec_l01Once _ _ _ _ _ _ _ hc.out).mono ?_
          rintro e wo ⟨b, rfl, hc1, hg1⟩
          have Ho := Lib.hid hc1
          have Go := Lib.hid (grown_tr hg.out hg1)
          clear hc1 hg1
          cases b with
          | true =>
            go_wp2_with fail
            refine (spec_l01Below _ _ _ _ _ _ _ Ho.out).mono ?_
            rintro e wsa ⟨x, px, rfl, hc1, hg1⟩
            have Hsa := Lib.hid hc1
            have Gsa := Lib.hid (grown_tr Go.out hg1)
            obtain ⟨x_0, x_1⟩ := px.2 (by omega)
            clear px hc1 hg1
            go_wp2_with fail
            refine (spec_l01Below _ _ _ _ _ _ _ Hsa.out).mono ?_
            rintro e wsb ⟨y, px, rfl, hc1, hg1⟩
            have Hsb := Lib.hid hc1
            have Gsb := Lib.hid (grown_tr Gsa.out hg1)
            obtain ⟨y_0, y_1⟩ := px.2 (by omega)
            clear px hc1 hg1
            have hxy : 0 ≤ x * y ∧ x * y ≤ 2 := by
              have hx : x = 0 ∨ x = 1 := by omega
              rcases hx with rfl | rfl <;> omega
            obtain ⟨hxy0, hxy1⟩ := hxy
            have hxw : wrap64 (x * y) = x * y := IntWalk.wrap64_in _ (by omega)
            go_wp2_with fail
            refine (spec_l01LongI _ _ _ (by omega) (by omega) (by omega) (by omega)).mono ?_
            rintro e wsc ⟨b1, hb1, rfl, hb3⟩
            have hbz : b1.size ≤ 3 := by
              have h1 := congrArg List.length hb1
              simp at h1
              omega
            have Hsc := Lib.hid (Hsb.out.next hb3)
            have Gsc := Lib.hid (gG_own Gsb.out (grown_of_below hb3 none) (fun q e => by cases e))
            have hlen : ¬ 9223372036854775807 < s.size + b1.size := by omega
            clear hb1 hb3
            go_wp2
            go_loopw [5, 7] (fun v j wr => ∃ (q : Nat) (s2 : ByteArray), q ≤ 5 ∧ j = .int .i64 q ∧ v = .string s2 ∧ s2.size ≤ 8 * 0 + 3 + q ∧ Hid (Cur wr w.heap.size g A n c) ∧ Hid (w0.grownBy wr (some g))) (fun _ j _ => 5 - (intOf j).toNat)
            case atStart => exact ⟨0, s ++ b1, by omega, rfl, rfl, by rw [app_size]; omega, Hsc, Gsc⟩
            case round =>
              obtain ⟨q, s2, hq, rfl, rfl, hs2, hc, hg⟩ := hrel
              go_wp2_with fail
              refine (spec_l01Below _ _ _ _ _ _ _ hc.out).mono ?_
              rintro e wa ⟨x, px, rfl, hc1, hg1⟩
              have HA := Lib.hid hc1
              have GA := Lib.hid (grown_tr hg.out hg1)
              obtain ⟨x_0, x_1⟩ := px.2 (by omega)
              clear px hc1 hg1
              by_cases hqx : (q : Int) ≤ x
              · go_wp2_with fail
                refine (spec_l01Below _ _ _ _ _ _ _ HA.out).mono ?_
                rintro e wb ⟨y, py, rfl, hc1, hg1⟩
                have HB := Lib.hid hc1
                have GB := Lib.hid (grown_tr GA.out hg1)
                obtain ⟨y_0, y_1⟩ := py.2 (by omega)
                clear py hc1 hg1
                have hby : ((UInt8.ofNat (33 + y).toNat).toNat : Int) = 33 + y := byte_nat (by omega) (by omega)
                have hconv := one_byteS wb (UInt8.ofNat (33 + y).toNat)
                rw [hby] at hconv
                have hsz : (bstr [UInt8.ofNat (33 + y).toNat]).size = 1 := rfl
                have hlen : ¬ 9223372036854775807 < s2.size + (bstr [UInt8.ofNat (33 + y).toNat]).size := by omega
                clear hby
                go_wp2
                go_roundw
                case rel => exact ⟨q + 1, _, by omega, by go_num, rfl, by rw [app_size]; omega, HB.out.next ((Below.refl _ _).alloc (Nat.le_refl _) _), gG_alloc GB.out _⟩
                case measure => simp [intOf]; omega
              · go_wp2
                go_roundw
                case rel => exact ⟨0 + 1, s2, by omega, by go_num, rfl, by omega, HA.out, GA.out⟩
                case measure => simp [intOf]; omega
          | false =>
            go_wp2
            go_loopw [5, 7] (fun v j wr => ∃ (q : Nat) (s2 : ByteArray), q ≤ 5 ∧ j = .int .i64 q ∧ v = .string s2 ∧ s2.size ≤ 8 * 0 + 3 + q ∧ Hid (Cur wr w.heap.size g A n c) ∧ Hid (w0.grownBy wr (some g))) (fun _ j _ => 5 - (intOf j).toNat)
            case atStart => exact ⟨0, s, by omega, rfl, rfl, by omega, Ho, Go⟩
            case round =>
              obtain ⟨q, s2, hq, rfl, rfl, hs2, hc, hg⟩ := hrel
              go_wp2_with fail
              refine (spec_l01Below _ _ _ _ _ _ _ hc.out).mono ?_
              rintro e wa ⟨x, px, rfl, hc1, hg1⟩
              have HA := Lib.hid hc1
              have GA := Lib.hid (grown_tr hg.out hg1)
              obtain ⟨x_0, x_1⟩ := px.2 (by omega)
              clear px hc1 hg1
              by_cases hqx : (q : Int) ≤ x
              · go_wp2_with fail
                refine (spec_l01Below _ _ _ _ _ _ _ HA.out).mono ?_
                rintro e wb ⟨y, py, rfl, hc1, hg1⟩
                have HB := Lib.hid hc1
                have GB := Lib.hid (grown_tr GA.out hg1)
                obtain ⟨y_0, y_1⟩ := py.2 (by omega)
                clear py hc1 hg1
                have hby : ((UInt8.ofNat (33 + y).toNat).toNat : Int) = 33 + y := byte_nat (by omega) (by omega)
                have hconv := one_byteS wb (UInt8.ofNat (33 + y).toNat)
                rw [hby] at hconv
                have hsz : (bstr [UInt8.ofNat (33 + y).toNat]).size = 1 := rfl
                have hlen : ¬ 9223372036854775807 < s2.size + (bstr [UInt8.ofNat (33 + y).toNat]).size := by omega
                clear hby
                go_wp2
                go_roundw
                case rel => exact ⟨q + 1, _, by omega, by go_num, rfl, by rw [app_size]; omega, HB.out.next ((Below.refl _ _).alloc (Nat.le_refl _) _), gG_alloc GB.out _⟩
                case measure => simp [intOf]; omega
              · go_wp2
                go_roundw
                case rel => exact ⟨0 + 1, s2, by omega, by go_num, rfl, by omega, HA.out, GA.out⟩
                case measure => simp [intOf]; omega
      · obtain rfl : k = m := by omega
        go_wp2_with fail
        refine (spec_l01Below _ _ _ _ _ _ _ hc.out).mono ?_
        rintro e wz ⟨z, px, rfl, hc1, hg1⟩
        have Hz := Lib.hid hc1
        have Gz := Lib.hid (grown_tr hg.out hg1)
        obtain ⟨z_0, z_1⟩ := px.2 (by omega)
        clear px hc1 hg1
        by_cases hz0 : z = 0
        · subst hz0
          go_wp2_with fail
          have hgw := Hz.out.2.1
          refine (spec_l01Pick w.heap.size g A n c wz.heap.size 0 6 6 _ (Hz.out.next ((Below.refl _ _).alloc (Nat.le_refl _) _)) (by omega) (by simp) (by omega) (by omega) (str_cells wz [⟨#[32]⟩, ⟨#[32, 32]⟩, ⟨#[9]⟩, ⟨#[10]⟩, ⟨#[127]⟩, ⟨#[233]⟩] _ 6 rfl)).mono ?_
          rintro e wy ⟨y, ⟨k1, hk1, hy1⟩, rfl, hc2, hg2⟩
          have hyz : y.size ≤ 2 := str_bound wz [⟨#[32]⟩, ⟨#[32, 32]⟩, ⟨#[9]⟩, ⟨#[10]⟩, ⟨#[127]⟩, ⟨#[233]⟩] _ y (k := k1) hy1 (by decide)
          have Gy := Lib.hid (grown_tr (gG_alloc Gz.out _) hg2)
          have hlen : ¬ 9223372036854775807 < s.size + y.size := by omega
          clear hy1 hc2 hg2
          go_wp2
          go_ret
          exact ⟨_, by rw [app_size]; omega, rfl, HK.out _ Gy.out⟩
        · by_cases hz1 : z = 1
          · subst hz1
            have q0 : ((1 : Int) == 0) = false := by decide
            have hsl' : (s.size : Int) < 600 := by omega
            go_wp2_with fail
            refine (spec_l01Below _ _ _ _ _ _ _ Hz.out).mono ?_
            rintro e wy ⟨y, px, rfl, hc1, hg1⟩
            have Hy := Lib.hid hc1
            have Gy := Lib.hid (grown_tr Gz.out hg1)
            obtain ⟨y_0, y_1⟩ := px.2 (by omega)
            clear px hc1 hg1
            go_wp2_with fail
            refine (spec_l01LongI _ _ _ (by omega) (by omega) (by omega) (by omega)).mono ?_
            rintro e wu ⟨b1, hb1, rfl, hb3⟩
            have hbz : b1.size ≤ 601 := by
              have h1 := congrArg List.length hb1
              simp at h1
              omega
            have Gu := Lib.hid (gG_own Gy.out (grown_of_below hb3 none) (fun q e => by cases e))
            have hlen : ¬ 9223372036854775807 < s.size + b1.size := by omega
            clear hb1 hb3
            go_wp2
            go_ret
            exact ⟨_, by rw [app_size]; omega, rfl, HK.out _ Gu.out⟩
          · have q0 : (z == 0) = false := by simpa using hz0
            have q1 : (z == 1) = false := by simpa using hz1
            go_wp2
            go_ret
            exact ⟨_, by omega, rfl, HK.out _ Gz.out⟩
  | false =>
    obtain ⟨m, rfl⟩ := Int.eq_ofNat_of_zero_le x_0
    have hm25 : m ≤ 25 := by omega
    go_wp2
    go_loopw [5, 6] (fun v i wr => ∃ (k : Nat) (s : ByteArray), k ≤ m ∧ i = .int .i64 k ∧ v = .string s ∧ s.size ≤ 8 * k ∧ Hid (Cur wr w.heap.size g A n c) ∧ Hid (w0.grownBy wr (some g))) (fun _ i _ => m - (intOf i).toNat)
    case atStart => exact ⟨0, ByteArray.empty, by omega, rfl, rfl, by decide, H2, G2⟩
    case round =>
      obtain ⟨k, s, hk, rfl, rfl, hs, hc, hg⟩ := hrel
      by_cases hlt : k < m
      · by_cases hk0 : 0 < k
        · have hq0 : (0 : Int) < (k : Int) := by omega
          go_wp2_with fail
          refine (spec_l01Below _ _ _ _ _ _ _ hc.out).mono ?_
          rintro e wsa ⟨x, px, rfl, hc1, hg1⟩
          have Hsa := Lib.hid hc1
          have Gsa := Lib.hid (grown_tr hg.out hg1)
          obtain ⟨x_0, x_1⟩ := px.2 (by omega)
          clear px hc1 hg1
          go_wp2_with fail
          refine (spec_l01Below _ _ _ _ _ _ _ Hsa.out).mono ?_
          rintro e wsb ⟨y, px, rfl, hc1, hg1⟩
          have Hsb := Lib.hid hc1
          have Gsb := Lib.hid (grown_tr Gsa.out hg1)
          obtain ⟨y_0, y_1⟩ := px.2 (by omega)
          clear px hc1 hg1
          have hxy : 0 ≤ x * y ∧ x * y ≤ 2 := by
            have hx : x = 0 ∨ x = 1 := by omega
            rcases hx with rfl | rfl <;> omega
          obtain ⟨hxy0, hxy1⟩ := hxy
          have hxw : wrap64 (x * y) = x * y := IntWalk.wrap64_in _ (by omega)
          go_wp2_with fail
          refine (spec_l01LongI _ _ _ (by omega) (by omega) (by omega) (by omega)).mono ?_
          rintro e wsc ⟨b1, hb1, rfl, hb3⟩
          have hbz : b1.size ≤ 3 := by
            have h1 := congrArg List.length hb1
            simp at h1
            omega
          have Hsc := Lib.hid (Hsb.out.next hb3)
          have Gsc := Lib.hid (gG_own Gsb.out (grown_of_below hb3 none) (fun q e => by cases e))
          have hlen : ¬ 9223372036854775807 < s.size + b1.size := by omega
          clear hb1 hb3
          go_wp2
          go_loopw [5, 7] (fun v j wr => ∃ (q : Nat) (s2 : ByteArray), q ≤ 5 ∧ j = .int .i64 q ∧ v = .string s2 ∧ s2.size ≤ 8 * k + 3 + q ∧ Hid (Cur wr w.heap.size g A n c) ∧ Hid (w0.grownBy wr (some g))) (fun _ j _ => 5 - (intOf j).toNat)
          case atStart => exact ⟨0, s ++ b1, by omega, rfl, rfl, by rw [app_size]; omega, Hsc, Gsc⟩
          case round =>
            obtain ⟨q, s2, hq, rfl, rfl, hs2, hc, hg⟩ := hrel
            go_wp2_with fail
            refine (spec_l01Below _ _ _ _ _ _ _ hc.out).mono ?_
            rintro e wa ⟨x, px, rfl, hc1, hg1⟩
            have HA := Lib.hid hc1
            have GA := Lib.hid (grown_tr hg.out hg1)
            obtain ⟨x_0, x_1⟩ := px.2 (by omega)
            clear px hc1 hg1
            by_cases hqx : (q : Int) ≤ x
            · go_wp2_with fail
              refine (spec_l01Below _ _ _ _ _ _ _ HA.out).mono ?_
              rintro e wb ⟨y, py, rfl, hc1, hg1⟩
              have HB := Lib.hid hc1
              have GB := Lib.hid (grown_tr GA.out hg1)
              obtain ⟨y_0, y_1⟩ := py.2 (by omega)
              clear py hc1 hg1
              have hby : ((UInt8.ofNat (33 + y).toNat).toNat : Int) = 33 + y := byte_nat (by omega) (by omega)
              have hconv := one_byteS wb (UInt8.ofNat (33 + y).toNat)
              rw [hby] at hconv
              have hsz : (bstr [UInt8.ofNat (33 + y).toNat]).size = 1 := rfl
              have hlen : ¬ 9223372036854775807 < s2.size + (bstr [UInt8.ofNat (33 + y).toNat]).size := by omega
              clear hby
              go_wp2
              go_roundw
              case rel => exact ⟨q + 1, _, by omega, by go_num, rfl, by rw [app_size]; omega, HB.out.next ((Below.refl _ _).alloc (Nat.le_refl _) _), gG_alloc GB.out _⟩
              case measure => simp [intOf]; omega
            · go_wp2
              go_roundw
              case rel => exact ⟨k + 1, s2, by omega, by go_num, rfl, by omega, HA.out, GA.out⟩
              case measure => simp [intOf]; omega
        · obtain rfl : k = 0 := by omega
          clear hk0
          go_wp2_with fail
          refine (spec_l01Once _ _ _ _ _ _ _ hc.out).mono ?_
          rintro e wo ⟨b, rfl, hc1, hg1⟩
          have Ho := Lib.hid hc1
          have Go := Lib.hid (grown_tr hg.out hg1)
          clear hc1 hg1
          cases b with
          | true =>
            go_wp2_with fail
            refine (spec_l01Below _ _ _ _ _ _ _ Ho.out).mono ?_
            rintro e wsa ⟨x, px, rfl, hc1, hg1⟩
            have Hsa := Lib.hid hc1
            have Gsa := Lib.hid (grown_tr Go.out hg1)
            obtain ⟨x_0, x_1⟩ := px.2 (by omega)
            clear px hc1 hg1
            go_wp2_with fail
            refine (spec_l01Below _ _ _ _ _ _ _ Hsa.out).mono ?_
            rintro e wsb ⟨y, px, rfl, hc1, hg1⟩
            have Hsb := Lib.hid hc1
            have Gsb := Lib.hid (grown_tr Gsa.out hg1)
            obtain ⟨y_0, y_1⟩ := px.2 (by omega)
            clear px hc1 hg1
            have hxy : 0 ≤ x * y ∧ x * y ≤ 2 := by
              have hx : x = 0 ∨ x = 1 := by omega
              rcases hx with rfl | rfl <;> omega
            obtain ⟨hxy0, hxy1⟩ := hxy
            have hxw : wrap64 (x * y) = x * y := IntWalk.wrap64_in _ (by omega)
            go_wp2_with fail
            refine (spec_l01LongI _ _ _ (by omega) (by omega) (by omega) (by omega)).mono ?_
            rintro e wsc ⟨b1, hb1, rfl, hb3⟩
            have hbz : b1.size ≤ 3 := by
              have h1 := congrArg List.length hb1
              simp at h1
              omega
            have Hsc := Lib.hid (Hsb.out.next hb3)
            have Gsc := Lib.hid (gG_own Gsb.out (grown_of_below hb3 none) (fun q e => by cases e))
            have hlen : ¬ 9223372036854775807 < s.size + b1.size := by omega
            clear hb1 hb3
            go_wp2
            go_loopw [5, 7] (fun v j wr => ∃ (q : Nat) (s2 : ByteArray), q ≤ 5 ∧ j = .int .i64 q ∧ v = .string s2 ∧ s2.size ≤ 8 * 0 + 3 + q ∧ Hid (Cur wr w.heap.size g A n c) ∧ Hid (w0.grownBy wr (some g))) (fun _ j _ => 5 - (intOf j).toNat)
            case atStart => exact ⟨0, s ++ b1, by omega, rfl, rfl, by rw [app_size]; omega, Hsc, Gsc⟩
            case round =>
              obtain ⟨q, s2, hq, rfl, rfl, hs2, hc, hg⟩ := hrel
              go_wp2_with fail
              refine (spec_l01Below _ _ _ _ _ _ _ hc.out).mono ?_
              rintro e wa ⟨x, px, rfl, hc1, hg1⟩
              have HA := Lib.hid hc1
              have GA := Lib.hid (grown_tr hg.out hg1)
              obtain ⟨x_0, x_1⟩ := px.2 (by omega)
              clear px hc1 hg1
              by_cases hqx : (q : Int) ≤ x
              · go_wp2_with fail
                refine (spec_l01Below _ _ _ _ _ _ _ HA.out).mono ?_
                rintro e wb ⟨y, py, rfl, hc1, hg1⟩
                have HB := Lib.hid hc1
                have GB := Lib.hid (grown_tr GA.out hg1)
                obtain ⟨y_0, y_1⟩ := py.2 (by omega)
                clear py hc1 hg1
                have hby : ((UInt8.ofNat (33 + y).toNat).toNat : Int) = 33 + y := byte_nat (by omega) (by omega)
                have hconv := one_byteS wb (UInt8.ofNat (33 + y).toNat)
                rw [hby] at hconv
                have hsz : (bstr [UInt8.ofNat (33 + y).toNat]).size = 1 := rfl
                have hlen : ¬ 9223372036854775807 < s2.size + (bstr [UInt8.ofNat (33 + y).toNat]).size := by omega
                clear hby
                go_wp2
                go_roundw
                case rel => exact ⟨q + 1, _, by omega, by go_num, rfl, by rw [app_size]; omega, HB.out.next ((Below.refl _ _).alloc (Nat.le_refl _) _), gG_alloc GB.out _⟩
                case measure => simp [intOf]; omega
              · go_wp2
                go_roundw
                case rel => exact ⟨0 + 1, s2, by omega, by go_num, rfl, by omega, HA.out, GA.out⟩
                case measure => simp [intOf]; omega
          | false =>
            go_wp2
            go_loopw [5, 7] (fun v j wr => ∃ (q : Nat) (s2 : ByteArray), q ≤ 5 ∧ j = .int .i64 q ∧ v = .string s2 ∧ s2.size ≤ 8 * 0 + 3 + q ∧ Hid (Cur wr w.heap.size g A n c) ∧ Hid (w0.grownBy wr (some g))) (fun _ j _ => 5 - (intOf j).toNat)
            case atStart => exact ⟨0, s, by omega, rfl, rfl, by omega, Ho, Go⟩
            case round =>
              obtain ⟨q, s2, hq, rfl, rfl, hs2, hc, hg⟩ := hrel
              go_wp2_with fail
              refine (spec_l01Below _ _ _ _ _ _ _ hc.out).mono ?_
              rintro e wa ⟨x, px, rfl, hc1, hg1⟩
              have HA := Lib.hid hc1
              have GA := Lib.hid (grown_tr hg.out hg1)
              obtain ⟨x_0, x_1⟩ := px.2 (by omega)
              clear px hc1 hg1
              by_cases hqx : (q : Int) ≤ x
              · go_wp2_with fail
                refine (spec_l01Below _ _ _ _ _ _ _ HA.out).mono ?_
                rintro e wb ⟨y, py, rfl, hc1, hg1⟩
                have HB := Lib.hid hc1
                have GB := Lib.hid (grown_tr GA.out hg1)
                obtain ⟨y_0, y_1⟩ := py.2 (by omega)
                clear py hc1 hg1
                have hby : ((UInt8.ofNat (33 + y).toNat).toNat : Int) = 33 + y := byte_nat (by omega) (by omega)
                have hconv := one_byteS wb (UInt8.ofNat (33 + y).toNat)
                rw [hby] at hconv
                have hsz : (bstr [UInt8.ofNat (33 + y).toNat]).size = 1 := rfl
                have hlen : ¬ 9223372036854775807 < s2.size + (bstr [UInt8.ofNat (33 + y).toNat]).size := by omega
                clear hby
                go_wp2
                go_roundw
                case rel => exact ⟨q + 1, _, by omega, by go_num, rfl, by rw [app_size]; omega, HB.out.next ((Below.refl _ _).alloc (Nat.le_refl _) _), gG_alloc GB.out _⟩
                case measure => simp [intOf]; omega
              · go_wp2
                go_roundw
                case rel => exact ⟨0 + 1, s2, by omega, by go_num, rfl, by omega, HA.out, GA.out⟩
                case measure => simp [intOf]; omega
      · obtain rfl : k = m := by omega
        go_wp2_with fail
        refine (spec_l01Below _ _ _ _ _ _ _ hc.out).mono ?_
        rintro e wz ⟨z, px, rfl, hc1, hg1⟩
        have Hz := Lib.hid hc1
        have Gz := Lib.hid (grown_tr hg.out hg1)
        obtain ⟨z_0, z_1⟩ := px.2 (by omega)
        clear px hc1 hg1
        by_cases hz0 : z = 0
        · subst hz0
          go_wp2_with fail
          have hgw := Hz.out.2.1
          refine (spec_l01Pick w.heap.size g A n c wz.heap.size 0 6 6 _ (Hz.out.next ((Below.refl _ _).alloc (Nat.le_refl _) _)) (by omega) (by simp) (by omega) (by omega) (str_cells wz [⟨#[32]⟩, ⟨#[32, 32]⟩, ⟨#[9]⟩, ⟨#[10]⟩, ⟨#[127]⟩, ⟨#[233]⟩] _ 6 rfl)).mono ?_
          rintro e wy ⟨y, ⟨k1, hk1, hy1⟩, rfl, hc2, hg2⟩
          have hyz : y.size ≤ 2 := str_bound wz [⟨#[32]⟩, ⟨#[32, 32]⟩, ⟨#[9]⟩, ⟨#[10]⟩, ⟨#[127]⟩, ⟨#[233]⟩] _ y (k := k1) hy1 (by decide)
          have Gy := Lib.hid (grown_tr (gG_alloc Gz.out _) hg2)
          have hlen : ¬ 9223372036854775807 < s.size + y.size := by omega
          clear hy1 hc2 hg2
          go_wp2
          go_ret
          exact ⟨_, by rw [app_size]; omega, rfl, HK.out _ Gy.out⟩
        · by_cases hz1 : z = 1
          · subst hz1
            have q0 : ((1 : Int) == 0) = false := by decide
            have hsl' : (s.size : Int) < 600 := by omega
            go_wp2_with fail
            refine (spec_l01Below _ _ _ _ _ _ _ Hz.out).mono ?_
            rintro e wy ⟨y, px, rfl, hc1, hg1⟩
            have Hy := Lib.hid hc1
            have Gy := Lib.hid (grown_tr Gz.out hg1)
            obtain ⟨y_0, y_1⟩ := px.2 (by omega)
            clear px hc1 hg1
            go_wp2_with fail
            refine (spec_l01LongI _ _ _ (by omega) (by omega) (by omega) (by omega)).mono ?_
            rintro e wu ⟨b1, hb1, rfl, hb3⟩
            have hbz : b1.size ≤ 601 := by
              have h1 := congrArg List.length hb1
              simp at h1
              omega
            have Gu := Lib.hid (gG_own Gy.out (grown_of_below hb3 none) (fun q e => by cases e))
            have hlen : ¬ 9223372036854775807 < s.size + b1.size := by omega
            clear hb1 hb3
            go_wp2
            go_ret
            exact ⟨_, by rw [app_size]; omega, rfl, HK.out _ Gu.out⟩
          · have q0 : (z == 0) = false := by simpa using hz0
            have q1 : (z == 1) = false := by simpa using hz1
            go_wp2
            go_ret
            exact ⟨_, by omega, rfl, HK.out _ Gz.out⟩

set_option maxRecDepth 100000 in
set_option maxHeartbeats 2000000 in
theorem walk_FnFieldsAgain (A : Option Addr) (n c : Nat) (w : World) (h : ArgB w A n) (ht : Pow w) :
    Calls Tryd.prog 7 #[.slice A n c] w fun e w' => e = .returned (.bool true) ∧ Below w.heap.size w w' := by
  have HA := Lib.hid h
  have HT := Lib.hid ht
  clear h ht
  by_cases hn : 1048576 < n
  · have E1 := Lib.hid (show decide (1048576 < n) = true by simpa using hn)
    go_enter Tryd.func7, Tryd.ntmps7
    go_wp2_with fail
    refine (laws_big _ _ _ _ HA.out.1).mono ?_
    rintro e w' ⟨rfl, rfl⟩
    rw [E1.out]
    go_wp2
    go_ret
    exact ⟨rfl, Below.refl _ _⟩
  · have E1 := Lib.hid (show decide (1048576 < n) = false by simpa using hn)
    go_enter Tryd.func7, Tryd.ntmps7
    go_wp2_with fail
    refine (laws_big _ _ _ _ HA.out.1).mono ?_
    rintro e w' ⟨rfl, rfl⟩
    rw [E1.out]
    go_wp2_with fail
    refine (spec_DrawSplitFields _ _ _ _ (HA.out.2 (by omega))).mono ?_
    rintro e w1 ⟨s, hs, rfl, hb1⟩
    have HB1 := Lib.hid hb1
    clear hb1
    go_wp2_with fail
    refine (impl_SplitFields s _ (by unfold maxLen; omega)).mono ?_
    rintro e w2 ⟨A1, n1, c1, rfl, ho1, hb2⟩
    have HO := Lib.hid ho1
    have HB2 := Lib.hid (HB1.out.trans (hb2.mono HB1.out.size))
    clear ho1 hb2
    go_wp2_with fail
    refine (spec_SplitFields s _ (by unfold maxLen; omega)).mono ?_
    rintro e w3 ⟨A2, n2, c2, rfl, ho2, hb3⟩
    have HO3 := Lib.hid (HO.out.next hb3)
    have HB3 := Lib.hid (HB2.out.trans (hb3.mono HB2.out.size))
    clear ho2 hb3
    by_cases hf : sfOk s
    · rw [sfB_t hf]
      have HL := Lib.hid (sfL_t hf)
      have HN := Lib.hid HO.out.len
      have hn24 : n1 ≤ 24 := by
        have h1 := HN.out
        rw [HL.out, subs_len] at h1
        have := hf.2.2
        omega
      have HF := Lib.hid hf
      have HZ := Lib.hid (show ∀ f ∈ sfL s, f.size ≤ 600 by
        rw [HL.out]
        intro f hff
        unfold subs at hff
        rw [List.mem_map] at hff
        obtain ⟨p, _, rfl⟩ := hff
        have := HF.out.1
        rw [ByteArray.size_extract]
        omega)
      clear hf
      have e0 : ((0 : Nat) : Int) = 0 := rfl
      go_wp2
      go_loopw [8, 9] (fun v i wr => ∃ (k : Nat) (u : ByteArray), k ≤ n1 ∧ i = .int .i64 k ∧ v = .string u ∧ u.size ≤ 601 * k ∧ Hid (u = joinZ ((sfL s).take k)) ∧ Hid (wr = w3)) (fun _ i _ => n1 - (intOf i).toNat)
      case atStart => exact ⟨0, ByteArray.empty, by omega, rfl, rfl, by decide, rfl, rfl⟩
      case round =>
        obtain ⟨k, u, hk, rfl, rfl, hu, hj, hw⟩ := hrel
        obtain rfl := hw.out
        by_cases hlt : k < n1
        · obtain ⟨gp, off, rfl, hcell⟩ := RdZ.at1 (HO3.out.rd zlen) hlt
          have hkl : k < (sfL s).length := by rw [HN.out]; exact hlt
          have hz : (zith (sfL s) k).size ≤ 600 := HZ.out _ (by rw [zith_get hkl]; exact List.getElem_mem _)
          have HJ := Lib.hid (show u ++ zith (sfL s) k ++ blank = joinZ ((sfL s).take (k + 1)) by rw [List.take_succ_eq_append_getElem hkl, joinZ_snoc, ← hj.out, zith_get hkl])
          clear hkl
          have hlen1 : ¬ 9223372036854775807 < u.size + (zith (sfL s) k).size := by omega
          have hlen2 : ¬ 9223372036854775807 < (u ++ zith (sfL s) k).size + (⟨#[32]⟩ : ByteArray).size := by
            rw [app_size]; show ¬ _ < _ + 1; omega
          go_wp2
          go_roundw
          case rel => exact ⟨k + 1, _, by omega, by go_num, rfl, by rw [app_size, app_size]; show _ + 1 ≤ _; omega, HJ.out, by first | trivial | exact rfl⟩
          case measure => simp [intOf]; omega
        · obtain rfl : k = n1 := by omega
          have HJ := Lib.hid (show u = joinZ (subs s (ff s)) by rw [hj.out, ← HN.out, List.take_length, HL.out])
          go_wp2_with fail
          refine (impl_SplitFields u _ (by unfold maxLen; omega)).mono ?_
          rintro e w4 ⟨A4, n4, c4, rfl, ho4, hb4⟩
          have HO4 := Lib.hid ho4
          have HB4 := Lib.hid (HB3.out.trans (hb4.mono HB3.out.size))
          have HOn := Lib.hid (HO3.out.next hb4)
          clear ho4 hb4
          by_cases hbig : 600 < u.size
          · have d1 : (600 : Int) < (u.size : Int) := by omega
            go_wp2
            go_ret
            exact ⟨rfl, HB4.out⟩
          · have d1 : ¬ (600 : Int) < (u.size : Int) := by omega
            have HX := Lib.hid (again HF.out (by rw [← HJ.out]; omega))
            have hsu : sfOk u := by rw [HJ.out]; exact HX.out.1
            have HE := Lib.hid (show sfL u = sfL s by rw [sfL_t hsu, HL.out, HJ.out]; exact HX.out.2)
            rw [sfB_t hsu]
            clear hsu
            have HO5 := Lib.hid (show OwnZ w4 wr.heap.size A4 n4 c4 (sfL s) by rw [← HE.out]; exact HO4.out)
            go_wp2_with fail
            refine (laws_sameTexts _ _ _ _ _ _ _ _ (HOn.out.rd zlen) (HO5.out.rd zlen)).mono ?_
            rintro e w5 ⟨rfl, hb5⟩
            have HB5 := Lib.hid (HB4.out.trans (hb5.mono HB4.out.size))
            clear hb5
            go_wp2
            go_ret
            exact ⟨rfl, HB5.out⟩
    · rw [sfB_f hf]
      have hl := HO.out.len
      rw [sfL_f hf] at hl
      obtain rfl : n1 = 0 := by simpa using hl.symm
      clear hl hf
      go_wp2_with fail
      refine (impl_FormatInt _ _ (Lib.hid (show I64r (-3) from ⟨by omega, by omega⟩)) (Lib.hid (HT.out.next HB3.out))).mono ?_
      rintro e w4 ⟨rfl, hb4⟩
      rw [itoa_neg3]
      have HB4 := Lib.hid (HB3.out.trans (hb4.mono HB3.out.size))
      clear hb4
      go_wp2
      go_ret
      exact ⟨rfl, HB4.out⟩
end Go.Proofs.YteoddpdjhkbaiaaDoor
