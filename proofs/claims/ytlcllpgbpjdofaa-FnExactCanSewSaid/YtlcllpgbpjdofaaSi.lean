/- Two results that lie in boxes of their own: the states of the drawn region that makes them. No condition. -/
import Derived.Test.YtlcllpgbpjdofaaLb
import Derived.Test.YtlcllpgbpjdofaaSd
import Derived.Test.YtlcllpgbpjdofaaOi
set_option linter.unusedSimpArgs false
set_option linter.unusedVariables false
set_option maxRecDepth 100000
namespace Go.Proofs.Ytlcllpgbpjdofaa
open Go.RowKit

/-- C: the call has come back; A, B: the boxes are there; S, T: the results lie in them -/
structure Mid (w0 w : World) (C A B S T : Bool) (P7 P8 : Nat) (A1 : Option Addr) (n1 c1 : Nat) (A2 : Option Addr) (n2 c2 : Nat) (z1 y1 z2 y2 : Int) (l1 l2 : List Pt) : Prop where
  be : Below w0.heap.size w0 w
  row1 : C = true → OwnP w w0.heap.size A1 n1 c1 l1
  row2 : C = true → OwnP w w0.heap.size A2 n2 c2 l2
  ap : C = true → Ap (.slice A1 n1 c1) (.slice A2 n2 c2)
  at1 : A = true → w0.heap.size ≤ P7
  at2 : B = true → w0.heap.size ≤ P8
  box1 : A = true → S = false → Box3 w P7 0 0 none 0 0
  full1 : A = true → S = true → Box3 w P7 z1 y1 A1 n1 c1
  box2 : B = true → T = false → Box3 w P8 0 0 none 0 0
  full2 : B = true → T = true → Box3 w P8 z2 y2 A2 n2 c2
  ne : A = true → B = true → P7 ≠ P8
  r11 : C = true → A = true → ∀ k, (Value.slice A1 n1 c1).ownBlock = some k → k ≠ P7
  r21 : C = true → A = true → ∀ k, (Value.slice A2 n2 c2).ownBlock = some k → k ≠ P7
  r12 : C = true → B = true → ∀ k, (Value.slice A1 n1 c1).ownBlock = some k → k ≠ P8
  r22 : C = true → B = true → ∀ k, (Value.slice A2 n2 c2).ownBlock = some k → k ≠ P8
section
variable {w0 w w' : World} {C A B S T : Bool} {P7 P8 : Nat} {A1 A2 A1' A2' : Option Addr} {n1 c1 n2 c2 n1' c1' n2' c2' : Nat} {z1 y1 z2 y2 : Int} {l1 l2 : List Pt}
theorem Mid.lt1 (M : Mid w0 w C A B S T P7 P8 A1 n1 c1 A2 n2 c2 z1 y1 z2 y2 l1 l2) (h : A = true) : P7 < w.heap.size := by
  cases S with
  | true => exact (M.full1 h rfl).lt
  | false => exact (M.box1 h rfl).lt
theorem Mid.lt2 (M : Mid w0 w C A B S T P7 P8 A1 n1 c1 A2 n2 c2 z1 y1 z2 y2 l1 l2) (h : B = true) : P8 < w.heap.size := by
  cases T with
  | true => exact (M.full2 h rfl).lt
  | false => exact (M.box2 h rfl).lt
theorem Mid.cast {C' A' B' S' T' : Bool} (M : Mid w0 w C A B S T P7 P8 A1 n1 c1 A2 n2 c2 z1 y1 z2 y2 l1 l2) (hC : C = C') (hA : A = A') (hB : B = B') (hS : S = S') (hT : T = T') : Mid w0 w C' A' B' S' T' P7 P8 A1 n1 c1 A2 n2 c2 z1 y1 z2 y2 l1 l2 := by
  subst hC; subst hA; subst hB; subst hS; subst hT; exact M
theorem Mid.start (w0 : World) : Mid w0 w0.drew false false false false false P7 P8 A1 n1 c1 A2 n2 c2 z1 y1 z2 y2 l1 l2 :=
  ⟨(Below.refl _ _).drew, nofun, nofun, nofun, nofun, nofun, nofun, nofun, nofun, nofun, nofun, nofun, nofun, nofun, nofun⟩
theorem Mid.read (M : Mid w0 w C A B S T P7 P8 A1 n1 c1 A2 n2 c2 z1 y1 z2 y2 l1 l2) (hb : Below w.heap.size w w') : Mid w0 w' C A B S T P7 P8 A1 n1 c1 A2 n2 c2 z1 y1 z2 y2 l1 l2 :=
  ⟨M.be.trans (hb.mono M.be.size), fun h => (M.row1 h).next hb, fun h => (M.row2 h).next hb, M.ap, M.at1, M.at2, fun h k => (M.box1 h k).next hb, fun h k => (M.full1 h k).next hb, fun h k => (M.box2 h k).next hb, fun h k => (M.full2 h k).next hb, M.ne, M.r11, M.r21, M.r12, M.r22⟩
theorem Mid.call (M : Mid w0 w false A B false false P7 P8 A1 n1 c1 A2 n2 c2 z1 y1 z2 y2 l1 l2) (hb : Below w.heap.size w w') (o1 : OwnP w' w.heap.size A1' n1' c1' l1) (o2 : OwnP w' w.heap.size A2' n2' c2' l2) (ap : Ap (.slice A1' n1' c1') (.slice A2' n2' c2')) :
    Mid w0 w' true A B false false P7 P8 A1' n1' c1' A2' n2' c2' z1 y1 z2 y2 l1 l2 := by
  have hs := M.be.size
  refine ⟨M.be.trans (hb.mono hs), fun _ => o1.base hs, fun _ => o2.base hs, fun _ => ap, M.at1, M.at2, fun h k => (M.box1 h k).next hb, (fun h k => by cases k), fun h k => (M.box2 h k).next hb, (fun h k => by cases k), M.ne, ?_, ?_, ?_, ?_⟩
  · intro _ h k hk; have := M.lt1 h; have := (o1.lt k hk).1; omega
  · intro _ h k hk; have := M.lt1 h; have := (o2.lt k hk).1; omega
  · intro _ h k hk; have := M.lt2 h; have := (o1.lt k hk).1; omega
  · intro _ h k hk; have := M.lt2 h; have := (o2.lt k hk).1; omega
theorem Mid.alloc1 (M : Mid w0 w C false B false T P7 P8 A1 n1 c1 A2 n2 c2 z1 y1 z2 y2 l1 l2) (ty : TypeId) :
    Mid w0 (w.alloc (.cells #[.int .i64 0, .int .i64 0, .slice none 0 0] ty)) C true B false T w.heap.size P8 A1 n1 c1 A2 n2 c2 z1 y1 z2 y2 l1 l2 := by
  have hb := (Below.refl w.heap.size w).alloc (Nat.le_refl _) (.cells #[.int .i64 0, .int .i64 0, .slice none 0 0] ty)
  have M' := M.read hb
  refine ⟨M'.be, M'.row1, M'.row2, M.ap, fun _ => M.be.size, M.at2, fun _ _ => Box3.mk_ w 0 0 none 0 0 ty, (fun h k => by cases k), M'.box2, M'.full2, ?_, ?_, ?_, M.r12, M.r22⟩
  · intro _ h; have := M.lt2 h; omega
  · intro h _ k hk; have := ((M.row1 h).lt k hk).2; omega
  · intro h _ k hk; have := ((M.row2 h).lt k hk).2; omega
theorem Mid.alloc2 (M : Mid w0 w C A false S false P7 P8 A1 n1 c1 A2 n2 c2 z1 y1 z2 y2 l1 l2) (ty : TypeId) :
    Mid w0 (w.alloc (.cells #[.int .i64 0, .int .i64 0, .slice none 0 0] ty)) C A true S false P7 w.heap.size A1 n1 c1 A2 n2 c2 z1 y1 z2 y2 l1 l2 := by
  have hb := (Below.refl w.heap.size w).alloc (Nat.le_refl _) (.cells #[.int .i64 0, .int .i64 0, .slice none 0 0] ty)
  have M' := M.read hb
  refine ⟨M'.be, M'.row1, M'.row2, M.ap, M.at1, fun _ => M.be.size, M'.box1, M'.full1, fun _ _ => Box3.mk_ w 0 0 none 0 0 ty, (fun h k => by cases k), ?_, M.r11, M.r21, ?_, ?_⟩
  · intro h _; have := M.lt1 h; omega
  · intro h _ k hk; have := ((M.row1 h).lt k hk).2; omega
  · intro h _ k hk; have := ((M.row2 h).lt k hk).2; omega
theorem gG_set3 (w : World) (P : Nat) (u v x : Value) : w.grownBy (((w.setCell ⟨P, 0, none⟩ u).setCell ⟨P, 1, none⟩ v).setCell ⟨P, 2, none⟩ x) (some P) :=
  grown_tr (grown_tr (gG_set (gG_refl w (some P)) 0 u) (gG_set (gG_refl _ (some P)) 1 v)) (gG_set (gG_refl _ (some P)) 2 x)
theorem below_set3 {N P : Nat} (h : N ≤ P) (w : World) (u v x : Value) : Below N w (((w.setCell ⟨P, 0, none⟩ u).setCell ⟨P, 1, none⟩ v).setCell ⟨P, 2, none⟩ x) :=
  (((Below.refl N w).setCell h _).setCell h _).setCell h _
theorem Mid.store1 (M : Mid w0 w true true true false false P7 P8 A1 n1 c1 A2 n2 c2 z1 y1 z2 y2 l1 l2) :
    Mid w0 (((w.setCell ⟨P7, 0, none⟩ (.int .i64 z1)).setCell ⟨P7, 1, none⟩ (.int .i64 y1)).setCell ⟨P7, 2, none⟩ (.slice A1 n1 c1)) true true true true false P7 P8 A1 n1 c1 A2 n2 c2 z1 y1 z2 y2 l1 l2 := by
  have hg := gG_set3 w P7 (.int .i64 z1) (.int .i64 y1) (.slice A1 n1 c1)
  have h7 := M.at1 rfl
  have hn := M.ne rfl rfl
  refine ⟨M.be.trans (below_set3 h7 w _ _ _), fun _ => (M.row1 rfl).keep hg (fun q hq e => ?_), fun _ => (M.row2 rfl).keep hg (fun q hq e => ?_), M.ap, M.at1, M.at2, (fun h k => by cases k), fun _ _ => (M.box1 rfl rfl).all_ _ _ _ _ _, fun _ _ => (M.box2 rfl rfl).grown hg (fun e => ?_), (fun h k => by cases k), M.ne, M.r11, M.r21, M.r12, M.r22⟩
  · have := M.r11 rfl rfl q hq; cases e; omega
  · have := M.r21 rfl rfl q hq; cases e; omega
  · cases e; omega
theorem Mid.store2 (M : Mid w0 w true true true true false P7 P8 A1 n1 c1 A2 n2 c2 z1 y1 z2 y2 l1 l2) :
    Mid w0 (((w.setCell ⟨P8, 0, none⟩ (.int .i64 z2)).setCell ⟨P8, 1, none⟩ (.int .i64 y2)).setCell ⟨P8, 2, none⟩ (.slice A2 n2 c2)) true true true true true P7 P8 A1 n1 c1 A2 n2 c2 z1 y1 z2 y2 l1 l2 := by
  have hg := gG_set3 w P8 (.int .i64 z2) (.int .i64 y2) (.slice A2 n2 c2)
  have h8 := M.at2 rfl
  have hn := M.ne rfl rfl
  refine ⟨M.be.trans (below_set3 h8 w _ _ _), fun _ => (M.row1 rfl).keep hg (fun q hq e => ?_), fun _ => (M.row2 rfl).keep hg (fun q hq e => ?_), M.ap, M.at1, M.at2, (fun h k => by cases k), fun _ _ => (M.full1 rfl rfl).grown hg (fun e => ?_), (fun h k => by cases k), fun _ _ => (M.box2 rfl rfl).all_ _ _ _ _ _, M.ne, M.r11, M.r21, M.r12, M.r22⟩
  · have := M.r12 rfl rfl q hq; cases e; omega
  · have := M.r22 rfl rfl q hq; cases e; omega
  · cases e; omega
end
end Go.Proofs.Ytlcllpgbpjdofaa
