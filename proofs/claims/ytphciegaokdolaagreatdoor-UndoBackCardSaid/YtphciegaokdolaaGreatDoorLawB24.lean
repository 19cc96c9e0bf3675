
/- The statement UndoBack. -/
import Derived.Test.YtphciegaokdolaaGreatDoorLawA24
import Derived.Test.YtphciegaokdolaaGreatDoorRef24
import Derived.Test.YtphciegaokdolaaGreatDoorFew24
namespace Go.Proofs.YtphciegaokdolaaGreatDoor
set_option linter.unusedSimpArgs false
set_option linter.unusedVariables false
open Go Go.RowKit
set_option maxRecDepth 100000
set_option linter.unusedSectionVars false
set_option maxHeartbeats 2000000
theorem sxLawB240 {p q : Prop} (hq : q) (h : p = q := by first | (simp (maxDischargeDepth := 3) only [↓X, ↓Y, ↓Q, S1, ↓reduceIte, Nat.reduceEqDiff, Nat.reduceAdd, Int.reduceLT, Int.reduceLE, Int.reduceNeg, Int.reduceBEq, Int.reduceBNe, Int.reduceEq, Nat.reduceLeDiff, Nat.reduceMul, Nat.reduceLT, *, siteC]; try exact rfl) | (simp (singlePass := true) (maxDischargeDepth := 99) only [*, S2, Nat.reduceLT, siteC]; try exact rfl)) : p := h ▸ hq
section
variable {w : World} {B : Nat} {u : SiteVs} {sd : SiteD} {wv sv av hv rv : Value} {vs : List Value} {l : List SrvV} {p : PlanD} {y : WorldD}
theorem lawUndoBack {x : Int} (hT : TabW w) (hB : B ≤ w.heap.size) (hs : SiteR w B u sd) (hl : WishR w B wv l) (hx0 : WorldR w B hv rv y) (hpl : PlanR w B sv av vs p) :
  Ret Tryz.prog 3 #[.agg (siteC u sd).toArray, .agg #[wv], .agg #[hv, rv], .agg #[sv, av], intV x] w (.bool true) := by
 have hn : Now w := trivial
 have hx : Ext w w := Ext.refl w
 have hs' := hs.sk hB
 have hl' := hl.sk hB
 have hp' := hpl.sk hB
 have hx' := hx0.sk hB
 have hS := hs'.2.2.2.2.2.2
 have hW := hl'.2.2
 have hP := hp'.2.2.2.2.2.2
 have hX := hx'.2.2.2.2
 have hbw : Bl B w w := Bl.refl hB
 have hsv1 := hpl.s.one
 have hav1 := hp'.2.2.2.2.1
 have hh1 := hx0.h.one
 have hr1 := hx0.r.one
 have hT' := fun w' (h : Ext w w') => hT.ext h
 have hb1 := fun w' (h1 : Ext w w') (h2 : Bl B w w') (h3 : B ≤ w'.heap.size) => undoBack (x := x) (hT' w' h1) h3 (hS w' h2) (hW w' h2) (hP w' h2) (hX w' h2) rfl
 have hb2 := fun w' (h2 : Bl B w w') (h3 : B ≤ w'.heap.size) => ref24Back (x := x) h3 (hS w' h2) (hW w' h2) (hP w' h2) (hX w' h2) rfl
 generalize backL (planErr sd (l.map (·.x)) p) sd (l.map (·.x)) p y x = BL at hb1 hb2
 generalize lastL (planErr sd (l.map (·.x)) p) sd (l.map (·.x)) p y x = LL at hb1 hb2
 generalize wldE (planErr sd (l.map (·.x)) p) sd (l.map (·.x)) p y x = E at hb1 hb2
 replace hb1 : Hid _ := hb1
 replace hb2 : Hid _ := hb2
 clear hpl hx0 hp' hx' hs' hl'
 (refine callsV_of Tryz.func3 rfl KR KR ?_; rw [Tryz.results3])
 (repeat' first
  | with_reducible first | exact ⟨⟩ | (refine Brg.mk ?_; intros) | refine Two.mk ?_ ?_
  | refine gs ?_
  | ((with_reducible refine at_f 8 ?_); refine retb_k (law24few (B := B) FR (hS _ FR) (hW _ FR) (hX _ FR) (hP _ FR)) fun _ _ _ _ => ?_)
  | ((with_reducible refine at_f 9 ?_); refine ret_k (law24live (hT' _ FR)) fun _ _ _ => ?_)
  | refine sxLawB240 ?_)
 refine call_k (hb1.out _ FR FR FR) ?_
 rintro _ w1 n1 s1 ⟨bv, lv, rfl, obv, olv⟩
 have obv1 := obv.one
 have olv1 := olv.one
 have h1b : Hid (∀ w', Bl w1.heap.size w1 w' → Sl w' w1.heap.size (some 4) 4 bv (BL.map stepV)) := fun w' h => (obv.slN (f := stepC)).bl h
 have h1l : Hid (∀ w', Bl w1.heap.size w1 w' → Sl w' w1.heap.size none 1 lv (LL.map intV)) := fun w' h => (olv.sl1 (f := intV)).bl h
 have e1 : Bl w1.heap.size w1 w1 := Bl.refl (Nat.le_refl _)
 clear obv olv
 (repeat' first
  | with_reducible first | exact ⟨⟩ | (refine Brg.mk ?_; intros) | refine Two.mk ?_ ?_
  | refine gs ?_
  | refine sxLawB240 ?_)
 refine call_k (hb2.out _ FR FR) ?_
 rintro _ w2 n2 s2 ⟨bv2, lv2, rfl, obv, olv⟩
 have obv2 := obv.one
 have olv2 := olv.one
 have h2b : Hid (∀ w', Bl w2.heap.size w2 w' → Sl w' w2.heap.size (some 4) 4 bv2 (BL.map stepV)) := fun w' h => (obv.slN (f := stepC)).bl h
 have h2l : Hid (∀ w', Bl w2.heap.size w2 w' → Sl w' w2.heap.size none 1 lv2 (LL.map intV)) := fun w' h => (olv.sl1 (f := intV)).bl h
 have e2 : Bl w2.heap.size w2 w2 := Bl.refl (Nat.le_refl _)
 clear obv olv
 (repeat' first
  | with_reducible first | exact ⟨⟩ | (refine Brg.mk ?_; intros) | refine Two.mk ?_ ?_
  | refine gs ?_
  | refine sx ?_)
 refine ret_k (ref19Same24 (B := w1.heap.size) (B' := w2.heap.size) (a := BL) (b := BL) FR FR (h1b.out _ FR) (h2b.out _ FR)) fun w3 n3 s3 => ?_
 rw [decide_eq_true rfl]
 (repeat' first
  | with_reducible first | exact ⟨⟩ | (refine Brg.mk ?_; intros) | refine Two.mk ?_ ?_
  | refine gs ?_
  | refine sx ?_)
 refine ret_k (ref12Ints (B := w1.heap.size) (B' := w2.heap.size) (a := LL) (b := LL) FR FR (h1l.out _ FR) (h2l.out _ FR)) fun w4 n4 s4 => ?_
 rw [decide_eq_true rfl]
 (repeat' first
  | with_reducible first | exact ⟨⟩ | (refine Brg.mk ?_; intros) | refine Two.mk ?_ ?_
  | refine gs ?_
  | ((with_reducible refine at_f 9 ?_); refine ret_k (law24live (hT' _ FR)) fun _ _ _ => ?_)
  | refine sx ?_)
end
end Go.Proofs.YtphciegaokdolaaGreatDoor
