
/- The statement UndoWorlds. -/
import Derived.Test.YtphciegaokdolaaGreatDoorLawA24
import Derived.Test.YtphciegaokdolaaGreatDoorRefW24
import Derived.Test.YtphciegaokdolaaGreatDoorFew24
namespace Go.Proofs.YtphciegaokdolaaGreatDoor
set_option linter.unusedSimpArgs false
set_option linter.unusedVariables false
open Go Go.RowKit
set_option maxRecDepth 100000
set_option linter.unusedSectionVars false
set_option maxHeartbeats 2000000
theorem sxLawW241 {p q : Prop} (hq : q) (h : p = q := by first | (simp (maxDischargeDepth := 3) only [↓X, ↓Y, ↓Q, S1, ↓reduceIte, Nat.reduceEqDiff, Nat.reduceAdd, Int.reduceLT, Int.reduceLE, Int.reduceNeg, Int.reduceBEq, Int.reduceBNe, Int.reduceEq, Nat.reduceLeDiff, Nat.reduceMul, Nat.reduceLT, *, siteC]; try exact rfl) | (simp (singlePass := true) (maxDischargeDepth := 99) only [*, S2, Nat.reduceLT, siteC]; try exact rfl)) : p := h ▸ hq
/-- A slice that reads as worlds. -/
def SlWL (w : World) (B : Nat) (v : Value) (ws : List WorldD) : Prop := ∃ us : List (Value × Value), us.length = ws.length ∧ Sl w B (some 2) 2 v (us.map fun u => .agg (wC u).toArray) ∧ ∀ i (h : i < us.length), WorldR w B us[i].1 us[i].2 (ws.getD i noW)
theorem OwnWL.sl24 {w : World} {B : Nat} {v : Value} {ws : List WorldD} (h : OwnWL w B v ws) : SlWL w w.heap.size v ws := by
 obtain ⟨us, h1, h2, h3⟩ := h
 exact ⟨us, h1, h2.slN (f := wC), fun i hi => ⟨(h3 i hi).1.slN (f := stateC), (h3 i hi).2.slN (f := replC)⟩⟩
theorem SlWL.bl24 {w w' : World} {B : Nat} {v : Value} {ws : List WorldD} (h : SlWL w B v ws) (hb : Bl B w w') : SlWL w' B v ws := by
 obtain ⟨us, h1, h2, h3⟩ := h
 exact ⟨us, h1, h2.bl hb, fun i hi => ⟨(h3 i hi).h.bl hb, (h3 i hi).r.bl hb⟩⟩
section
variable {w : World} {B B' : Nat} {v v' : Value} {ws : List WorldD}
theorem law24worlds (hB : B ≤ w.heap.size) (hB' : B' ≤ w.heap.size) (ha : SlWL w B v ws) (hb : SlWL w B' v' ws) : Ret Tryz.prog 18 #[v, v'] w (.bool true) := by
 have hn : Now w := trivial
 have hx : Ext w w := Ext.refl w
 obtain ⟨us, hu1, hu2, hu3⟩ := ha
 obtain ⟨vs, hv1, hv2, hv3⟩ := hb
 have KU := hu2.k hB
 have KV := hv2.k hB'
 have hbw : Bl B w w := Bl.refl hB
 have hbw' : Bl B' w w := Bl.refl hB'
 have hm := hu2.max_
 have hlen : us.length = vs.length := hu1.trans hv1.symm
 have hU : Hid (∀ i (h : i < us.length) w', Bl B w w' → WorldR w' B us[i].1 us[i].2 (ws.getD i noW)) := fun i h w' hb => ⟨(hu3 i h).h.bl hb, (hu3 i h).r.bl hb⟩
 have hV : Hid (∀ i (h : i < vs.length) w', Bl B' w w' → WorldR w' B' vs[i].1 vs[i].2 (ws.getD i noW)) := fun i h w' hb => ⟨(hv3 i h).h.bl hb, (hv3 i h).r.bl hb⟩
 have hln : Hid (us.length = vs.length) := hlen
 obtain ⟨g1, g2, g3, g4, g5, g6, g7, g8⟩ := KV
 rw [← hlen] at g3
 clear hu1 hv1 hu2 hv2 hu3 hv3 hlen
 (refine callsV_of Tryz.func18 rfl KR KR ?_; rw [Tryz.results18])
 (repeat' first
  | with_reducible first | exact ⟨⟩ | (refine Brg.mk ?_; intros) | refine Two.mk ?_ ?_
  | refine gs ?_
  | refine sx ?_)
 refine loop_k (us.length) (fun g0 k g _ => g 5 = .int .i64 k ∧ (g 0 = g0 0 ∧ g 1 = g0 1) ∧ True) KR (hm) ?_ ?_ ?_
 ·(repeat' first
  | with_reducible first | exact ⟨⟩ | (refine Brg.mk ?_; intros) | refine Two.mk ?_ ?_
  | refine gs ?_
  | simp (maxDischargeDepth := 3) only [↓X, ↓Y, ↓Q, S1, ↓reduceIte, Nat.reduceEqDiff, Nat.reduceAdd, Int.reduceLT, Int.reduceLE, Int.reduceNeg, Int.reduceBEq, Int.reduceBNe, Int.reduceEq, Nat.reduceLeDiff, Nat.reduceMul, Nat.reduceLT, *, List.take_zero, List.all_nil, List.any_nil]
  | simp (singlePass := true) (maxDischargeDepth := 99) only [*, S2, Nat.reduceLT, List.take_zero, List.all_nil, List.any_nil])
 ·rintro k m g wk hk hlt _ _ _ hw ⟨hi, hf, hp⟩
  simp (maxDischargeDepth := 3) only [U, ↓reduceIte, Nat.reduceEqDiff, *] at hf
  have hlv : k < vs.length := by have := hln.out; omega
  have hsm := fun w' (h1 : Bl B w w') (h2 : Bl B' w w') (h3 : B ≤ w'.heap.size) (h4 : B' ≤ w'.heap.size) => ref13Same h3 h4 (hU.out k hlt w' h1) (hV.out k hlv w' h2)
  rw [decide_eq_true rfl] at hsm
  (repeat' first
  | with_reducible first | exact ⟨⟩ | (refine Brg.mk ?_; intros) | refine Two.mk ?_ ?_
  | refine gs ?_
  | ((with_reducible refine at_q 19 ?_); refine qret_k (fun _ _ _ => hsm _ FR FR FR FR) ?_)
  | simp (maxDischargeDepth := 3) only [↓X, ↓Y, ↓Q, S1, ↓reduceIte, Nat.reduceEqDiff, Nat.reduceAdd, Int.reduceLT, Int.reduceLE, Int.reduceNeg, Int.reduceBEq, Int.reduceBNe, Int.reduceEq, Nat.reduceLeDiff, Nat.reduceMul, Nat.reduceLT, *, wC]
  | simp (singlePass := true) (maxDischargeDepth := 99) only [*, S2, Nat.reduceLT, wC])
  refine next_k hk hlt ?_ FR
  (repeat' first
  | with_reducible first | exact ⟨⟩ | (refine Brg.mk ?_; intros) | refine Two.mk ?_ ?_
  | refine gs ?_
  | refine sx ?_)
 ·rintro g wk _ _ _ ⟨hi, hf, hp⟩
  simp (maxDischargeDepth := 3) only [U, ↓reduceIte, Nat.reduceEqDiff, *] at hf
  (repeat' first
  | with_reducible first | exact ⟨⟩ | (refine Brg.mk ?_; intros) | refine Two.mk ?_ ?_
  | refine gs ?_
  | refine sx ?_)
end
section
variable {w : World} {B : Nat} {u : SiteVs} {sd : SiteD} {wv sv av hv rv : Value} {vs : List Value} {l : List SrvV} {p : PlanD} {y : WorldD}
theorem lawUndoWorlds {x : Int} (hT : TabW w) (hB : B ≤ w.heap.size) (hs : SiteR w B u sd) (hl : WishR w B wv l) (hx0 : WorldR w B hv rv y) (hpl : PlanR w B sv av vs p) :
  Ret Tryz.prog 4 #[.agg (siteC u sd).toArray, .agg #[wv], .agg #[hv, rv], .agg #[sv, av], intV x] w (.bool true) := by
 have hn : Now w := trivial
 have hx : Ext w w := Ext.refl w
 have hs' := hs.sk hB
 have hl' := hl.sk hB
 have hp' := hpl.sk hB
 have hx' := hx0.sk hB
 have hS := hs'.2.2.2.2.2.2
 have hW := hl'.2.2
 have hP := hp'.2.2.2.2.2.2
 have hX := hx'.2.2.2.2
 have hbw : Bl B w w := Bl.refl hB
 have hsv1 := hpl.s.one
 have hav1 := hp'.2.2.2.2.1
 have hh1 := hx0.h.one
 have hr1 := hx0.r.one
 have hT' := fun w' (h : Ext w w') => hT.ext h
 have hw1 := fun w' (h1 : Ext w w') (h2 : Bl B w w') (h3 : B ≤ w'.heap.size) => undoWorlds (x := x) (hT' w' h1) h3 (hS w' h2) (hW w' h2) (hP w' h2) (hX w' h2) rfl
 have hw2 := fun w' (h2 : Bl B w w') (h3 : B ≤ w'.heap.size) => ref24Worlds (x := x) h3 (hS w' h2) (hW w' h2) (hP w' h2) (hX w' h2) rfl
 have hl1 := fun w' (h1 : Ext w w') (h2 : Bl B w w') (h3 : B ≤ w'.heap.size) => undoLeft (x := x) (hT' w' h1) h3 (hS w' h2) (hW w' h2) (hP w' h2) (hX w' h2) rfl
 have hl2 := fun w' (h2 : Bl B w w') (h3 : B ≤ w'.heap.size) => ref24Left (x := x) h3 (hS w' h2) (hW w' h2) (hP w' h2) (hX w' h2) rfl
 generalize planErr sd (l.map (·.x)) p = e at *
 generalize worldsE e sd (l.map (·.x)) p y x = WE at hw1 hw2
 generalize worldsL e sd (l.map (·.x)) p y x = WL at hw1 hw2
 generalize leftW e sd (l.map (·.x)) p y x = LW at hl1 hl2
 generalize wldE e sd (l.map (·.x)) p y x = E at hl1 hl2
 replace hw1 : Hid _ := hw1
 replace hw2 : Hid _ := hw2
 replace hl1 : Hid _ := hl1
 replace hl2 : Hid _ := hl2
 clear hpl hx0 hp' hx' hs' hl'
 (refine callsV_of Tryz.func4 rfl KR KR ?_; rw [Tryz.results4])
 (repeat' first
  | with_reducible first | exact ⟨⟩ | (refine Brg.mk ?_; intros) | refine Two.mk ?_ ?_
  | refine gs ?_
  | ((with_reducible refine at_f 8 ?_); refine retb_k (law24few (B := B) FR (hS _ FR) (hW _ FR) (hX _ FR) (hP _ FR)) fun _ _ _ _ => ?_)
  | ((with_reducible refine at_f 9 ?_); refine ret_k (law24live (hT' _ FR)) fun _ _ _ => ?_)
  | refine sxLawW241 ?_)
 refine call_k (hw1.out _ FR FR FR) ?_
 rintro _ w1 n1 s1 ⟨lv1, rfl, hlv1⟩
 have l1one := hlv1.one
 have h1s : Hid (∀ w', Bl w1.heap.size w1 w' → SlWL w' w1.heap.size lv1 WL) := fun w' h => hlv1.sl24.bl24 h
 have e1 : Bl w1.heap.size w1 w1 := Bl.refl (Nat.le_refl _)
 clear hlv1 hw1
 (repeat' first
  | with_reducible first | exact ⟨⟩ | (refine Brg.mk ?_; intros) | refine Two.mk ?_ ?_
  | refine gs ?_
  | refine sxLawW241 ?_)
 refine call_k (hw2.out _ FR FR) ?_
 rintro _ w2 n2 s2 ⟨lv2, rfl, hlv2⟩
 have l2one := hlv2.one
 have h2s : Hid (∀ w', Bl w2.heap.size w2 w' → SlWL w' w2.heap.size lv2 WL) := fun w' h => hlv2.sl24.bl24 h
 have e2 : Bl w2.heap.size w2 w2 := Bl.refl (Nat.le_refl _)
 clear hlv2 hw2
 (repeat' first
  | with_reducible first | exact ⟨⟩ | (refine Brg.mk ?_; intros) | refine Two.mk ?_ ?_
  | refine gs ?_
  | refine sxLawW241 ?_)
 refine call_k (hl1.out _ FR FR FR) ?_
 rintro _ w3 n3 s3 ⟨_, rfl, lh, lr, rfl, olh, olr⟩
 have lh1 := olh.one
 have lr1 := olr.one
 have hLw : WorldR w3 w3.heap.size lh lr LW := ⟨olh.slN (f := stateC), olr.slN (f := replC)⟩
 have hLX := (hLw.sk (Nat.le_refl _)).2.2.2.2
 have b3 : Bl w3.heap.size w3 w3 := Bl.refl (Nat.le_refl _)
 clear olh olr hLw hl1
 (repeat' first
  | with_reducible first | exact ⟨⟩ | (refine Brg.mk ?_; intros) | refine Two.mk ?_ ?_
  | refine gs ?_
  | refine sxLawW241 ?_)
 refine call_k (hl2.out _ FR FR) ?_
 rintro _ w4 n4 s4 ⟨_, rfl, ah, ar, rfl, oah, oar⟩
 have ah1 := oah.one
 have ar1 := oar.one
 have hAw : WorldR w4 w4.heap.size ah ar LW := ⟨oah.slN (f := stateC), oar.slN (f := replC)⟩
 have hAX := (hAw.sk (Nat.le_refl _)).2.2.2.2
 have b4 : Bl w4.heap.size w4 w4 := Bl.refl (Nat.le_refl _)
 clear oah oar hAw hl2
 (repeat' first
  | with_reducible first | exact ⟨⟩ | (refine Brg.mk ?_; intros) | refine Two.mk ?_ ?_
  | refine gs ?_
  | refine sx ?_)
 refine ret_k (law24worlds (B := w1.heap.size) (B' := w2.heap.size) (ws := WL) FR FR (h1s.out _ FR) (h2s.out _ FR)) fun w5 n5 s5 => ?_
 clear h1s h2s
 have e13 := fun w' (h1 : Bl w3.heap.size w3 w') (h2 : Bl w4.heap.size w4 w') (h3 : w3.heap.size ≤ w'.heap.size) (h4 : w4.heap.size ≤ w'.heap.size) => ref13Same h3 h4 (hLX w' h1) (hAX w' h2)
 rw [decide_eq_true rfl] at e13
 (repeat' first
  | with_reducible first | exact ⟨⟩ | (refine Brg.mk ?_; intros) | refine Two.mk ?_ ?_
  | refine gs ?_
  | ((with_reducible refine at_f 19 ?_); refine ret_k (e13 _ FR FR FR FR) fun _ _ _ => ?_)
  | ((with_reducible refine at_f 9 ?_); refine ret_k (law24live (hT' _ FR)) fun _ _ _ => ?_)
  | refine sx ?_)
end
end Go.Proofs.YtphciegaokdolaaGreatDoor
