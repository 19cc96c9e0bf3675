
/- The statement UndoReturns. -/
import Derived.Test.YtphciegaokdolaaGreatDoorLawA24
import Derived.Test.YtphciegaokdolaaGreatDoorPureY24
import Derived.Test.YtphciegaokdolaaGreatDoorRef21
import Derived.Test.YtphciegaokdolaaGreatDoorFew24
namespace Go.Proofs.YtphciegaokdolaaGreatDoor
set_option linter.unusedSimpArgs false
set_option linter.unusedVariables false
open Go Go.RowKit
set_option maxRecDepth 100000
set_option linter.unusedSectionVars false
set_option maxHeartbeats 2000000
theorem sxLawR241 {p q : Prop} (hq : q) (h : p = q := by first | (simp (maxDischargeDepth := 3) only [↓X, ↓Y, ↓Q, S1, ↓reduceIte, Nat.reduceEqDiff, Nat.reduceAdd, Int.reduceLT, Int.reduceLE, Int.reduceNeg, Int.reduceBEq, Int.reduceBNe, Int.reduceEq, Nat.reduceLeDiff, Nat.reduceMul, Nat.reduceLT, *, stepV, stepC]; try exact rfl) | (simp (singlePass := true) (maxDischargeDepth := 99) only [*, S2, Nat.reduceLT, stepV, stepC]; try exact rfl)) : p := h ▸ hq
theorem sxLawR242 {p q : Prop} (hq : q) (h : p = q := by first | (simp (maxDischargeDepth := 3) only [↓X, ↓Y, ↓Q, S1, ↓reduceIte, Nat.reduceEqDiff, Nat.reduceAdd, Int.reduceLT, Int.reduceLE, Int.reduceNeg, Int.reduceBEq, Int.reduceBNe, Int.reduceEq, Nat.reduceLeDiff, Nat.reduceMul, Nat.reduceLT, *, siteC]; try exact rfl) | (simp (singlePass := true) (maxDischargeDepth := 99) only [*, S2, Nat.reduceLT, siteC]; try exact rfl)) : p := h ▸ hq
def flashB (steps : List StepD) (L : List Int) : Bool := L.all fun i => decide (0 ≤ i) && decide (i < steps.length) && (stA steps i.toNat).kind == 7
theorem seqF_bit {p : PlanD} {set : Nat} : ∀ (f d : Nat), ∀ j ∈ seqF p set f d, set.testBit j = true
 | 0, _, j, h => by cases h
 | f + 1, d, j, h => by
  rw [seqF] at h
  split at h
  ·cases h
  ·split at h
   ·cases h
   ·rename_i i hi
    rcases List.mem_cons.1 h with rfl | h
    ·exact List.find?_some hi
    ·exact seqF_bit f _ j h
theorem returns_facts {e x : Int} {s : SiteD} {wl : List ServiceD} {p : PlanD} {y : WorldD} (he : planErr s wl p = e) (h0 : wldE e s wl p y x = 0) (hf : flashB p.steps (lastL e s wl p y x) = true) :
  worldsE e s wl p y x = 0 ∧ lastW (worldsL e s wl p y x) (wldW e s wl p y x) = leftW e s wl p y x ∧ (lastL e s wl p y x = [] → leftW e s wl p y x = y) := by
 obtain ⟨ha, hv, hr⟩ := wldE_zero h0
 obtain ⟨_, _, _, _, hLlt, _⟩ := seq_facts he ha
 have hrun := run_of hr hv
 unfold lastL at hf ⊢
 rw [if_pos h0] at hf ⊢
 have e1 : wldW e s wl p y x = lastW (runL s wl p.steps (seqF p x.toNat 4096 0) y).1 y := by rw [wldW, if_pos h0]
 have e2 : backL e s wl p y x = backS s wl p.steps (y :: (runL s wl p.steps (seqF p x.toNat 4096 0) y).1) (xsL (seqF p x.toNat 4096 0)) := by rw [backL, if_pos h0]
 have hbit : ∀ j ∈ seqF p x.toNat 4096 0, x.toNat.testBit j = true ∧ j < p.steps.length := fun j hj => ⟨seqF_bit _ _ j hj, hLlt j hj⟩
 unfold worldsE worldsL worldsQ leftW
 simp only [h0, if_true]
 rw [e1, e2]
 generalize seqF p x.toNat 4096 0 = L at *
 generalize (runL s wl p.steps L y).1 = ws at *
 have hfl : ∀ i (hi : i < L.length), lastB s wl ((y :: ws).getD i noW) (stA p.steps L[i]) = true → (stA p.steps L[i]).kind = 7 := fun i hi hb => by
  have hm : (i, L[i]) ∈ xsL L := List.mem_map.2 ⟨i, List.mem_reverse.2 (List.mem_range.2 hi), by rw [List.getD_eq_getElem?_getD, List.getElem?_eq_getElem hi]; rfl⟩
  have h2 : L[i] ∈ lastS s wl p.steps (y :: ws) (xsL L) := List.mem_map.2 ⟨_, List.mem_filter.2 ⟨hm, hb⟩, rfl⟩
  have h3 : ((L[i] : Nat) : Int) ∈ sortI (intL (lastS s wl p.steps (y :: ws) (xsL L))) := List.mem_mergeSort.2 (List.mem_map.2 ⟨_, h2, rfl⟩)
  have h4 := List.all_eq_true.1 hf _ h3
  simp only [Bool.and_eq_true, decide_eq_true_eq, Int.toNat_natCast, beq_iff_eq] at h4
  exact h4.2
 obtain ⟨r1, r2, r3⟩ := returns24 hrun hfl hbit
 rw [r1]
 simp only [if_true]
 refine ⟨trivial, r2, fun hn => ?_⟩
 have hl : lastS s wl p.steps (y :: ws) (xsL L) = [] := by
  have := congrArg List.length hn
  rw [sortI, List.length_mergeSort, intL, List.length_map] at this
  exact List.eq_nil_of_length_eq_zero this
 rw [← r2]
 exact r3 hl
section
variable {w : World} {B B' : Nat} {u : SiteVs} {sd : SiteD} {wv sv av hv rv mv : Value} {vs : List Value} {l : List SrvV} {p : PlanD} {y : WorldD}
theorem law24flashes {L : List Int} (hB : B ≤ w.heap.size) (hB' : B' ≤ w.heap.size) (hpl : PlanR w B sv av vs p) (hm : Sl w B' none 1 mv (L.map intV)) : Ret Tryz.prog 20 #[.agg #[sv, av], mv] w (.bool (flashB p.steps L)) := by
 have hn : Now w := trivial
 have hx : Ext w w := Ext.refl w
 have hp' := hpl.sk hB
 have hst := hp'.1
 have hstf := hpl.s.fk
 have hm' := hm.k hB'
 have hbw : Bl B w w := Bl.refl hB
 have hbm : Bl B' w w := Bl.refl hB'
 have hsv1 := hpl.s.one
 have hav1 := hp'.2.2.2.2.1
 have hstA : Hid (∀ i (h : i < p.steps.length), stA p.steps i = p.steps[i]) := fun i h => stA_at h
 have hlm := hm.max_
 have hls := hpl.s.max_
 clear hp'
 (refine callsV_of Tryz.func20 rfl KR KR ?_; rw [Tryz.results20])
 (repeat' first
  | with_reducible first | exact ⟨⟩ | (refine Brg.mk ?_; intros) | refine Two.mk ?_ ?_
  | refine gs ?_
  | refine sx ?_)
 refine loop_k (L.length) (fun g0 k g _ => g 5 = .int .i64 k ∧ (g 1 = g0 1 ∧ g 2 = g0 2) ∧ Hid (flashB p.steps (L.take k) = true)) KR (hlm) ?_ ?_ ?_
 ·(repeat' first
  | with_reducible first | exact ⟨⟩ | (refine Brg.mk ?_; intros) | refine Two.mk ?_ ?_
  | refine gs ?_
  | simp (maxDischargeDepth := 3) only [↓X, ↓Y, ↓Q, S1, ↓reduceIte, Nat.reduceEqDiff, Nat.reduceAdd, Int.reduceLT, Int.reduceLE, Int.reduceNeg, Int.reduceBEq, Int.reduceBNe, Int.reduceEq, Nat.reduceLeDiff, Nat.reduceMul, Nat.reduceLT, *, List.take_zero, List.all_nil, List.any_nil]
  | simp (singlePass := true) (maxDischargeDepth := 99) only [*, S2, Nat.reduceLT, List.take_zero, List.all_nil, List.any_nil])
  exact rfl
 ·rintro k m g wk hk hlt _ _ _ hw ⟨hi, hf, hp⟩
  simp (maxDischargeDepth := 3) only [U, ↓reduceIte, Nat.reduceEqDiff, *] at hf
  by_cases h1 : L[k] < 0
  ·have : flashB p.steps L = false := by
    rw [flashB, List.all_eq_false]
    exact ⟨_, List.getElem_mem hlt, by simp; omega⟩
   rw [this]
   (repeat' first
  | with_reducible first | exact ⟨⟩ | (refine Brg.mk ?_; intros) | refine Two.mk ?_ ?_
  | refine gs ?_
  | refine sx ?_)
  ·obtain ⟨i, hi0⟩ : ∃ i : Nat, L[k] = (i : Int) := ⟨(L[k]).toNat, by omega⟩
   by_cases h2 : i < p.steps.length
   ·have h2' : ¬ p.steps.length ≤ i := by omega
    by_cases h7 : p.steps[i].kind = 7
    ·have hnx : flashB p.steps (L.take (k + 1)) = true := by
      rw [List.take_add_one, List.getElem?_eq_getElem hlt, flashB, List.all_append, Bool.and_eq_true]
      refine ⟨hp.out, ?_⟩
      simp [hi0, h2, hstA.out i h2, h7]
     (repeat' first
  | with_reducible first | exact ⟨⟩ | (refine Brg.mk ?_; intros) | refine Two.mk ?_ ?_
  | refine gs ?_
  | refine sxLawR241 ?_)
     refine next_k hk hlt ?_ FR
     (repeat' first
  | with_reducible first | exact ⟨⟩ | (refine Brg.mk ?_; intros) | refine Two.mk ?_ ?_
  | refine gs ?_
  | refine sx ?_)
     exact trivial
    ·have : flashB p.steps L = false := by
      rw [flashB, List.all_eq_false]
      exact ⟨_, List.getElem_mem hlt, by simp [hi0, h2, hstA.out i h2, h7]⟩
     rw [this]
     (repeat' first
  | with_reducible first | exact ⟨⟩ | (refine Brg.mk ?_; intros) | refine Two.mk ?_ ?_
  | refine gs ?_
  | refine sxLawR241 ?_)
     all_goals contradiction
   ·have : flashB p.steps L = false := by
     rw [flashB, List.all_eq_false]
     exact ⟨_, List.getElem_mem hlt, by simp [hi0]; omega⟩
    have h2' : p.steps.length ≤ i := by omega
    rw [this]
    (repeat' first
  | with_reducible first | exact ⟨⟩ | (refine Brg.mk ?_; intros) | refine Two.mk ?_ ?_
  | refine gs ?_
  | refine sx ?_)
 ·rintro g wk _ _ _ ⟨hi, hf, hp⟩
  simp (maxDischargeDepth := 3) only [U, ↓reduceIte, Nat.reduceEqDiff, *] at hf
  (repeat' first
  | with_reducible first | exact ⟨⟩ | (refine Brg.mk ?_; intros) | refine Two.mk ?_ ?_
  | refine gs ?_
  | refine sx ?_)
  have h9 := hp.out
  rw [List.take_length] at h9
  rw [h9]
theorem lawUndoReturns {x : Int} (hT : TabW w) (hB : B ≤ w.heap.size) (hs : SiteR w B u sd) (hl : WishR w B wv l) (hx0 : WorldR w B hv rv y) (hpl : PlanR w B sv av vs p) :
  Ret Tryz.prog 5 #[.agg (siteC u sd).toArray, .agg #[wv], .agg #[hv, rv], .agg #[sv, av], intV x] w (.bool true) := by
 have hn : Now w := trivial
 have hx : Ext w w := Ext.refl w
 have hs' := hs.sk hB
 have hl' := hl.sk hB
 have hp' := hpl.sk hB
 have hx' := hx0.sk hB
 have hS := hs'.2.2.2.2.2.2
 have hW := hl'.2.2
 have hP := hp'.2.2.2.2.2.2
 have hX := hx'.2.2.2.2
 have hbw : Bl B w w := Bl.refl hB
 have hsv1 := hpl.s.one
 have hav1 := hp'.2.2.2.2.1
 have hh1 := hx0.h.one
 have hr1 := hx0.r.one
 have hT' := fun w' (h : Ext w w') => hT.ext h
 have hb1 := fun w' (h1 : Ext w w') (h2 : Bl B w w') (h3 : B ≤ w'.heap.size) => undoBack (x := x) (hT' w' h1) h3 (hS w' h2) (hW w' h2) (hP w' h2) (hX w' h2) rfl
 have hw1 := fun w' (h1 : Ext w w') (h2 : Bl B w w') (h3 : B ≤ w'.heap.size) => undoWorlds (x := x) (hT' w' h1) h3 (hS w' h2) (hW w' h2) (hP w' h2) (hX w' h2) rfl
 have hl1 := fun w' (h1 : Ext w w') (h2 : Bl B w w') (h3 : B ≤ w'.heap.size) => undoLeft (x := x) (hT' w' h1) h3 (hS w' h2) (hW w' h2) (hP w' h2) (hX w' h2) rfl
 have ha1 := fun w' (h2 : Bl B w w') (h3 : B ≤ w'.heap.size) => ref21World (x := x) h3 (hS w' h2) (hW w' h2) (hP w' h2) (hX w' h2) rfl
 have hfa := fun h0 hf => returns_facts (x := x) (y := y) (rfl : planErr sd (l.map (·.x)) p = _) h0 hf
 generalize planErr sd (l.map (·.x)) p = e at *
 generalize backL e sd (l.map (·.x)) p y x = BL at hb1
 generalize lastL e sd (l.map (·.x)) p y x = LL at hb1 hfa
 generalize worldsE e sd (l.map (·.x)) p y x = WE at hw1 hfa
 generalize worldsL e sd (l.map (·.x)) p y x = WL at hw1 hfa
 generalize leftW e sd (l.map (·.x)) p y x = LW at hl1 hfa
 generalize wldW e sd (l.map (·.x)) p y x = VW at ha1 hfa
 generalize wldE e sd (l.map (·.x)) p y x = E at hb1 hl1 ha1 hfa
 replace hb1 : Hid _ := hb1
 replace hw1 : Hid _ := hw1
 replace hl1 : Hid _ := hl1
 replace ha1 : Hid _ := ha1
 replace hfa : Hid _ := hfa
 clear hpl hx0 hp' hx' hs' hl'
 (refine callsV_of Tryz.func5 rfl KR KR ?_; rw [Tryz.results5])
 (repeat' first
  | with_reducible first | exact ⟨⟩ | (refine Brg.mk ?_; intros) | refine Two.mk ?_ ?_
  | refine gs ?_
  | ((with_reducible refine at_f 8 ?_); refine retb_k (law24few (B := B) FR (hS _ FR) (hW _ FR) (hX _ FR) (hP _ FR)) fun _ _ _ _ => ?_)
  | ((with_reducible refine at_f 9 ?_); refine ret_k (law24live (hT' _ FR)) fun _ _ _ => ?_)
  | refine sxLawR242 ?_)
 refine call_k (hb1.out _ FR FR FR) ?_
 rintro _ w1 n1 s1 ⟨bv, lv, rfl, obv, olv⟩
 have obv1 := obv.one
 have olv1 := olv.one
 have h1l : Hid (∀ w', Bl w1.heap.size w1 w' → Sl w' w1.heap.size none 1 lv (LL.map intV)) := fun w' h => (olv.sl1 (f := intV)).bl h
 have KL := (olv.sl1 (f := intV)).k (Nat.le_refl _)
 have e1 : Bl w1.heap.size w1 w1 := Bl.refl (Nat.le_refl _)
 clear obv olv
 by_cases h0 : E = 0
 rotate_left
 ·have hE1 : (E == 0) = false := by simpa using h0
  have hE2 : (E != 0) = true := by simpa using h0
  clear hw1 hl1 ha1 hfa hb1
  (repeat' first
  | with_reducible first | exact ⟨⟩ | (refine Brg.mk ?_; intros) | refine Two.mk ?_ ?_
  | refine gs ?_
  | ((with_reducible refine at_f 9 ?_); refine ret_k (law24live (hT' _ FR)) fun _ _ _ => ?_)
  | refine sxLawR242 ?_)
 subst h0
 cases hfl : flashB p.steps LL
 ·have hfv := fun w' (h1 : Bl B w w') (h2 : Bl w1.heap.size w1 w') (h3 : B ≤ w'.heap.size) (h4 : w1.heap.size ≤ w'.heap.size) => law24flashes h3 h4 (hP w' h1) (h1l.out w' h2)
  rw [hfl] at hfv
  clear hw1 hl1 ha1 hfa hb1 hfl
  (repeat' first
  | with_reducible first | exact ⟨⟩ | (refine Brg.mk ?_; intros) | refine Two.mk ?_ ?_
  | refine gs ?_
  | ((with_reducible refine at_f 20 ?_); refine ret_k (hfv _ FR FR FR FR) fun _ _ _ => ?_)
  | ((with_reducible refine at_f 9 ?_); refine ret_k (law24live (hT' _ FR)) fun _ _ _ => ?_)
  | refine sxLawR242 ?_)
 have hfv := fun w' (h1 : Bl B w w') (h2 : Bl w1.heap.size w1 w') (h3 : B ≤ w'.heap.size) (h4 : w1.heap.size ≤ w'.heap.size) => law24flashes h3 h4 (hP w' h1) (h1l.out w' h2)
 rw [hfl] at hfv
 obtain ⟨hWE, hlast, hnil⟩ := hfa.out rfl hfl
 subst hWE
 replace hlast : Hid _ := hlast
 replace hnil : Hid _ := hnil
 clear hfa hb1 hfl h1l
 (repeat' first
  | with_reducible first | exact ⟨⟩ | (refine Brg.mk ?_; intros) | refine Two.mk ?_ ?_
  | refine gs ?_
  | ((with_reducible refine at_f 20 ?_); refine ret_k (hfv _ FR FR FR FR) fun _ _ _ => ?_)
  | refine sxLawR242 ?_)
 refine call_k (hw1.out _ FR FR FR) ?_
 rintro _ w2 n2 s2 ⟨lv2, rfl, hlv⟩
 have lvone := hlv.one
 obtain ⟨us, hu1, hu2, hu3⟩ := hlv
 have K := (hu2.slN (f := wC)).k (Nat.le_refl _)
 have b2 : Bl w2.heap.size w2 w2 := Bl.refl (Nat.le_refl _)
 have hu3' : Hid (∀ i (h : i < us.length), ∀ w', Bl w2.heap.size w2 w' → WorldR w' w2.heap.size us[i].1 us[i].2 (WL.getD i noW)) := fun i h w' hb => by
  have h1 : WorldR w2 w2.heap.size us[i].1 us[i].2 (WL.getD i noW) := ⟨(hu3 i h).1.slN (f := stateC), (hu3 i h).2.slN (f := replC)⟩
  exact ⟨h1.h.bl hb, h1.r.bl hb⟩
 have hu4 : Hid (∀ i (h : i < us.length), us[i].1.oneCell' = true ∧ us[i].2.oneCell' = true) := fun i h => ⟨(hu3 i h).1.one, (hu3 i h).2.one⟩
 have hu1' : Hid (us.length = WL.length) := hu1
 have hu2m := (hu2.slN (f := wC)).max_
 clear hu1 hu2 hu3 hw1 hfv
 (repeat' first
  | with_reducible first | exact ⟨⟩ | (refine Brg.mk ?_; intros) | refine Two.mk ?_ ?_
  | refine gs ?_
  | refine sxLawR242 ?_)
 refine call_k (hl1.out _ FR FR FR) ?_
 rintro _ w3 n3 s3 ⟨_, rfl, lh, lr, rfl, olh, olr⟩
 have lh1 := olh.one
 have lr1 := olr.one
 have hLw : WorldR w3 w3.heap.size lh lr LW := ⟨olh.slN (f := stateC), olr.slN (f := replC)⟩
 have hLX := (hLw.sk (Nat.le_refl _)).2.2.2.2
 have b3 : Bl w3.heap.size w3 w3 := Bl.refl (Nat.le_refl _)
 clear olh olr hLw hl1
 (repeat' first
  | with_reducible first | exact ⟨⟩ | (refine Brg.mk ?_; intros) | refine Two.mk ?_ ?_
  | refine gs ?_
  | refine sxLawR242 ?_)
 refine call_k (ha1.out _ FR FR) ?_
 rintro _ w4 n4 s4 ⟨_, rfl, ah, ar, rfl, oah, oar⟩
 have ah1 := oah.one
 have ar1 := oar.one
 have hAw : WorldR w4 w4.heap.size ah ar VW := ⟨oah.slN (f := stateC), oar.slN (f := replC)⟩
 have hAX := (hAw.sk (Nat.le_refl _)).2.2.2.2
 have b4 : Bl w4.heap.size w4 w4 := Bl.refl (Nat.le_refl _)
 clear oah oar hAw ha1
 rcases Nat.eq_zero_or_pos us.length with hus | hus
 ·have hWL : WL = [] := List.eq_nil_of_length_eq_zero (by rw [← hu1'.out]; exact hus)
  have hus' : us = [] := List.eq_nil_of_length_eq_zero hus
  subst hus'
  subst hWL
  have hla : Hid (VW = LW) := hlast.out
  clear hlast hu3' hu4 hu1'
  (repeat' first
  | with_reducible first | exact ⟨⟩ | (refine Brg.mk ?_; intros) | refine Two.mk ?_ ?_
  | refine gs ?_
  | refine sx ?_)
  have e13 := fun w' (h1 : Bl w4.heap.size w4 w') (h2 : Bl w3.heap.size w3 w') (h3 : w4.heap.size ≤ w'.heap.size) (h4 : w3.heap.size ≤ w'.heap.size) => ref13Same h3 h4 (hAX w' h1) (hLX w' h2)
  rw [decide_eq_true hla.out] at e13
  refine ret_k (e13 _ FR FR FR FR) fun w8 n8 s8 => ?_
  rcases Nat.eq_zero_or_pos LL.length with hll | hll
  ·have hy := hnil.out (List.eq_nil_of_length_eq_zero hll)
   have e14 := fun w' (h1 : Bl w4.heap.size w4 w') (h2 : Bl B w w') (h3 : w4.heap.size ≤ w'.heap.size) (h4 : B ≤ w'.heap.size) => ref13Same h3 h4 (hAX w' h1) (hX w' h2)
   rw [decide_eq_true (hla.out.trans hy)] at e14
   clear e13 hy hnil
   (repeat' first
  | with_reducible first | exact ⟨⟩ | (refine Brg.mk ?_; intros) | refine Two.mk ?_ ?_
  | refine gs ?_
  | ((with_reducible refine at_f 19 ?_); refine ret_k (e14 _ FR FR FR FR) fun _ _ _ => ?_)
  | ((with_reducible refine at_f 9 ?_); refine ret_k (law24live (hT' _ FR)) fun _ _ _ => ?_)
  | refine sx ?_)
  ·have hllI : (0 : Int) < (LL.length : Int) := by omega
   clear e13 hnil
   (repeat' first
  | with_reducible first | exact ⟨⟩ | (refine Brg.mk ?_; intros) | refine Two.mk ?_ ?_
  | refine gs ?_
  | ((with_reducible refine at_f 9 ?_); refine ret_k (law24live (hT' _ FR)) fun _ _ _ => ?_)
  | refine sx ?_)
 ·obtain ⟨n, hn1⟩ : ∃ n, us.length = n + 1 := ⟨us.length - 1, by omega⟩
  have hnl : n < us.length := by omega
  have elw : lastW WL VW = WL.getD n noW := by
   have := hu1'.out
   rw [lastW_get (by omega), List.getD_eq_getElem?_getD, List.getElem?_eq_getElem (by omega)]
   simp only [show WL.length - 1 = n by omega]; rfl
  have hla : Hid (WL.getD n noW = LW) := elw.symm.trans hlast.out
  obtain ⟨H1, R1⟩ := hu4.out n hnl
  have hUX := hu3'.out n hnl
  have hw1 : IntKind.i64.wrap (((n + 1 : Nat) : Int) - 1) = (n : Int) := by
   have := hu2m
   rw [wrap_i64_id] <;> omega
  have hnI : ((n : Nat) : Int) < ((n + 1 : Nat) : Int) := by omega
  have hnn : n < n + 1 := Nat.lt_succ_self n
  have hpI : (0 : Int) < ((n + 1 : Nat) : Int) := by omega
  clear hlast hu3' hu4 hu1' elw
  (repeat' first
  | with_reducible first | exact ⟨⟩ | (refine Brg.mk ?_; intros) | refine Two.mk ?_ ?_
  | refine gs ?_
  | simp (maxDischargeDepth := 3) only [↓X, ↓Y, ↓Q, S1, ↓reduceIte, Nat.reduceEqDiff, Nat.reduceAdd, Int.reduceLT, Int.reduceLE, Int.reduceNeg, Int.reduceBEq, Int.reduceBNe, Int.reduceEq, Nat.reduceLeDiff, Nat.reduceMul, Nat.reduceLT, *, wC]
  | simp (singlePass := true) (maxDischargeDepth := 99) only [*, S2, Nat.reduceLT, wC])
  have e13 := fun w' (h1 : Bl w2.heap.size w2 w') (h2 : Bl w3.heap.size w3 w') (h3 : w2.heap.size ≤ w'.heap.size) (h4 : w3.heap.size ≤ w'.heap.size) => ref13Same h3 h4 (hUX w' h1) (hLX w' h2)
  rw [decide_eq_true hla.out] at e13
  refine ret_k (e13 _ FR FR FR FR) fun w8 n8 s8 => ?_
  rcases Nat.eq_zero_or_pos LL.length with hll | hll
  ·have hy := hnil.out (List.eq_nil_of_length_eq_zero hll)
   have e14 := fun w' (h1 : Bl w2.heap.size w2 w') (h2 : Bl B w w') (h3 : w2.heap.size ≤ w'.heap.size) (h4 : B ≤ w'.heap.size) => ref13Same h3 h4 (hUX w' h1) (hX w' h2)
   rw [decide_eq_true (hla.out.trans hy)] at e14
   clear e13 hy hnil
   (repeat' first
  | with_reducible first | exact ⟨⟩ | (refine Brg.mk ?_; intros) | refine Two.mk ?_ ?_
  | refine gs ?_
  | ((with_reducible refine at_f 19 ?_); refine ret_k (e14 _ FR FR FR FR) fun _ _ _ => ?_)
  | ((with_reducible refine at_f 9 ?_); refine ret_k (law24live (hT' _ FR)) fun _ _ _ => ?_)
  | refine sx ?_)
  ·have hllI : (0 : Int) < (LL.length : Int) := by omega
   clear e13 hnil
   (repeat' first
  | with_reducible first | exact ⟨⟩ | (refine Brg.mk ?_; intros) | refine Two.mk ?_ ?_
  | refine gs ?_
  | ((with_reducible refine at_f 9 ?_); refine ret_k (law24live (hT' _ FR)) fun _ _ _ => ?_)
  | refine sx ?_)
end
end Go.Proofs.YtphciegaokdolaaGreatDoor
