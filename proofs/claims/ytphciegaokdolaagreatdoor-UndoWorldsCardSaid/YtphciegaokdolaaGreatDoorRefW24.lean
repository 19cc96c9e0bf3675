
/- The document's answer, layer 24: Worlds, Left. -/
import Derived.Test.YtphciegaokdolaaGreatDoorRef24
import Derived.Test.YtphciegaokdolaaGreatDoorPureL24
import Derived.Test.YtphciegaokdolaaGreatDoorPureY24
namespace Go.Proofs.YtphciegaokdolaaGreatDoor
set_option linter.unusedSimpArgs false
set_option linter.unusedVariables false
open Go Go.RowKit
set_option maxRecDepth 100000
set_option linter.unusedSectionVars false
set_option maxHeartbeats 2000000
theorem sxRefW240 {p q : Prop} (hq : q) (h : p = q := by first | (simp (maxDischargeDepth := 3) only [↓X, ↓Y, ↓Q, S1, ↓reduceIte, Nat.reduceEqDiff, Nat.reduceAdd, Int.reduceLT, Int.reduceLE, Int.reduceNeg, Int.reduceBEq, Int.reduceBNe, Int.reduceEq, Nat.reduceLeDiff, Nat.reduceMul, Nat.reduceLT, *, siteC]; try exact rfl) | (simp (singlePass := true) (maxDischargeDepth := 99) only [*, S2, Nat.reduceLT, siteC]; try exact rfl)) : p := h ▸ hq
theorem sxRefW242 {p q : Prop} (hq : q) (h : p = q := by first | (simp (maxDischargeDepth := 3) only [↓X, ↓Y, ↓Q, S1, ↓reduceIte, Nat.reduceEqDiff, Nat.reduceAdd, Int.reduceLT, Int.reduceLE, Int.reduceNeg, Int.reduceBEq, Int.reduceBNe, Int.reduceEq, Nat.reduceLeDiff, Nat.reduceMul, Nat.reduceLT, *, siteC, stepV, stepC]; try exact rfl) | (simp (singlePass := true) (maxDischargeDepth := 99) only [*, S2, Nat.reduceLT, siteC, stepV, stepC]; try exact rfl)) : p := h ▸ hq
theorem sxRefW243 {p q : Prop} (hq : q) (h : p = q := by first | (simp (maxDischargeDepth := 3) only [↓X, ↓Y, ↓Q, S1, ↓reduceIte, Nat.reduceEqDiff, Nat.reduceAdd, Int.reduceLT, Int.reduceLE, Int.reduceNeg, Int.reduceBEq, Int.reduceBNe, Int.reduceEq, Nat.reduceLeDiff, Nat.reduceMul, Nat.reduceLT, *, stepV, stepC]; try exact rfl) | (simp (singlePass := true) (maxDischargeDepth := 99) only [*, S2, Nat.reduceLT, stepV, stepC]; try exact rfl)) : p := h ▸ hq
section
variable {w : World} {B : Nat} {u : SiteVs} {sd : SiteD} {wv sv av hv rv : Value} {vs : List Value} {l : List SrvV} {p : PlanD} {y : WorldD}
theorem ref24Worlds {x e : Int} (hB : B ≤ w.heap.size) (hs : SiteR w B u sd) (hl : WishR w B wv l) (hpl : PlanR w B sv av vs p) (hx0 : WorldR w B hv rv y) (he : planErr sd (l.map (·.x)) p = e) :
  CallsV Tryz.prog 15 #[.agg (siteC u sd).toArray, .agg #[wv], .agg #[hv, rv], .agg #[sv, av], intV x] w fun r w' => Ext w w' ∧ ∃ lv, r = .tuple #[lv, intV (worldsE e sd (l.map (·.x)) p y x)] ∧ OwnWL w' w.heap.size lv (worldsL e sd (l.map (·.x)) p y x) := by
 have hn : Now w := trivial
 have hx : Ext w w := Ext.refl w
 have hs' := hs.sk hB
 have hl' := hl.sk hB
 have hp' := hpl.sk hB
 have hx' := hx0.sk hB
 have hS := hs'.2.2.2.2.2.2
 have hW := hl'.2.2
 have hP := hp'.2.2.2.2.2.2
 have hX := hx'.2.2.2.2
 have hbw : Bl B w w := Bl.refl hB
 have hsv1 := hpl.s.one
 have hav1 := hp'.2.2.2.2.1
 have hh1 := hx0.h.one
 have hr1 := hx0.r.one
 have hbl36 := backL_len (x := x) (y := y) he
 have he' : Hid (planErr sd (l.map (·.x)) p = e) := he
 have hApp := fun w' (h1 : Bl B w w') (h3 : B ≤ w'.heap.size) {h r : Value} {x : WorldD} (hx : WorldR w' w'.heap.size h r x) (st : StepD) => ref19Apply (st := st) (B := w'.heap.size) (Nat.le_refl _) ((hS w' h1).up24 h3) ((hW w' h1).up24 h3) hx
 replace hApp : Hid _ := hApp
 unfold worldsE worldsL worldsQ
 clear he hpl hx0 hp' hx' hs' hl'
 (refine callsV_of Tryz.func15 rfl KR KR ?_; rw [Tryz.results15])
 (repeat' first
  | with_reducible first | exact ⟨⟩ | (refine Brg.mk ?_; intros) | refine Two.mk ?_ ?_
  | refine gs ?_
  | refine sxRefW240 ?_)
 rename_i b5 w5 n5 k5 s5 q5 b6 w6 n6 k6 s6 q6 b7 w7 n7 k7 s7 q7 b8 w8 n8 k8 s8 q8
 refine call_k (ref24Back (x := x) (B := B) FR (hS _ FR) (hW _ FR) (hP _ FR) (hX _ FR) he'.out) ?_
 rintro _ w1 n1 s1 ⟨bv, lv, rfl, obv, olv⟩
 have obv1 := obv.one
 have olv1 := olv.one
 clear olv
 by_cases h0 : wldE e sd (l.map (·.x)) p y x = 0
 rotate_left
 ·simp only [if_neg h0]
  clear obv hbl36
  generalize wldE e sd (l.map (·.x)) p y x = E at *
  have hE1 : (E == 0) = false := by simpa using h0
  have hE2 : (E != 0) = true := by simpa using h0
  (repeat' first
  | with_reducible first | exact ⟨⟩ | (refine Brg.mk ?_; intros) | refine Two.mk ?_ ?_
  | refine gs ?_
  | refine sx ?_)
  exact ⟨_, rfl, OwnWL.nil _ _⟩
 have hwq : Hid (∀ w', Ext w w' → Bl B w w' → B ≤ w'.heap.size → CallsV Tryz.prog 21 #[.agg (siteC u sd).toArray, .agg #[wv], .agg #[hv, rv], .agg #[sv, av], intV x] w' fun r w2 => Ext w' w2 ∧ ∃ v0, r = .tuple #[v0, intV 0] ∧ OwnW w'.heap.size v0 w2 (wldW e sd (l.map (·.x)) p y x)) := fun w' h1 h2 h3 => by
  have := ref21World (x := x) (B := B) h3 (hS _ h2) (hW _ h2) (hP _ h2) (hX _ h2) he'.out
  rwa [h0] at this
 simp only [h0, if_true]
 have KB := (obv.slN (f := stepC)).k (Nat.le_refl _)
 rw [show (fun x => Value.agg (stepC x).toArray) = stepV from rfl] at KB
 have bl1 : Bl w1.heap.size w1 w1 := Bl.refl (Nat.le_refl _)
 generalize backL e sd (l.map (·.x)) p y x = us at *
 generalize wldW e sd (l.map (·.x)) p y x = v at *
 clear obv h0
 (repeat' first
  | with_reducible first | exact ⟨⟩ | (refine Brg.mk ?_; intros) | refine Two.mk ?_ ?_
  | refine gs ?_
  | refine sx ?_)
 refine call_k (hwq.out _ FR FR FR) ?_
 rintro _ w2 n2 s2 ⟨v0, rfl, h0a, r0a, rfl, oh0, or0⟩
 have oh01 := oh0.one
 have or01 := or0.one
 have hohx : Hid (∀ w', Ext w2 w' → WorldR w' w'.heap.size h0a r0a v) := fun w' h => ⟨((oh0.ext h).slN (f := stateC)), ((or0.ext h).slN (f := replC))⟩
 clear oh0 or0 hwq
 (repeat' first
  | with_reducible first | exact ⟨⟩ | (refine Brg.mk ?_; intros) | refine Two.mk ?_ ?_
  | refine gs ?_
  | refine sx ?_)
 rename_i b15 wa na ka sa qa wb nb kb sb
 have hkb : Blk wb b15 36 [h0a, r0a] := kb.2.1 _ kb.2.2.1
 have r2 := Ext.refl w2
 have hXb : WorldR wb wb.heap.size h0a r0a v := hohx.out _ FR
 have hbl15 : b15 < wb.heap.size := hkb.lt
 have hwb : w.heap.size ≤ wb.heap.size := FR
 clear kb ka hohx
 refine loop_b b15 us.length (fun g0 k g w' => g 18 = .int .i64 (k : Int) ∧ (g 5 = g0 5 ∧ g 6 = g0 6 ∧ g 12 = g0 12 ∧ g 15 = g0 15) ∧ ∃ lv, g 17 = lv ∧ ∃ h r x ws, Blk w' b15 36 [h, r] ∧ WorldR w' w'.heap.size h r x ∧ OwnWL w' wb.heap.size lv ws ∧ Hid (WayAt sd (l.map (·.x)) us v k ws x)) KR (by omega) FR ?_ ?_ ?_
 ·(repeat' first
  | with_reducible first | exact ⟨⟩ | (refine Brg.mk ?_; intros) | refine Two.mk ?_ ?_
  | refine gs ?_
  | refine sx ?_)
  exact ⟨_, rfl, h0a, r0a, v, [], hkb, hXb, OwnWL.nil _ _, WayAt.start⟩
 ·clear hXb hkb
  rintro k m g wk hk hlt nk sk ck hbl hw ⟨hi, hf, lv, hlv, h, r, x, ws, hbk, hXw, hown, hp⟩
  simp (maxDischargeDepth := 3) only [U, ↓reduceIte, Nat.reduceEqDiff, *] at hf
  have kb15 := hbk.bk
  have hwk : w.heap.size ≤ wk.heap.size := FR
  have hwbk : wb.heap.size ≤ wk.heap.size := FR
  have hXk := (hXw.sk (Nat.le_refl _)).2.2.2.2
  have h7h := hXw.h.one
  have h7r := hXw.r.one
  have h7lv := hown.one
  have bwk : Bl wk.heap.size wk wk := Bl.refl (Nat.le_refl _)
  have hBk : B ≤ wk.heap.size := Nat.le_trans hB hwk
  have hAp := fun w' (h1 : Bl B w w') (h2 : Bl wk.heap.size wk w') (h3 : wk.heap.size ≤ w'.heap.size) => ref19Apply (st := us[k]) (B := wk.heap.size) h3 ((hS w' h1).up24 hBk) ((hW w' h1).up24 hBk) (hXk w' h2)
  have hwsl : ws.length < 1000000000000 := by rw [hp.out.l]; omega
  have hrun0 := fun e => hp.out.more hlt e
  have hrun1 := fun e => hp.out.stop hlt e
  generalize applyE sd (l.map (·.x)) x us[k] = E at *
  generalize applyW sd (l.map (·.x)) x us[k] = W' at *
  replace hrun0 : Hid _ := hrun0
  replace hrun1 : Hid _ := hrun1
  have hownx : Hid (∀ w', Ext wk w' → OwnWL w' wb.heap.size lv ws) := fun w' h => hown.ext h
  have rk := Ext.refl wk
  clear hp hXk hXw hown
  (repeat' first
  | ((with_reducible refine wpd_at 9 ?_); refine wpd_hold ?_)
  | with_reducible first | exact ⟨⟩ | (refine Brg.mk ?_; intros) | refine Two.mk ?_ ?_
  | refine gs ?_
  | refine sxRefW242 ?_)
  unfold wpdH
  refine wpd_relS 13 [(12, 11)] (fun iI s v w9 => match iI with
   | 0 => v = .agg (siteC u sd).toArray
   | 1 => v = .agg #[wv]
   | 2 => v = .agg #[h, r]
   | 3 => v = bv
   | 4 => v = .int .i64 (k : Nat)
   | 5 => v = elemAt bv 4 k
   | 6 => v = stepV us[k]
   | 7 => ∃ u, v = .tuple #[u, intV E] ∧ OwnW wk.heap.size u w9 W'
   | 8 => ∃ u, v = .tuple #[u, intV E] ∧ OwnW wk.heap.size u w9 W'
   | 9 => OwnW wk.heap.size v w9 W'
   | 10 => v = intV E
   | 11 => ∃ b, v = .pointer (some ⟨b, 0, none⟩) ∧ wk.heap.size ≤ b ∧ (s = false → Blk w9 b 36 [.slice none 0 0, .slice none 0 0]) ∧ (s = true → ∃ h r, Blk w9 b 36 [h, r] ∧ OwnH w9 wk.heap.size h W'.hosts ∧ OwnP w9 wk.heap.size r W'.replicas)
   | 12 => True
   | _ => False) KR KR KR KR ?_ ?_ ?_
  ·intro iI s v w1 w2 hR hx9
   match iI, hR with
   | 0, h => exact h
   | 1, h => exact h
   | 2, h => exact h
   | 3, h => exact h
   | 4, h => exact h
   | 5, h => exact h
   | 6, h => exact h
   | 7, h => exact (let ⟨u, e, o⟩ := h; ⟨u, e, o.ext hx9⟩)
   | 8, h => exact (let ⟨u, e, o⟩ := h; ⟨u, e, o.ext hx9⟩)
   | 9, h => exact OwnW.ext h hx9
   | 10, h => exact h
   | 11, ⟨b, e, h1, h2, h3⟩ => exact ⟨b, e, h1, fun hs => (h2 hs).ext hx9, fun hs => (fun h => (let ⟨a, b, k, o1, o2⟩ := h; ⟨a, b, k.ext hx9, o1.ext hx9, o2.ext hx9⟩)) (h3 hs)⟩
   | 12, h => exact h
  ·intro iI oO hi ho gF w9 S9 hx9 hdep hag
   have s9 := hx9.st
   have n9 : Now w9 := trivial
   have r9 := Ext.refl w9
   have z9 := hx9.size
   rcases iI with _|_|_|_|_|_|_|_|_|_|_|_|_|iI
   have e := Option.some.inj ho
   subst e
   have a5 := hag.at 5 KR
   simp only [S5, ↓reduceIte, Nat.reduceEqDiff, initF, *] at a5
   clear hag hdep ho
   refine ⟨fun _ => ?_, fun a9 pa da hal => by simp [alL] at hal⟩
   refine relStep_off rfl ?_
   rotate_left
   have e := Option.some.inj ho
   subst e
   have a6 := hag.at 6 KR
   simp only [S5, ↓reduceIte, Nat.reduceEqDiff, initF, *] at a6
   clear hag hdep ho
   refine ⟨fun _ => ?_, fun a9 pa da hal => by simp [alL] at hal⟩
   refine relStep_off rfl ?_
   rotate_left
   have e := Option.some.inj ho
   subst e
   have a15 := hag.at 15 KR
   simp only [S5, ↓reduceIte, Nat.reduceEqDiff, initF, *] at a15
   clear hag hdep ho
   refine ⟨fun _ => ?_, fun a9 pa da hal => by simp [alL] at hal⟩
   refine relStep_off rfl ?_
   rotate_left
   have e := Option.some.inj ho
   subst e
   have a12 := hag.at 12 KR
   simp only [S5, ↓reduceIte, Nat.reduceEqDiff, initF, *] at a12
   clear hag hdep ho
   refine ⟨fun _ => ?_, fun a9 pa da hal => by simp [alL] at hal⟩
   refine relStep_off rfl ?_
   rotate_left
   have e := Option.some.inj ho
   subst e
   have a18 := hag.at 18 KR
   simp only [S5, ↓reduceIte, Nat.reduceEqDiff, initF, *] at a18
   clear hag hdep ho
   refine ⟨fun _ => ?_, fun a9 pa da hal => by simp [alL] at hal⟩
   refine relStep_off rfl ?_
   rotate_left
   have e := Option.some.inj ho
   subst e
   have d3 : (gF 53) = bv := hdep ⟨3, .data⟩ (by simp) rfl _ _ rfl rfl
   have d4 : (gF 54) = .int .i64 (k : Nat) := hdep ⟨4, .data⟩ (by simp) rfl _ _ rfl rfl
   clear hag hdep ho
   refine ⟨fun _ => ?_, fun a9 pa da hal => by simp [alL] at hal⟩
   refine relStep_off rfl ?_
   rotate_left
   have e := Option.some.inj ho
   subst e
   have d5 : (gF 55) = elemAt bv 4 k := hdep ⟨5, .data⟩ (by simp) rfl _ _ rfl rfl
   clear hag hdep ho
   refine ⟨fun _ => ?_, fun a9 pa da hal => by simp [alL] at hal⟩
   refine relStep_off rfl ?_
   rotate_left
   have e := Option.some.inj ho
   subst e
   have d0 : (gF 50) = .agg (siteC u sd).toArray := hdep ⟨0, .data⟩ (by simp) rfl _ _ rfl rfl
   have d1 : (gF 51) = .agg #[wv] := hdep ⟨1, .data⟩ (by simp) rfl _ _ rfl rfl
   have d2 : (gF 52) = .agg #[h, r] := hdep ⟨2, .data⟩ (by simp) rfl _ _ rfl rfl
   have d6 : (gF 56) = stepV us[k] := hdep ⟨6, .data⟩ (by simp) rfl _ _ rfl rfl
   clear hag hdep ho
   refine ⟨fun _ => ?_, fun a9 pa da hal => by simp [alL] at hal⟩
   refine relStep_off rfl ?_
   rotate_left
   have e := Option.some.inj ho
   subst e
   have d7 : ∃ u, (gF 57) = .tuple #[u, intV E] ∧ OwnW wk.heap.size u w9 W' := hdep ⟨7, .data⟩ (by simp) rfl _ _ rfl rfl
   obtain ⟨u7, e7, o7⟩ := d7
   clear hag hdep ho
   refine ⟨fun _ => ?_, fun a9 pa da hal => by simp [alL] at hal⟩
   refine relStep_off rfl ?_
   rotate_left
   have e := Option.some.inj ho
   subst e
   have d8 : ∃ u, (gF 49) = .tuple #[u, intV E] ∧ OwnW wk.heap.size u w9 W' := hdep ⟨8, .data⟩ (by simp) rfl _ _ rfl rfl
   obtain ⟨u8, e8, o8⟩ := d8
   clear hag hdep ho
   refine ⟨fun _ => ?_, fun a9 pa da hal => by simp [alL] at hal⟩
   refine relStep_off rfl ?_
   rotate_left
   have e := Option.some.inj ho
   subst e
   have d8 : ∃ u, (gF 49) = .tuple #[u, intV E] ∧ OwnW wk.heap.size u w9 W' := hdep ⟨8, .data⟩ (by simp) rfl _ _ rfl rfl
   obtain ⟨u8, e8, o8⟩ := d8
   clear hag hdep ho
   refine ⟨fun _ => ?_, fun a9 pa da hal => by simp [alL] at hal⟩
   refine relStep_off rfl ?_
   rotate_left
   have e := Option.some.inj ho
   subst e
   clear hag hdep ho
   refine ⟨fun _ => ?_, fun a9 pa da hal => by simp [alL] at hal⟩
   refine relStep_off rfl ?_
   rotate_left
   have e := Option.some.inj ho
   subst e
   have d11 : ∃ b, (gF 19) = .pointer (some ⟨b, 0, none⟩) ∧ wk.heap.size ≤ b ∧ ((S9 11) = false → Blk w9 b 36 [.slice none 0 0, .slice none 0 0]) ∧ ((S9 11) = true → ∃ h r, Blk w9 b 36 [h, r] ∧ OwnH w9 wk.heap.size h W'.hosts ∧ OwnP w9 wk.heap.size r W'.replicas) := hdep ⟨11, .data⟩ (by simp) rfl _ _ rfl rfl
   obtain ⟨b11, e11, q11, hz11, _⟩ := d11
   have d9 : OwnW wk.heap.size (gF 58) w9 W' := hdep ⟨9, .data⟩ (by simp) rfl _ _ rfl rfl
   obtain ⟨h9, r9', e9, oh9, or9⟩ := d9
   have H9 := oh9.one
   have R9 := or9.one
   clear hag hdep ho
   refine ⟨fun h => by simp [alL] at h, fun a9 pa da hal hS9 hpa hda => ?_⟩
   obtain rfl : 11 = a9 := by simpa [alL] using hal
   obtain rfl := Option.some.inj hpa
   obtain rfl := Option.some.inj hda
   have hz := hz11 hS9
   clear hal hpa hda hz11
   refine relStep_off rfl ?_
   rotate_left
   ·omega
   all_goals (repeat' first
  | with_reducible first | exact ⟨⟩ | (refine Brg.mk ?_; intros) | refine Two.mk ?_ ?_
  | refine gs ?_
  | refine sxRefW242 ?_)
   all_goals first
    | (refine CallsV.mono (hAp _ FR FR FR) fun v w10 hh => ⟨hh.1, ?_⟩; obtain ⟨_, u0, rfl, ho⟩ := hh; exact ⟨u0, rfl, ho.more z9⟩)
    | (exact ⟨u7, rfl, o7⟩)
    | (exact o8)
    | (rename_i b10 w10 n10 k10 s10 q10; exact ⟨_, rfl, FR, fun _ => k10.2.1 _ k10.2.2.1, fun h => absurd h (by decide)⟩)
    | (
      refine stT_agg (w0 := w9) (vs := [h9, r9']) hz rfl KR rfl (by simp [H9, R9]) fun w10 hb10 hc => ⟨b11, hc, q11, ⟨b11, (by first | exact e11 | rfl), q11, fun h => absurd h (by decide), fun _ => ⟨h9, r9', hb10, oh9.fr hz hc (.inl (by decide)), or9.fr hz hc (.inl (by decide))⟩⟩, ?_⟩
      intro iI s v hne hR
      match iI, hR with
      | 0, h | 1, h | 2, h | 3, h | 4, h | 5, h | 6, h | 10, h | 12, h => exact h
      | 7, h => exact (let ⟨u, e, o⟩ := h; ⟨u, e, ownW_fr24 o hz hc⟩)
      | 8, h => exact (let ⟨u, e, o⟩ := h; ⟨u, e, ownW_fr24 o hz hc⟩)
      | 9, h => exact ownW_fr24 h hz hc
      | 11, _ => exact absurd rfl hne)
  ·intro g9 w9 hx9 hR hag
   have s9 := hx9.st
   have n9 : Now w9 := trivial
   have r9 := Ext.refl w9
   have z9 := hx9.size
   have d10 : (g9 59) = intV E := hR 10 _ _ (by decide) rfl rfl
   have d11 : ∃ b, (g9 19) = .pointer (some ⟨b, 0, none⟩) ∧ wk.heap.size ≤ b ∧ (true = false → Blk w9 b 36 [.slice none 0 0, .slice none 0 0]) ∧ (true = true → ∃ h r, Blk w9 b 36 [h, r] ∧ OwnH w9 wk.heap.size h W'.hosts ∧ OwnP w9 wk.heap.size r W'.replicas) := hR 11 _ _ (by decide) rfl rfl
   obtain ⟨b11, e11, q11, _, f11⟩ := d11
   replace f11 := f11 rfl
   have nw11 := Nw.of q11
   obtain ⟨hA, rA, kwA, ohA, orA⟩ := f11
   have KWA := kwA.bk
   have HAone := ohA.one
   have RAone := orA.one
   have a5 := hag.at 5 KR
   have a6 := hag.at 6 KR
   have a12 := hag.at 12 KR
   have a15 := hag.at 15 KR
   have a17 := hag.at 17 KR
   have a18 := hag.at 18 KR
   simp only [S5, ↓reduceIte, Nat.reduceEqDiff, initF, *] at a5 a6 a12 a15 a17 a18
   clear hag hR
   simp only [List.drop_succ_cons, List.drop_zero]
   have hkA : Blk w9 b15 36 [h, r] := kb15.2.1 _ FR
   have cA : Cg b15 w9 w9 := Chg.refl' w9 b15
   have F1 : Hid (OwnWL w9 wb.heap.size lv ws ∧ OwnH w9 wb.heap.size hA W'.hosts ∧ OwnP w9 wb.heap.size rA W'.replicas) := ⟨hownx.out _ hx9, ohA.more hwbk, orA.more hwbk⟩
   clear ohA orA
   by_cases hE0 : E = 0
   ·subst hE0
    have hrn := hrun0.out rfl
    replace hrn : Hid _ := hrn
    clear hApp hAp hrun1 hrun0 hownx
    (repeat' first
  | with_reducible first | exact ⟨⟩ | (refine Brg.mk ?_; intros) | refine Two.mk ?_ ?_
  | refine gs ?_
  | refine sx ?_)
    rename_i wz nz kz sz b10 w10 n10 k10 s10 q10
    have cz : Cg b15 w9 wz := FR
    have rz := Ext.refl wz
    have hxz : Ext wz w10 := FR
    have F2 : OwnWL wz wb.heap.size lv ws ∧ OwnH wz wb.heap.size hA W'.hosts ∧ OwnP wz wb.heap.size rA W'.replicas := ⟨OwnWL.fr F1.out.1 hkA cz hbl15, F1.out.2.1.fr hkA cz (.inl (by decide)), F1.out.2.2.fr hkA cz (.inl (by decide))⟩
    have hlvlt : Hid (∀ c, lv.ownBlock = some c → wb.heap.size ≤ c) := fun c hc => by obtain ⟨us', _, h4, _⟩ := F2.1; exact (h4.lt c hc).1
    refine appW (F2.1.ext hxz) (F2.2.1.ext hxz) (F2.2.2.ext hxz) (k10.2.1 _ FR) hwsl FR fun v' w11 n11 s11 hO hOh hOr hkeep => ?_
    have kwB : Blk w11 b15 36 [hA, rA] := by
     have h1 : Blk w10 b15 36 [hA, rA] := kz.2.1 _ FR
     refine (hkeep b15 h1.lt fun e => ?_).trans h1
     have := hlvlt.out _ e.symm
     omega
    have F : Hid (OwnWL w11 wb.heap.size v' (ws ++ [W']) ∧ WorldR w11 w11.heap.size hA rA W' ∧ Blk w11 b15 36 [hA, rA]) := ⟨hO, ⟨hOh.slN (f := stateC), hOr.slN (f := replC)⟩, kwB⟩
    have c11 : Cg b15 wb w11 := FR
    clear hO hOh hOr hkeep F2 kwB
    (repeat' first
  | with_reducible first | exact ⟨⟩ | (refine Brg.mk ?_; intros) | refine Two.mk ?_ ?_
  | refine gs ?_
  | refine sx ?_)
    refine next_b hk hlt ?_ FR
    (repeat' first
  | with_reducible first | exact ⟨⟩ | (refine Brg.mk ?_; intros) | refine Two.mk ?_ ?_
  | refine gs ?_
  | refine sx ?_)
    exact ⟨_, rfl, hA, rA, W', _, F.out.2.2, F.out.2.1, F.out.1, hrn.out⟩
   ·have hE1 : (E == 0) = false := by simpa using hE0
    have hE2 : (E != 0) = true := by simpa using hE0
    have hst9 := hrun1.out hE0
    rw [hst9]
    simp only [Bool.false_eq_true, if_false]
    clear hApp hAp hrun1 hrun0 hst9 hownx
    (repeat' first
  | with_reducible first | exact ⟨⟩ | (refine Brg.mk ?_; intros) | refine Two.mk ?_ ?_
  | refine gs ?_
  | refine sx ?_)
    exact ⟨_, rfl, OwnWL.nil _ _⟩
 ·rintro g wk nk sk ck hbl ⟨hi, hf, lv, hlv, h, r, x, ws, hbk, hXw, hown, hp⟩
  simp (maxDischargeDepth := 3) only [U, ↓reduceIte, Nat.reduceEqDiff, *] at hf
  rw [hp.out.done]
  simp only [if_true]
  have hownx : Hid (∀ w', Ext wk w' → OwnWL w' wb.heap.size lv ws) := fun w' h => hown.ext h
  have rk := Ext.refl wk
  have h7lv := hown.one
  clear hApp hown hp hXw
  (repeat' first
  | with_reducible first | exact ⟨⟩ | (refine Brg.mk ?_; intros) | refine Two.mk ?_ ?_
  | refine gs ?_
  | refine sx ?_)
  exact ⟨_, rfl, (hownx.out _ FR).more hwb⟩
theorem ref24Left {x e : Int} (hB : B ≤ w.heap.size) (hs : SiteR w B u sd) (hl : WishR w B wv l) (hpl : PlanR w B sv av vs p) (hx0 : WorldR w B hv rv y) (he : planErr sd (l.map (·.x)) p = e) :
  CallsV Tryz.prog 17 #[.agg (siteC u sd).toArray, .agg #[wv], .agg #[hv, rv], .agg #[sv, av], intV x] w fun r w' => Ext w w' ∧ ∃ v0, r = .tuple #[v0, intV (wldE e sd (l.map (·.x)) p y x)] ∧ OwnW w.heap.size v0 w' (leftW e sd (l.map (·.x)) p y x) := by
 have hn : Now w := trivial
 have hx : Ext w w := Ext.refl w
 have hs' := hs.sk hB
 have hl' := hl.sk hB
 have hp' := hpl.sk hB
 have hx' := hx0.sk hB
 have hS := hs'.2.2.2.2.2.2
 have hW := hl'.2.2
 have hP := hp'.2.2.2.2.2.2
 have hst := hp'.1
 have hX := hx'.2.2.2.2
 have hbw : Bl B w w := Bl.refl hB
 have hsv1 := hpl.s.one
 have hstf := hpl.s.fk
 have hav1 := hp'.2.2.2.2.1
 have hh1 := hx0.h.one
 have hr1 := hx0.r.one
 have hlf := fun h0 => left_facts (x := x) (y := y) he h0
 replace hlf : Hid _ := hlf
 have he' : Hid (planErr sd (l.map (·.x)) p = e) := he
 unfold leftW
 clear he hpl hx0 hp' hx' hs' hl'
 (refine callsV_of Tryz.func17 rfl KR KR ?_; rw [Tryz.results17])
 (repeat' first
  | with_reducible first | exact ⟨⟩ | (refine Brg.mk ?_; intros) | refine Two.mk ?_ ?_
  | refine gs ?_
  | refine sxRefW240 ?_)
 rename_i b5 w5 n5 k5 s5 q5 b6 w6 n6 k6 s6 q6 b7 w7 n7 k7 s7 q7 b8 w8 n8 k8 s8 q8 b10 w10 n10 k10 s10 q10
 refine call_k (ref21World (x := x) (B := B) FR (hS _ FR) (hW _ FR) (hP _ FR) (hX _ FR) he'.out) ?_
 rintro _ w1 n1 s1 ⟨v0, rfl, h0a, r0a, rfl, oh0, or0⟩
 have oh01 := oh0.one
 have or01 := or0.one
 by_cases h0 : wldE e sd (l.map (·.x)) p y x = 0
 rotate_left
 ·simp only [if_neg h0]
  clear hlf oh0 or0
  generalize wldE e sd (l.map (·.x)) p y x = E at *
  have hE1 : (E == 0) = false := by simpa using h0
  have hE2 : (E != 0) = true := by simpa using h0
  (repeat' first
  | with_reducible first | exact ⟨⟩ | (refine Brg.mk ?_; intros) | refine Two.mk ?_ ?_
  | refine gs ?_
  | refine sx ?_)
  exact ⟨_, rfl, OwnW.none _ _⟩
 obtain ⟨rfl, ⟨hx00, hx4⟩, hst12, hVl, hph, hv0⟩ := hlf.out h0
 simp only [h0, if_true]
 obtain ⟨xn, rfl⟩ : ∃ xn : Nat, x = (xn : Int) := ⟨x.toNat, by omega⟩
 rw [Int.toNat_natCast] at hx4
 simp only [Int.toNat_natCast]
 generalize wldW 0 sd (l.map (·.x)) p y xn = vw at *
 obtain ⟨hlh, hlr⟩ := valid_len24 hv0
 have KV : WorldR w1 w1.heap.size h0a r0a vw := ⟨oh0.slN (f := stateC), or0.slN (f := replC)⟩
 have KV' := KV.sk (Nat.le_refl _)
 have b1 : Bl w1.heap.size w1 w1 := Bl.refl (Nat.le_refl _)
 have hVl' : Hid (vw.hosts.length = y.hosts.length) := hVl
 have hph' : Hid _ := hph
 have h0' : Hid _ := h0
 have hv0' : Hid _ := hv0
 clear oh0 or0 hlf KV hVl hph h0 hv0
 (repeat' first
  | with_reducible first | exact ⟨⟩ | (refine Brg.mk ?_; intros) | refine Two.mk ?_ ?_
  | refine gs ?_
  | refine sx ?_)
 rename_i b12 w12 n12 k12 s12 q12 wk nk kk sk
 have hwk : w.heap.size ≤ wk.heap.size := FR
 have bwk : Bl wk.heap.size wk wk := Bl.refl (Nat.le_refl _)
 refine call_k (ref13Copy (B := B) FR (hX _ FR) ⟨by omega, by omega⟩) ?_
 rintro _ w9 n9 s9 ⟨a6, b6', rfl, oa, ob⟩
 have HA := oa.one
 have HB := ob.one
 have hoa : Hid (∀ w', Ext w9 w' → OwnH w' wk.heap.size a6 y.hosts) := fun w' h => oa.ext h
 have hob : Hid (∀ w', Ext w9 w' → OwnP w' wk.heap.size b6' y.replicas) := fun w' h => ob.ext h
 have r9 := Ext.refl w9
 clear oa ob
 (repeat' first
  | with_reducible first | exact ⟨⟩ | (refine Brg.mk ?_; intros) | refine Two.mk ?_ ?_
  | refine gs ?_
  | refine sx ?_)
 rename_i b7 w14 n14 k14 s14 q14 wb nb kb sb
 have hkp : Kp b7 wb wb := kb.2.2.1
 have hbl : Bl wk.heap.size wk wb := FR
 have hbk := kb.2.1
 have J0 : Hid (OwnH wb wk.heap.size a6 (leftN xn vw p.steps y.hosts 0) ∧ OwnP wb wk.heap.size b6' y.replicas) := ⟨hoa.out _ FR, hob.out _ FR⟩
 clear hoa hob k14
 refine loop_g p.steps.length (fun g0 j g w' => g 15 = .int .i64 j ∧ (g 4 = g0 4 ∧ g 8 = g0 8 ∧ g 10 = g0 10 ∧ g 12 = g0 12 ∧ g 14 = g0 14) ∧ Hid (OwnH w' wk.heap.size a6 (leftN xn vw p.steps y.hosts j) ∧ OwnP w' wk.heap.size b6' y.replicas ∧ Bl wk.heap.size wk w' ∧ Kp b7 wb w')) KR ?_ ?_ ?_
 ·(repeat' first
  | with_reducible first | exact ⟨⟩ | (refine Brg.mk ?_; intros) | refine Two.mk ?_ ?_
  | refine gs ?_
  | refine sx ?_)
  all_goals exact ⟨J0.out.1, J0.out.2, hbl, hkp⟩
 ·rintro j mj gj wj hj hjt nj ⟨hij, hfj, hJj⟩
  simp (maxDischargeDepth := 3) only [U, ↓reduceIte, Nat.reduceEqDiff, *] at hfj
  obtain ⟨hoo, oro, hblj, hkpj⟩ := hJj.out
  have sa1 := sa_of hblj.2
  have hin := fun w' => ref20In (w := w') (set := xn) (i := j) hx4 (by omega)
  have hwj : IntKind.i64.wrap ((j : Int) + 1) = ((j + 1 : Nat) : Int) := by rw [wrap_i64_id] <;> omega
  obtain ⟨f1, f2, f3, f4, f5, f6, f7, f8⟩ := (hoo.slN (f := stateC)).v (Nat.le_refl _)
  rw [leftN_len] at f3
  obtain ⟨h, hh⟩ : ∃ h : Nat, p.steps[j].host = (h : Int) := ⟨p.steps[j].host.toNat, by have := (hph'.out j hjt).1; omega⟩
  have hhy : h < y.hosts.length := by have := (hph'.out j hjt).2; omega
  have hhV : h < vw.hosts.length := by rw [hVl'.out]; exact hhy
  have hhyI : ((h : Nat) : Int) < ((y.hosts.length : Nat) : Int) := by omega
  have hhVI : ((h : Nat) : Int) < ((vw.hosts.length : Nat) : Int) := by omega
  have hoox : Hid (∀ w', Ext wj w' → OwnH w' wk.heap.size a6 (leftN xn vw p.steps y.hosts j)) := fun w' h => hoo.ext h
  have orox : Hid (∀ w', Ext wj w' → OwnP w' wk.heap.size b6' y.replicas) := fun w' h => oro.ext h
  have hnx : Hid (xn.testBit j = true → p.steps[j].kind = 7 → ∃ h1' : h < (leftN xn vw p.steps y.hosts j).length, leftN xn vw p.steps y.hosts (j + 1) = (leftN xn vw p.steps y.hosts j).set h ⟨(leftN xn vw p.steps y.hosts j)[h].phase, vw.hosts[h].firmware⟩) := fun hb h7 => left_next hjt hb h7 hh hhy hhV
  have hsame : Hid (¬ (xn.testBit j = true ∧ p.steps[j].kind = 7) → leftN xn vw p.steps y.hosts (j + 1) = leftN xn vw p.steps y.hosts j) := fun hb => left_same hjt hb
  have hptr := ((hoo.slN (f := stateC)).fv).1 h (by rw [leftN_len]; exact hhy)
  have rj := Ext.refl wj
  have hb14 : b7 < wj.heap.size := hkpj.lt
  clear f6 f7 hoo oro hJj
  cases hb : xn.testBit j
  ·rw [hb] at hin
   have hsm := hsame.out (by simp [hb])
   clear hnx hsame
   (repeat' first
  | with_reducible first | exact ⟨⟩ | (refine Brg.mk ?_; intros) | refine Two.mk ?_ ?_
  | refine gs ?_
  | ((with_reducible refine at_f 44 ?_); refine ret_k (hin _) fun _ _ _ => ?_)
  | refine sxRefW243 ?_)
   refine next_g hj hjt ?_
   (repeat' first
  | with_reducible first | exact ⟨⟩ | (refine Brg.mk ?_; intros) | refine Two.mk ?_ ?_
  | refine gs ?_
  | refine sx ?_)
   exact ⟨hoox.out _ FR, orox.out _ FR⟩
  ·rw [hb] at hin
   by_cases h7 : p.steps[j].kind = 7
   rotate_left
   ·have hsm := hsame.out (fun h => h7 h.2)
    have h7' : (p.steps[j].kind == 7) = false := by simpa using h7
    clear hnx hsame
    (repeat' first
  | with_reducible first | exact ⟨⟩ | (refine Brg.mk ?_; intros) | refine Two.mk ?_ ?_
  | refine gs ?_
  | ((with_reducible refine at_f 44 ?_); refine ret_k (hin _) fun _ _ _ => ?_)
  | refine sxRefW243 ?_)
    refine next_g hj hjt ?_
    (repeat' first
  | with_reducible first | exact ⟨⟩ | (refine Brg.mk ?_; intros) | refine Two.mk ?_ ?_
  | refine gs ?_
  | refine sx ?_)
    exact ⟨hoox.out _ FR, orox.out _ FR⟩
   obtain ⟨h1', hnxt⟩ := hnx.out hb h7
   have hnxt' : Hid _ := hnxt
   clear hnxt hnx hsame
   (repeat' first
  | ((with_reducible refine wpd_at 9 ?_); refine wpd_tail 21 KR KR KR ?_)
  | with_reducible first | exact ⟨⟩ | (refine Brg.mk ?_; intros) | refine Two.mk ?_ ?_
  | refine gs ?_
  | ((with_reducible refine at_f 44 ?_); refine ret_k (hin _) fun _ _ _ => ?_)
  | simp (maxDischargeDepth := 3) only [↓X, ↓Y, ↓Q, S1, ↓reduceIte, Nat.reduceEqDiff, Nat.reduceAdd, Int.reduceLT, Int.reduceLE, Int.reduceNeg, Int.reduceBEq, Int.reduceBNe, Int.reduceEq, Nat.reduceLeDiff, Nat.reduceMul, Nat.reduceLT, *, stateV, stateC, stepV, stepC]
  | simp (singlePass := true) (maxDischargeDepth := 99) only [*, S2, Nat.reduceLT, stateV, stateC, stepV, stepC])
   rename_i wd nd sd9
   have hoc := hoox.out wd FR
   have orc := orox.out wd FR
   have hbld : Bl wk.heap.size wk wd := FR
   have hkpd : Kp b7 wb wd := FR
   have hb18 := hbk _ hkpd
   refine own_set1 (i := h) (off := 1) KR hoc (by simpa using h1') (by decide) rfl fun b' w9' n9' e9 hb9 hl9 hown9 s9' c9 => ?_
   have hnew : OwnH w9' wk.heap.size a6 (leftN xn vw p.steps y.hosts (j + 1)) := by
    have h8 := hown9
    simp only [List.getElem_map, stateC, List.set_cons_succ, List.set_cons_zero] at h8
    rw [hnxt'.out]
    show Own w9' wk.heap.size _ 2 a6 (((leftN xn vw p.steps y.hosts j).set h ⟨(leftN xn vw p.steps y.hosts j)[h].phase, vw.hosts[h].firmware⟩).map stateC)
    rw [List.map_set]
    exact h8
   have hrp : OwnP w9' wk.heap.size b6' y.replicas := orc.chg c9 (by rw [← orc.block]; exact own_ne hoc orc (by decide) e9)
   have hbl9 : Bl wk.heap.size wk w9' := hbld.chg c9 hb9
   have hne9 : ¬ b7 = b' := fun e => hoc.ne hb18 (by decide) (by rw [← hoc.block, e9, e])
   have hkp9 : Kp b7 wb w9' := hkpd.chg c9 hne9
   have J9 : Hid (OwnH w9' wk.heap.size a6 (leftN xn vw p.steps y.hosts (j + 1)) ∧ OwnP w9' wk.heap.size b6' y.replicas) := ⟨hnew, hrp⟩
   clear e9 hown9 hnew hoc orc hrp hoox orox hptr hb18
   (repeat' first
  | with_reducible first | exact ⟨⟩ | (refine Brg.mk ?_; intros) | refine Two.mk ?_ ?_
  | refine gs ?_
  | refine sx ?_)
   refine next_g hj hjt ?_
   (repeat' first
  | with_reducible first | exact ⟨⟩ | (refine Brg.mk ?_; intros) | refine Two.mk ?_ ?_
  | refine gs ?_
  | refine sx ?_)
   all_goals exact ⟨J9.out.1, J9.out.2, hbl9, hkp9⟩
 ·rintro gj wj nj ⟨hij, hfj, hJj⟩
  simp (maxDischargeDepth := 3) only [U, ↓reduceIte, Nat.reduceEqDiff, *] at hfj
  obtain ⟨hoo, oro, hblj, hkpj⟩ := hJj.out
  have sa1 := sa_of hblj.2
  have hb14 : b7 < wj.heap.size := hkpj.lt
  have oA := hoo.o
  have oB := oro.o
  have hnl : ¬ p.steps.length < p.steps.length := Nat.lt_irrefl _
  clear hoo oro hJj
  (repeat' first
  | with_reducible first | exact ⟨⟩ | (refine Brg.mk ?_; intros) | refine Two.mk ?_ ?_
  | refine gs ?_
  | refine sx ?_)
  exact ⟨_, rfl, _, _, rfl, Own.more (oA.1 _ FR) hwk, Own.more (oB.1 _ FR) hwk⟩
end
end Go.Proofs.YtphciegaokdolaaGreatDoor
