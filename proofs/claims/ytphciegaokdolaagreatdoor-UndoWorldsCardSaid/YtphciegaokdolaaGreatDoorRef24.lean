/- The document's answer, layer 24: Back. -/
import Derived.Test.YtphciegaokdolaaGreatDoorRowG24
import Derived.Test.YtphciegaokdolaaGreatDoorRef21
import Derived.Test.YtphciegaokdolaaGreatDoorRef19
namespace Go.Proofs.YtphciegaokdolaaGreatDoor
set_option linter.unusedSimpArgs false
set_option linter.unusedVariables false
open Go Go.RowKit
set_option maxRecDepth 100000
set_option linter.unusedSectionVars false
set_option maxHeartbeats 2000000
theorem sxRef241 {p q : Prop} (hq : q) (h : p = q := by first | (simp (maxDischargeDepth := 3) only [↓X, ↓Y, ↓Q, S1, ↓reduceIte, Nat.reduceEqDiff, Nat.reduceAdd, Int.reduceLT, Int.reduceLE, Int.reduceNeg, Int.reduceBEq, Int.reduceBNe, Int.reduceEq, Nat.reduceLeDiff, Nat.reduceMul, Nat.reduceLT, *, siteC, stepV, stepC]; try exact rfl) | (simp (singlePass := true) (maxDischargeDepth := 99) only [*, S2, Nat.reduceLT, siteC, stepV, stepC]; try exact rfl)) : p := h ▸ hq
theorem sxRef242 {p q : Prop} (hq : q) (h : p = q := by first | (simp (maxDischargeDepth := 3) only [↓X, ↓Y, ↓Q, S1, ↓reduceIte, Nat.reduceEqDiff, Nat.reduceAdd, Int.reduceLT, Int.reduceLE, Int.reduceNeg, Int.reduceBEq, Int.reduceBNe, Int.reduceEq, Nat.reduceLeDiff, Nat.reduceMul, Nat.reduceLT, *, siteC, stepV, stepC, wC]; try exact rfl) | (simp (singlePass := true) (maxDischargeDepth := 99) only [*, S2, Nat.reduceLT, siteC, stepV, stepC, wC]; try exact rfl)) : p := h ▸ hq
/-- A world that was handed in, and worlds of one's own behind it, in a row of one's own. -/
def OwnWL1 (w : World) (B : Nat) (v hv rv : Value) (ws : List WorldD) : Prop := ∃ us : List (Value × Value), us.length = ws.length ∧ Own w B 36 2 v (((hv, rv) :: us).map wC) ∧ ∀ i (h : i < us.length), OwnH w B us[i].1 (ws.getD i noW).hosts ∧ OwnP w B us[i].2 (ws.getD i noW).replicas
section
variable {w w' : World} {B B' b : Nat} {v hv rv : Value} {ws : List WorldD}
theorem OwnWL1.ext (h : OwnWL1 w B v hv rv ws) (hx : Ext w w') : OwnWL1 w' B v hv rv ws := by
 obtain ⟨us, h1, h2, h3⟩ := h
 exact ⟨us, h1, h2.ext hx, fun i hi => ⟨(h3 i hi).1.ext hx, (h3 i hi).2.ext hx⟩⟩
theorem OwnWL1.one (h : OwnWL1 w B v hv rv ws) : v.oneCell' = true := by
 obtain ⟨us, h1, h2, h3⟩ := h
 exact h2.one
theorem appW1 {cp : Nat} {s h r : Value} {x : WorldD} {k : Value → World → Prop} (hown : OwnWL1 w B s hv rv ws) (hh : OwnH w B h x.hosts) (hr : OwnP w B r x.replicas) (hb : Blk w b 36 [h, r]) (hbound : ws.length < 1000000000) (hB : B ≤ w.heap.size)
  (hk : ∀ v' w', Now w' → Sa B w w' → OwnWL1 w' B v' hv rv (ws ++ [x]) → k v' w') : appX Tryz.prog 50 50 50 s (.slice (some ⟨b, 0, none⟩) 1 cp) w k := by
 obtain ⟨us, h1, h2, h3⟩ := hown
 refine append_row (e := 36) (sz := 2) (by_ := 48) (z := .agg #[.slice none 0 0, .slice none 0 0]) (ns := [[h, r]]) KR KR rfl (by decide) h2 (by simpa using hb) (by simp) (by simp [hh.one, hr.one]) rfl ?_ hB fun v' w' ho hg hbl hd => ?_
 ·simp only [List.length_map, List.length_cons, List.length_nil, Nat.zero_add]
  omega
 ·have kh := own_grown h2 hg (by decide) hh
  have kr := own_grown h2 hg (by decide) hr
  refine hk v' w' trivial (sa_of hbl) ⟨us ++ [(h, r)], by simp [h1], by simpa [wC] using ho, fun i hi => ?_⟩
  by_cases hlt : i < us.length
  ·rw [List.getElem_append_left hlt]
   have hil : i < ws.length := by omega
   have e : (ws ++ [x]).getD i noW = ws.getD i noW := by simp [List.getD_eq_getElem?_getD, List.getElem?_append_left hil]
   rw [e]
   exact ⟨own_grown h2 hg (by decide) (h3 i hlt).1, own_grown h2 hg (by decide) (h3 i hlt).2⟩
  ·have hie : i = us.length := by simp at hi; omega
   subst hie
   rw [List.getElem_append_right (Nat.le_refl _)]
   have e : (ws ++ [x]).getD us.length noW = x := by simp [List.getD_eq_getElem?_getD, h1]
   rw [e]
   simp only [Nat.sub_self, List.getElem_cons_zero]
   exact ⟨kh, kr⟩
/-- An element of such a row. -/
theorem OwnWL1.at_ {y : WorldD} {Bx : Nat} (h : OwnWL1 w B v hv rv ws) (hx : WorldR w Bx hv rv y) (hBx : Bx ≤ w.heap.size) : ∃ us : List (Value × Value), us.length = ws.length + 1 ∧ Sl w w.heap.size (some 2) 2 v (us.map fun u => .agg (wC u).toArray) ∧ ∀ i (h : i < us.length), WorldR w w.heap.size us[i].1 us[i].2 ((y :: ws).getD i noW) := by
 obtain ⟨us, h1, h2, h3⟩ := h
 refine ⟨(hv, rv) :: us, by simp [h1], h2.slN (f := wC), fun i hi => ?_⟩
 cases i with
 | zero => exact ⟨hx.h.more hBx, hx.r.more hBx⟩
 | succ i =>
  have hi' : i < us.length := by simpa using hi
  obtain ⟨a1, a2⟩ := h3 i hi'
  exact ⟨a1.slN (f := stateC), a2.slN (f := replC)⟩
end
def seen24 (n : Nat) (P : List Nat) : List Value := (List.range n).map fun x => .bool (decide (x ∈ P))
theorem seen24_len (n : Nat) (P : List Nat) : (seen24 n P).length = n := by simp [seen24]
theorem seen24_get {n x : Nat} {P : List Nat} (h : x < n) : (seen24 n P)[x]? = some (.bool (decide (x ∈ P))) := by
 simp [seen24, List.getElem?_map, List.getElem?_range h]
theorem seen24_zero (n : Nat) : List.replicate n (Value.bool false) = seen24 n [] := by
 simp [seen24, List.map_const']
theorem seen24_set {n x : Nat} {P : List Nat} {is : Bool} (hx : x ∉ P) : (seen24 n P).set x (.bool is) = seen24 n (P ++ if is = true then [x] else []) := by
 apply List.ext_getElem
 ·simp [seen24]
 ·intro i h1 h2
  rw [List.getElem_set]
  simp only [seen24, List.getElem_map, List.getElem_range]
  cases is
  ·split
   ·rename_i e; subst e; simp [hx]
   ·simp
  ·split
   ·rename_i e; simp [e]
   ·rename_i e
    have : i ≠ x := fun h => e h.symm
    simp [this]
theorem lastS_sub {s : SiteD} {wl : List ServiceD} {steps : List StepD} {bs : List WorldD} {xs : List (Nat × Nat)} {z : Nat} (h : z ∈ lastS s wl steps bs xs) : ∃ q ∈ xs, q.2 = z := by
 unfold lastS at h
 obtain ⟨q, hq, e⟩ := List.mem_map.1 h
 exact ⟨q, (List.mem_filter.1 hq).1, e⟩
/-- A place that comes now is not among those before. -/
theorem last_new {s : SiteD} {wl : List ServiceD} {steps : List StepD} {bs : List WorldD} {L : List Nat} (hn : L.Nodup) {k : Nat} (hk : k < L.length) : L.getD (L.length - 1 - k) 0 ∉ lastS s wl steps bs ((xsL L).take k) := fun h => by
 obtain ⟨q, hq, e⟩ := lastS_sub h
 obtain ⟨i, hi, rfl⟩ := List.mem_iff_getElem.1 hq
 have hi2 : i < k ∧ i < (xsL L).length := by rw [List.length_take] at hi; omega
 rw [List.getElem_take, xsL_get hi2.2] at e
 rw [xsL_len] at hi2
 have hj : L.length - 1 - i < L.length := by omega
 have hj2 : L.length - 1 - k < L.length := by omega
 simp only [List.getD_eq_getElem?_getD, List.getElem?_eq_getElem hj, List.getElem?_eq_getElem hj2, Option.getD_some] at e
 have := (List.getElem_inj hn).1 e
 omega
theorem places_eq {P : List Nat} {n : Nat} (hn : P.Nodup) (hP : ∀ x ∈ P, x < n) : (intL ((List.range n).filter fun x => decide (x ∈ P))) = sortI (intL P) := by
 have h1 : (sortI (intL P)).Perm (intL P) := List.mergeSort_perm ..
 have h2 : (intL P).Nodup := by
  rw [intL, List.nodup_iff_pairwise_ne, List.pairwise_map]
  exact (List.nodup_iff_pairwise_ne.1 hn).imp fun h e => h (by omega)
 have h3 : (sortI (intL P)).Pairwise (· ≤ ·) := by
  have := List.pairwise_mergeSort (le := fun x y : Int => decide (x ≤ y)) (fun a b c h1 h2 => by simp at *; omega) (fun a b => by simp; omega) (intL P)
  exact this.imp fun h => by simpa using h
 have h4 : (sortI (intL P)).Nodup := h1.nodup_iff.2 h2
 refine asc_eq ?_ ?_ fun x => ?_
 ·rw [intL, List.pairwise_map]
  exact (List.Pairwise.filter _ List.pairwise_lt_range).imp fun h => by omega
 ·exact h3.imp₂ (fun a b h1 h2 => by omega) (List.nodup_iff_pairwise_ne.1 h4)
 ·rw [h1.mem_iff]
  simp only [intL, List.mem_map, List.mem_filter, List.mem_range, decide_eq_true_eq]
  constructor
  ·rintro ⟨a, ⟨_, h⟩, e⟩; exact ⟨a, h, e⟩
  ·rintro ⟨a, h, e⟩; exact ⟨a, ⟨hP a h, h⟩, e⟩
end Go.Proofs.YtphciegaokdolaaGreatDoor
/- The document's answer, layer 24: Back, walked. -/
namespace Go.Proofs.YtphciegaokdolaaGreatDoor
set_option linter.unusedSimpArgs false
set_option linter.unusedVariables false
open Go Go.RowKit
set_option maxRecDepth 100000
set_option linter.unusedSectionVars false
set_option maxHeartbeats 2000000
theorem xs_snd {L : List Nat} : (xsL L).map (·.2) = L.reverse := by
 apply List.ext_getElem
 ·simp [xsL]
 ·intro i h1 h2
  rw [List.length_map, xsL_len] at h1
  have hj : L.length - 1 - i < L.length := by omega
  rw [List.getElem_map, xsL_get, List.getElem_reverse]
  simp only [List.getD_eq_getElem?_getD, List.getElem?_eq_getElem hj, Option.getD_some]
theorem last_nodup {s : SiteD} {wl : List ServiceD} {steps : List StepD} {bs : List WorldD} {L : List Nat} (hn : L.Nodup) : (lastS s wl steps bs (xsL L)).Nodup := by
 have h : (lastS s wl steps bs (xsL L)).Sublist ((xsL L).map (·.2)) := List.Sublist.map _ List.filter_sublist
 rw [xs_snd] at h
 exact h.nodup ((List.reverse_perm L).nodup_iff.2 hn)
theorem last_lt {s : SiteD} {wl : List ServiceD} {steps : List StepD} {bs : List WorldD} {L : List Nat} {n : Nat} (hL : ∀ i ∈ L, i < n) : ∀ z ∈ lastS s wl steps bs (xsL L), z < n := fun z hz => by
 obtain ⟨q, hq, rfl⟩ := lastS_sub hz
 have : q.2 ∈ (xsL L).map (·.2) := List.mem_map.2 ⟨q, hq, rfl⟩
 rw [xs_snd] at this
 exact hL _ (List.mem_reverse.1 this)
theorem blk_grownT {w w' : World} {B e sz c T : Nat} {s : Value} {cs : List (List Value)} {z : List Value} (h : Own w B e sz s cs) (hg : w.grownBy w' s.ownBlock) (hb : Blk w c T z) (hne : T ≠ e) : Blk w' c T z :=
 (hg.block c hb.lt fun e1 => by
  obtain ⟨cur, h1⟩ := h.obj24 e1.symm
  have h2 : w.heap[c]? = _ := hb
  rw [h1] at h2
  cases h2
  exact hne rfl).trans hb
theorem ext_grown {a w w' : World} {B e sz : Nat} {s : Value} {cs : List (List Value)} (hx : Ext a w) (h : Own w B e sz s cs) (hg : w.grownBy w' s.ownBlock) (hB : a.heap.size ≤ B) : Ext a w' :=
 ⟨hg.os.trans hx.os, hg.tape.trans hx.tape, hg.output.trans hx.output, Nat.le_trans hx.size hg.size, fun k hk => (hg.block k (Nat.lt_of_lt_of_le hk hx.size) fun e1 => by have := (h.lt k e1.symm).1; omega).trans (hx.block k hk)⟩
section
variable {w : World} {B : Nat} {u : SiteVs} {sd : SiteD} {wv sv av hv rv : Value} {vs : List Value} {l : List SrvV} {p : PlanD} {y : WorldD}
theorem ref24Back {x e : Int} (hB : B ≤ w.heap.size) (hs : SiteR w B u sd) (hl : WishR w B wv l) (hpl : PlanR w B sv av vs p) (hx0 : WorldR w B hv rv y) (he : planErr sd (l.map (·.x)) p = e) :
  CallsV Tryz.prog 11 #[.agg (siteC u sd).toArray, .agg #[wv], .agg #[hv, rv], .agg #[sv, av], intV x] w fun r w' => Ext w w' ∧ ∃ bv lv, r = .tuple #[bv, lv, intV (wldE e sd (l.map (·.x)) p y x)] ∧ Own w' w.heap.size 79 4 bv ((backL e sd (l.map (·.x)) p y x).map stepC) ∧ Own w' w.heap.size 3 1 lv ((lastL e sd (l.map (·.x)) p y x).map intC) := by
 have hn : Now w := trivial
 have hx : Ext w w := Ext.refl w
 have hs' := hs.sk hB
 have hl' := hl.sk hB
 have hp' := hpl.sk hB
 have hx' := hx0.sk hB
 have hS := hs'.2.2.2.2.2.2
 have hW := hl'.2.2
 have hP := hp'.2.2.2.2.2.2
 have hst := hp'.1
 have hX := hx'.2.2.2.2
 have hbw : Bl B w w := Bl.refl hB
 have hsv1 := hpl.s.one
 have hav1 := hp'.2.2.2.2.1
 have hh1 := hx0.h.one
 have hr1 := hx0.r.one
 have hsf := fun h0 => seq_facts (x := x) he h0
 replace hsf : Hid _ := hsf
 have he' : Hid (planErr sd (l.map (·.x)) p = e) := he
 unfold backL lastL
 clear he hpl hx0 hp' hx' hs' hl'
 (refine callsV_of Tryz.func11 rfl KR KR ?_; rw [Tryz.results11])
 (repeat' first
  | with_reducible first | exact ⟨⟩ | (refine Brg.mk ?_; intros) | refine Two.mk ?_ ?_
  | refine gs ?_
  | simp (maxDischargeDepth := 3) only [↓X, ↓Y, ↓Q, S1, ↓reduceIte, Nat.reduceEqDiff, Nat.reduceAdd, Int.reduceLT, Int.reduceLE, Int.reduceNeg, Int.reduceBEq, Int.reduceBNe, Int.reduceEq, Nat.reduceLeDiff, Nat.reduceMul, Nat.reduceLT, *, siteC]
  | simp (singlePass := true) (maxDischargeDepth := 99) only [*, S2, Nat.reduceLT, siteC])
 rename_i b5 w5 n5 k5 s5 q5 b6 w6 n6 k6 s6 q6 b7 w7 n7 k7 s7 q7 b8 w8 n8 k8 s8 q8
 refine call_k (ref21World (x := x) (B := B) FR (hS _ FR) (hW _ FR) (hP _ FR) (hX _ FR) he'.out) ?_
 rintro _ w1 n1 s1 ⟨v0, rfl, h0a, r0a, rfl, oh0, or0⟩
 have oh01 := oh0.one
 have or01 := or0.one
 clear oh0 or0
 by_cases h0 : wldE e sd (l.map (·.x)) p y x = 0
 rotate_left
 ·simp only [if_neg h0]
  clear hsf
  generalize wldE e sd (l.map (·.x)) p y x = E at *
  have hE1 : (E == 0) = false := by simpa using h0
  have hE2 : (E != 0) = true := by simpa using h0
  (repeat' first
  | with_reducible first | exact ⟨⟩ | (refine Brg.mk ?_; intros) | refine Two.mk ?_ ?_
  | refine gs ?_
  | refine sx ?_)
  exact ⟨_, _, rfl, Own.nil _ _ _ _, Own.nil _ _ _ _⟩
 obtain ⟨ha, hv0, hrun⟩ := wldE_zero h0
 obtain ⟨rfl, hsh, hchk, hlen, hLlt, hnd⟩ := hsf.out ha
 have hsq := fun w' (h2 : Bl B w w') (h3 : B ≤ w'.heap.size) => ref20Sequence (w := w') (B := B) (x := x) h3 (hS w' h2) (hW w' h2) (hP w' h2) he'.out
 simp only [ha, if_true] at hsq
 simp only [h0, if_true]
 generalize seqF p x.toNat 4096 0 = L at *
 replace hsq : Hid _ := hsq
 clear hsf h0 ha hchk
 (repeat' first
  | with_reducible first | exact ⟨⟩ | (refine Brg.mk ?_; intros) | refine Two.mk ?_ ?_
  | refine gs ?_
  | refine sx ?_)
 rename_i b13 w13 n13 k13 s13 q13 wa na ka sa
 refine call_k (hsq.out _ FR FR) ?_
 rintro _ w2 n2 s2 ⟨ov, rfl, hov⟩
 have ovone := hov.one
 have hovs := hov.sl1 (f := natV)
 have ho' := hovs.k (Nat.le_refl _)
 have b2 : Bl w2.heap.size w2 w2 := Bl.refl (Nat.le_refl _)
 have hokL := runL_ok L y hrun
 have hL' : Hid (∀ i (h : i < L.length), L[i] < p.steps.length) := fun i h => hLlt _ (List.getElem_mem h)
 have hstA : Hid (∀ i (h : i < p.steps.length), stA p.steps i = p.steps[i]) := fun i h => stA_at h
 have hsm := hsh.small
 generalize hws : (runL sd (l.map (·.x)) p.steps L y).1 = ws at *
 obtain ⟨hwl, hstep⟩ := hokL
 have hstep' : Hid _ := hstep
 have hwl' : Hid (ws.length = L.length) := hwl
 clear hov hovs hsq hrun hws hstep hwl hsh
 (repeat' first
  | with_reducible first | exact ⟨⟩ | (refine Brg.mk ?_; intros) | refine Two.mk ?_ ?_
  | refine gs ?_
  | refine sx ?_)
 rename_i bw wb nb kb sb qb
 have hbw0 : Blk wb bw 36 [hv, rv] := kb.2.1 _ kb.2.2.1
 have hbwl : w2.heap.size ≤ bw := qb.2.1 _ (Nat.le_refl _)
 have hxb : Ext w2 wb := sb.2.2.1 w2 (Ext.refl w2)
 have I0 : Hid (Ext w2 wb ∧ OwnWL1 wb w2.heap.size (.slice (some ⟨bw, 0, none⟩) 1 1) hv rv (ws.take 0)) := ⟨hxb, [], by simp, Own.ofBlk (cs := [[hv, rv]]) (by simpa using hbw0) (by simp) hbwl (by simp), fun i h => absurd h (by simp)⟩
 have hw2 : w.heap.size ≤ w2.heap.size := FR
 clear kb hbw0 hxb
 refine loop_g L.length (fun g0 k g w' => g 18 = .int .i64 (k : Int) ∧ (g 5 = g0 5 ∧ g 6 = g0 6 ∧ g 8 = g0 8 ∧ g 15 = g0 15) ∧ ∃ lv, g 17 = lv ∧ Hid (Ext w2 w' ∧ OwnWL1 w' w2.heap.size lv hv rv (ws.take k))) KR ?_ ?_ ?_
 ·(repeat' first
  | with_reducible first | exact ⟨⟩ | (refine Brg.mk ?_; intros) | refine Two.mk ?_ ?_
  | refine gs ?_
  | refine sx ?_)
  exact ⟨_, rfl, I0.out⟩
 ·rintro k m g wk hk hlt nk ⟨hi, hf, lv, hlv, hp⟩
  simp (maxDischargeDepth := 3) only [U, ↓reduceIte, Nat.reduceEqDiff, *] at hf
  obtain ⟨hxk, hown⟩ := hp.out
  have sk := hxk.st
  have rk := Ext.refl wk
  have x2 := Ext.refl w2
  have zk := hxk.size
  have hBk : B ≤ wk.heap.size := Nat.le_trans hB (Nat.le_trans hw2 zk)
  have bB : Bl B w wk := FR
  have bwk : Bl wk.heap.size wk wk := Bl.refl (Nat.le_refl _)
  obtain ⟨us, hul, hus, hue⟩ := hown.at_ (hX _ bB) hBk
  have hlv1 := hown.one
  have hkw : (ws.take k).length = k := by rw [List.length_take, hwl'.out]; omega
  have hku : k < us.length := by omega
  have K := hus.k (Nat.le_refl _)
  have hUk := hue k hku
  have hyk : (y :: ws.take k).getD k noW = (y :: ws).getD k noW := by
   cases k with
   | zero => rfl
   | succ k => simp [List.getD_eq_getElem?_getD, List.getElem?_take]
  rw [hyk] at hUk
  have hUo := hUk.h.one
  have hUr := hUk.r.one
  have hUk' := (hUk.sk (Nat.le_refl _)).2.2.2.2
  have hLk := hL'.out k hlt
  have hstk := hstA.out _ hLk
  have hwk2 : (y :: ws).getD (k + 1) noW = ws[k]'(by rw [hwl'.out]; exact hlt) := by simp [List.getD_eq_getElem?_getD, List.getElem?_eq_getElem (show k < ws.length by rw [hwl'.out]; exact hlt)]
  have htk : Hid (ws.take (k + 1) = ws.take k ++ [(y :: ws).getD (k + 1) noW]) := by
   show _ = _
   rw [hwk2, List.take_add_one, List.getElem?_eq_getElem (show k < ws.length by rw [hwl'.out]; exact hlt)]; rfl
  obtain ⟨hs0, hs1⟩ := hstep'.out k hlt
  rw [hstk] at hs0 hs1
  have hAp : ∀ w', Bl B w w' → Bl wk.heap.size wk w' → wk.heap.size ≤ w'.heap.size → CallsV Tryz.prog 38 #[.agg (siteC u sd).toArray, .agg #[wv], .agg #[us[k].1, us[k].2], stepV p.steps[L[k]]] w' fun v w2 => Ext w' w2 ∧ ∃ v0, v = .tuple #[v0, intV 0] ∧ OwnW w'.heap.size v0 w2 ((y :: ws).getD (k + 1) noW) := fun w' h1 h2 h3 => by
   have := ref19Apply (w := w') (st := p.steps[L[k]]) (B := wk.heap.size) h3 ((hS w' h1).up24 hBk) ((hW w' h1).up24 hBk) (hUk' w' h2)
   rw [hs0, ← hs1] at this
   exact this
  generalize (y :: ws).getD (k + 1) noW = W' at *
  replace hAp : Hid _ := hAp
  have hkI : ((k : Nat) : Int) < ((us.length : Nat) : Int) := by omega
  have hLi : ((L[k] : Nat) : Int) < ((p.steps.length : Nat) : Int) := by omega
  have hown' : Hid _ := hown
  have hw : IntKind.i64.wrap ((k : Int) + 1) = ((k + 1 : Nat) : Int) := by rw [wrap_i64_id] <;> omega
  have hkw' : Hid ((ws.take k).length = k) := hkw
  clear hp hue hus hUk hUk' hs0 hs1 hwk2 hown hyk hul hkw
  (repeat' first
  | ((with_reducible refine wpd_at 9 ?_); refine wpd_hold ?_)
  | with_reducible first | exact ⟨⟩ | (refine Brg.mk ?_; intros) | refine Two.mk ?_ ?_
  | refine gs ?_
  | refine sxRef241 ?_)
  unfold wpdH
  refine wpd_relS 20 [(19, 18)] (fun iI s v w9 => match iI with
   | 0 => v = .agg (siteC u sd).toArray
   | 1 => v = .agg #[wv]
   | 2 => v = lv
   | 3 => v = .int .i64 (k : Nat)
   | 4 => v = elemAt lv 2 k
   | 5 => v = .agg #[us[k].1, us[k].2]
   | 6 => v = .pointer (some ⟨b8, 0, none⟩)
   | 7 => v = sv
   | 8 => v = ov
   | 9 => v = .int .i64 (k : Nat)
   | 10 => v = elemAt ov 1 k
   | 11 => v = .int .i64 (L[k] : Nat)
   | 12 => v = elemAt sv 4 L[k]
   | 13 => v = stepV p.steps[L[k]]
   | 14 => ∃ u, v = .tuple #[u, intV 0] ∧ OwnW wk.heap.size u w9 W'
   | 15 => ∃ u, v = .tuple #[u, intV 0] ∧ OwnW wk.heap.size u w9 W'
   | 16 => OwnW wk.heap.size v w9 W'
   | 17 => v = intV 0
   | 18 => ∃ b, v = .pointer (some ⟨b, 0, none⟩) ∧ wk.heap.size ≤ b ∧ (s = false → Blk w9 b 36 [.slice none 0 0, .slice none 0 0]) ∧ (s = true → ∃ h r, Blk w9 b 36 [h, r] ∧ OwnH w9 wk.heap.size h W'.hosts ∧ OwnP w9 wk.heap.size r W'.replicas)
   | 19 => True
   | _ => False) KR KR KR KR ?_ ?_ ?_
  ·intro iI s v w1 w2 hR hx9
   match iI, hR with
   | 0, h => exact h
   | 1, h => exact h
   | 2, h => exact h
   | 3, h => exact h
   | 4, h => exact h
   | 5, h => exact h
   | 6, h => exact h
   | 7, h => exact h
   | 8, h => exact h
   | 9, h => exact h
   | 10, h => exact h
   | 11, h => exact h
   | 12, h => exact h
   | 13, h => exact h
   | 14, h => exact (let ⟨u, e, o⟩ := h; ⟨u, e, o.ext hx9⟩)
   | 15, h => exact (let ⟨u, e, o⟩ := h; ⟨u, e, o.ext hx9⟩)
   | 16, h => exact OwnW.ext h hx9
   | 17, h => exact h
   | 18, ⟨b, e, h1, h2, h3⟩ => exact ⟨b, e, h1, fun hs => (h2 hs).ext hx9, fun hs => (fun h => (let ⟨a, b, k, o1, o2⟩ := h; ⟨a, b, k.ext hx9, o1.ext hx9, o2.ext hx9⟩)) (h3 hs)⟩
   | 19, h => exact h
  ·intro iI oO hi ho gF w9 S9 hx9 hdep hag
   have s9 := hx9.st
   have n9 : Now w9 := trivial
   have r9 := Ext.refl w9
   have z9 := hx9.size
   rcases iI with _|_|_|_|_|_|_|_|_|_|_|_|_|_|_|_|_|_|_|_|iI
   have e := Option.some.inj ho
   subst e
   have a5 := hag.at 5 KR
   simp only [S5, ↓reduceIte, Nat.reduceEqDiff, initF, *] at a5
   clear hag hdep ho
   refine ⟨fun _ => ?_, fun a9 pa da hal => by simp [alL] at hal⟩
   refine relStep_off rfl ?_
   rotate_left
   have e := Option.some.inj ho
   subst e
   have a6 := hag.at 6 KR
   simp only [S5, ↓reduceIte, Nat.reduceEqDiff, initF, *] at a6
   clear hag hdep ho
   refine ⟨fun _ => ?_, fun a9 pa da hal => by simp [alL] at hal⟩
   refine relStep_off rfl ?_
   rotate_left
   have e := Option.some.inj ho
   subst e
   have a17 := hag.at 17 KR
   simp only [S5, ↓reduceIte, Nat.reduceEqDiff, initF, *] at a17
   clear hag hdep ho
   refine ⟨fun _ => ?_, fun a9 pa da hal => by simp [alL] at hal⟩
   refine relStep_off rfl ?_
   rotate_left
   have e := Option.some.inj ho
   subst e
   have a18 := hag.at 18 KR
   simp only [S5, ↓reduceIte, Nat.reduceEqDiff, initF, *] at a18
   clear hag hdep ho
   refine ⟨fun _ => ?_, fun a9 pa da hal => by simp [alL] at hal⟩
   refine relStep_off rfl ?_
   rotate_left
   have e := Option.some.inj ho
   subst e
   have d2 : (gF 60) = lv := hdep ⟨2, .data⟩ (by simp) rfl _ _ rfl rfl
   have d3 : (gF 61) = .int .i64 (k : Nat) := hdep ⟨3, .data⟩ (by simp) rfl _ _ rfl rfl
   clear hag hdep ho
   refine ⟨fun _ => ?_, fun a9 pa da hal => by simp [alL] at hal⟩
   refine relStep_off rfl ?_
   rotate_left
   have e := Option.some.inj ho
   subst e
   have d4 : (gF 62) = elemAt lv 2 k := hdep ⟨4, .data⟩ (by simp) rfl _ _ rfl rfl
   clear hag hdep ho
   refine ⟨fun _ => ?_, fun a9 pa da hal => by simp [alL] at hal⟩
   refine relStep_off rfl ?_
   rotate_left
   have e := Option.some.inj ho
   subst e
   have a8 := hag.at 8 KR
   simp only [S5, ↓reduceIte, Nat.reduceEqDiff, initF, *] at a8
   clear hag hdep ho
   refine ⟨fun _ => ?_, fun a9 pa da hal => by simp [alL] at hal⟩
   refine relStep_off rfl ?_
   rotate_left
   have e := Option.some.inj ho
   subst e
   have d6 : (gF 64) = .pointer (some ⟨b8, 0, none⟩) := hdep ⟨6, .data⟩ (by simp) rfl _ _ rfl rfl
   clear hag hdep ho
   refine ⟨fun _ => ?_, fun a9 pa da hal => by simp [alL] at hal⟩
   refine relStep_off rfl ?_
   rotate_left
   have e := Option.some.inj ho
   subst e
   have a15 := hag.at 15 KR
   simp only [S5, ↓reduceIte, Nat.reduceEqDiff, initF, *] at a15
   clear hag hdep ho
   refine ⟨fun _ => ?_, fun a9 pa da hal => by simp [alL] at hal⟩
   refine relStep_off rfl ?_
   rotate_left
   have e := Option.some.inj ho
   subst e
   have a18 := hag.at 18 KR
   simp only [S5, ↓reduceIte, Nat.reduceEqDiff, initF, *] at a18
   clear hag hdep ho
   refine ⟨fun _ => ?_, fun a9 pa da hal => by simp [alL] at hal⟩
   refine relStep_off rfl ?_
   rotate_left
   have e := Option.some.inj ho
   subst e
   have d8 : (gF 66) = ov := hdep ⟨8, .data⟩ (by simp) rfl _ _ rfl rfl
   have d9 : (gF 67) = .int .i64 (k : Nat) := hdep ⟨9, .data⟩ (by simp) rfl _ _ rfl rfl
   clear hag hdep ho
   refine ⟨fun _ => ?_, fun a9 pa da hal => by simp [alL] at hal⟩
   refine relStep_off rfl ?_
   rotate_left
   have e := Option.some.inj ho
   subst e
   have d10 : (gF 68) = elemAt ov 1 k := hdep ⟨10, .data⟩ (by simp) rfl _ _ rfl rfl
   clear hag hdep ho
   refine ⟨fun _ => ?_, fun a9 pa da hal => by simp [alL] at hal⟩
   refine relStep_off rfl ?_
   rotate_left
   have e := Option.some.inj ho
   subst e
   have d7 : (gF 65) = sv := hdep ⟨7, .data⟩ (by simp) rfl _ _ rfl rfl
   have d11 : (gF 69) = .int .i64 (L[k] : Nat) := hdep ⟨11, .data⟩ (by simp) rfl _ _ rfl rfl
   clear hag hdep ho
   refine ⟨fun _ => ?_, fun a9 pa da hal => by simp [alL] at hal⟩
   refine relStep_off rfl ?_
   rotate_left
   have e := Option.some.inj ho
   subst e
   have d12 : (gF 70) = elemAt sv 4 L[k] := hdep ⟨12, .data⟩ (by simp) rfl _ _ rfl rfl
   clear hag hdep ho
   refine ⟨fun _ => ?_, fun a9 pa da hal => by simp [alL] at hal⟩
   refine relStep_off rfl ?_
   rotate_left
   have e := Option.some.inj ho
   subst e
   have d0 : (gF 58) = .agg (siteC u sd).toArray := hdep ⟨0, .data⟩ (by simp) rfl _ _ rfl rfl
   have d1 : (gF 59) = .agg #[wv] := hdep ⟨1, .data⟩ (by simp) rfl _ _ rfl rfl
   have d5 : (gF 63) = .agg #[us[k].1, us[k].2] := hdep ⟨5, .data⟩ (by simp) rfl _ _ rfl rfl
   have d13 : (gF 71) = stepV p.steps[L[k]] := hdep ⟨13, .data⟩ (by simp) rfl _ _ rfl rfl
   clear hag hdep ho
   refine ⟨fun _ => ?_, fun a9 pa da hal => by simp [alL] at hal⟩
   refine relStep_off rfl ?_
   rotate_left
   have e := Option.some.inj ho
   subst e
   have d14 : ∃ u, (gF 72) = .tuple #[u, intV 0] ∧ OwnW wk.heap.size u w9 W' := hdep ⟨14, .data⟩ (by simp) rfl _ _ rfl rfl
   obtain ⟨u7, e7, o7⟩ := d14
   clear hag hdep ho
   refine ⟨fun _ => ?_, fun a9 pa da hal => by simp [alL] at hal⟩
   refine relStep_off rfl ?_
   rotate_left
   have e := Option.some.inj ho
   subst e
   have d15 : ∃ u, (gF 57) = .tuple #[u, intV 0] ∧ OwnW wk.heap.size u w9 W' := hdep ⟨15, .data⟩ (by simp) rfl _ _ rfl rfl
   obtain ⟨u8, e8, o8⟩ := d15
   clear hag hdep ho
   refine ⟨fun _ => ?_, fun a9 pa da hal => by simp [alL] at hal⟩
   refine relStep_off rfl ?_
   rotate_left
   have e := Option.some.inj ho
   subst e
   have d15 : ∃ u, (gF 57) = .tuple #[u, intV 0] ∧ OwnW wk.heap.size u w9 W' := hdep ⟨15, .data⟩ (by simp) rfl _ _ rfl rfl
   obtain ⟨u8, e8, o8⟩ := d15
   clear hag hdep ho
   refine ⟨fun _ => ?_, fun a9 pa da hal => by simp [alL] at hal⟩
   refine relStep_off rfl ?_
   rotate_left
   have e := Option.some.inj ho
   subst e
   clear hag hdep ho
   refine ⟨fun _ => ?_, fun a9 pa da hal => by simp [alL] at hal⟩
   refine relStep_off rfl ?_
   rotate_left
   have e := Option.some.inj ho
   subst e
   have d18 : ∃ b, (gF 19) = .pointer (some ⟨b, 0, none⟩) ∧ wk.heap.size ≤ b ∧ ((S9 18) = false → Blk w9 b 36 [.slice none 0 0, .slice none 0 0]) ∧ ((S9 18) = true → ∃ h r, Blk w9 b 36 [h, r] ∧ OwnH w9 wk.heap.size h W'.hosts ∧ OwnP w9 wk.heap.size r W'.replicas) := hdep ⟨18, .data⟩ (by simp) rfl _ _ rfl rfl
   obtain ⟨b18, e18, q18, hz18, _⟩ := d18
   have d16 : OwnW wk.heap.size (gF 73) w9 W' := hdep ⟨16, .data⟩ (by simp) rfl _ _ rfl rfl
   obtain ⟨h9, r9', e9, oh9, or9⟩ := d16
   have H9 := oh9.one
   have R9 := or9.one
   clear hag hdep ho
   refine ⟨fun h => by simp [alL] at h, fun a9 pa da hal hS9 hpa hda => ?_⟩
   obtain rfl : 18 = a9 := by simpa [alL] using hal
   obtain rfl := Option.some.inj hpa
   obtain rfl := Option.some.inj hda
   have hz := hz18 hS9
   clear hal hpa hda hz18
   refine relStep_off rfl ?_
   rotate_left
   ·omega
   all_goals (repeat' first
  | with_reducible first | exact ⟨⟩ | (refine Brg.mk ?_; intros) | refine Two.mk ?_ ?_
  | refine gs ?_
  | refine sxRef242 ?_)
   all_goals first
    | (refine CallsV.mono (hAp.out _ FR FR FR) fun v w10 hh => ⟨hh.1, ?_⟩; obtain ⟨_, u0, rfl, ho⟩ := hh; exact ⟨u0, rfl, ho.more z9⟩)
    | (exact ⟨u7, rfl, o7⟩)
    | (exact o8)
    | (rename_i b10 w10 n10 k10 s10 q10; exact ⟨_, rfl, FR, fun _ => k10.2.1 _ k10.2.2.1, fun h => absurd h (by decide)⟩)
    | (
      refine stT_agg (w0 := w9) (vs := [h9, r9']) hz rfl KR rfl (by simp [H9, R9]) fun w10 hb10 hc => ⟨b18, hc, q18, ⟨b18, (by first | exact e18 | rfl), q18, fun h => absurd h (by decide), fun _ => ⟨h9, r9', hb10, oh9.fr hz hc (.inl (by decide)), or9.fr hz hc (.inl (by decide))⟩⟩, ?_⟩
      intro iI s v hne hR
      match iI, hR with
      | 0, h | 1, h | 2, h | 3, h | 4, h | 5, h | 6, h | 7, h | 8, h | 9, h | 10, h | 11, h | 12, h | 13, h | 17, h | 19, h => exact h
      | 14, h => exact (let ⟨u, e, o⟩ := h; ⟨u, e, ownW_fr24 o hz hc⟩)
      | 15, h => exact (let ⟨u, e, o⟩ := h; ⟨u, e, ownW_fr24 o hz hc⟩)
      | 16, h => exact ownW_fr24 h hz hc
      | 18, _ => exact absurd rfl hne)
  ·intro g9 w9 hx9 hR hag
   have s9 := hx9.st
   have n9 : Now w9 := trivial
   have r9 := Ext.refl w9
   have z9 := hx9.size
   have d17 : (g9 74) = intV 0 := hR 17 _ _ (by decide) rfl rfl
   have d18 : ∃ b, (g9 19) = .pointer (some ⟨b, 0, none⟩) ∧ wk.heap.size ≤ b ∧ (true = false → Blk w9 b 36 [.slice none 0 0, .slice none 0 0]) ∧ (true = true → ∃ h r, Blk w9 b 36 [h, r] ∧ OwnH w9 wk.heap.size h W'.hosts ∧ OwnP w9 wk.heap.size r W'.replicas) := hR 18 _ _ (by decide) rfl rfl
   obtain ⟨b18, e18, q18, _, f18⟩ := d18
   replace f18 := f18 rfl
   have nw18 := Nw.of q18
   obtain ⟨hA, rA, kwA, ohA, orA⟩ := f18
   have KWA := kwA.bk
   have HAone := ohA.one
   have RAone := orA.one
   have a5 := hag.at 5 KR
   have a6 := hag.at 6 KR
   have a8 := hag.at 8 KR
   have a15 := hag.at 15 KR
   have a17 := hag.at 17 KR
   have a18 := hag.at 18 KR
   simp only [S5, ↓reduceIte, Nat.reduceEqDiff, initF, *] at a5 a6 a8 a15 a17 a18
   clear hag hR
   simp only [List.drop_succ_cons, List.drop_zero]
   have hownx : Hid (∀ w', Ext wk w' → OwnWL1 w' w2.heap.size lv hv rv (ws.take k)) := fun w' h => OwnWL1.ext hown'.out h
   have hohx : Hid (∀ w', Ext w9 w' → OwnH w' wk.heap.size hA W'.hosts) := fun w' h => ohA.ext h
   have horx : Hid (∀ w', Ext w9 w' → OwnP w' wk.heap.size rA W'.replicas) := fun w' h => orA.ext h
   have r9 := Ext.refl w9
   clear hAp hown' ohA orA
   (repeat' first
  | with_reducible first | exact ⟨⟩ | (refine Brg.mk ?_; intros) | refine Two.mk ?_ ?_
  | refine gs ?_
  | refine sx ?_)
   rename_i b10 w10 n10 k10 s10 q10
   refine appW1 (hownx.out _ FR) ((hohx.out _ FR).more zk) ((horx.out _ FR).more zk) (k10.2.1 _ FR) (by rw [hkw'.out]; omega) FR fun v' w11 n11 s11 hO => ?_
   rw [← htk.out] at hO
   have hO' : Hid _ := hO
   have hx11 : Ext w2 w11 := FR
   clear hO
   (repeat' first
  | with_reducible first | exact ⟨⟩ | (refine Brg.mk ?_; intros) | refine Two.mk ?_ ?_
  | refine gs ?_
  | refine sx ?_)
   refine next_g hk hlt ?_
   (repeat' first
  | with_reducible first | exact ⟨⟩ | (refine Brg.mk ?_; intros) | refine Two.mk ?_ ?_
  | refine gs ?_
  | refine sx ?_)
   exact ⟨_, rfl, hO'.out⟩
 ·rintro g wk nk ⟨hi, hf, lv, hlv, hp⟩
  simp (maxDischargeDepth := 3) only [U, ↓reduceIte, Nat.reduceEqDiff, *] at hf
  obtain ⟨hxk, hown⟩ := hp.out
  rw [List.take_of_length_le (by rw [hwl'.out]; exact Nat.le_refl _)] at hown
  have sk := hxk.st
  have rk := Ext.refl wk
  have zk := hxk.size
  have hlv1 := hown.one
  have hBk : B ≤ wk.heap.size := Nat.le_trans hB (Nat.le_trans hw2 zk)
  have hwwk : w.heap.size ≤ wk.heap.size := Nat.le_trans hw2 zk
  have hLn1 : IntKind.i64.wrap ((L.length : Int) - 1) = (L.length : Int) - 1 := by rw [wrap_i64_id] <;> omega
  have hownx : Hid (∀ w', Ext wk w' → OwnWL1 w' w2.heap.size lv hv rv ws) := fun w' h => hown.ext h
  clear hp hown I0
  (repeat' first
  | with_reducible first | exact ⟨⟩ | (refine Brg.mk ?_; intros) | refine Two.mk ?_ ?_
  | refine gs ?_
  | refine sx ?_)
  refine mk_one_k (n := p.steps.length) (z := .bool false) rfl (by decide) (by omega) fun b22 wm nm km sm qm => ?_
  rw [seen24_zero] at km
  have hxm : Ext wk wm := sm.2.2.1 wk rk
  have h22l : wk.heap.size ≤ b22 := qm.2.1 _ (Nat.le_refl _)
  have J0 : Hid (Ext wk wm ∧ Own wm wk.heap.size 79 4 (.slice none 0 0) ((backS sd (l.map (·.x)) p.steps (y :: ws) ((xsL L).take 0)).map stepC) ∧ Blk wm b22 4 (seen24 p.steps.length (lastS sd (l.map (·.x)) p.steps (y :: ws) ((xsL L).take 0)))) := ⟨hxm, Own.nil _ _ _ _, km.2.1 _ km.2.2.1⟩
  clear km hxm qm
  (repeat' first
  | with_reducible first | exact ⟨⟩ | (refine Brg.mk ?_; intros) | refine Two.mk ?_ ?_
  | refine gs ?_
  | refine sx ?_)
  refine loop_g L.length (fun g0 k g w' => g 23 = .int .i64 ((L.length : Int) - 1 - (k : Int)) ∧ (g 5 = g0 5 ∧ g 6 = g0 6 ∧ g 8 = g0 8 ∧ g 15 = g0 15 ∧ g 17 = g0 17 ∧ g 22 = g0 22) ∧ ∃ sl, g 21 = sl ∧ Hid (Ext wk w' ∧ Own w' wk.heap.size 79 4 sl ((backS sd (l.map (·.x)) p.steps (y :: ws) ((xsL L).take k)).map stepC) ∧ Blk w' b22 4 (seen24 p.steps.length (lastS sd (l.map (·.x)) p.steps (y :: ws) ((xsL L).take k))))) KR ?_ ?_ ?_
  ·(repeat' first
  | with_reducible first | exact ⟨⟩ | (refine Brg.mk ?_; intros) | refine Two.mk ?_ ?_
  | refine gs ?_
  | refine sx ?_)
   refine ⟨?_, _, rfl, J0.out.2⟩
   congr 1
   omega
  ·rintro k m g wr hk hlt nr ⟨hi, hf, sl, hsl, hp⟩
   simp (maxDischargeDepth := 3) only [U, ↓reduceIte, Nat.reduceEqDiff, *] at hf
   obtain ⟨hxr, osl, m22⟩ := hp.out
   have sr := hxr.st
   have rr := Ext.refl wr
   have zr := hxr.size
   have hBr : B ≤ wr.heap.size := Nat.le_trans hBk zr
   have hwr : w.heap.size ≤ wr.heap.size := Nat.le_trans hwwk zr
   have bB : Bl B w wr := FR
   have bwr : Bl wr.heap.size wr wr := Bl.refl (Nat.le_refl _)
   obtain ⟨us, hul, hus, hue⟩ := (hownx.out wr hxr).at_ (hX _ bB) hBr
   have hsl1 := osl.one
   have tke := xsL_take hlt
   have new := last_new (s := sd) (wl := l.map (·.x)) (steps := p.steps) (bs := y :: ws) hnd hlt
   have hle : (backS sd (l.map (·.x)) p.steps (y :: ws) ((xsL L).take k)).length ≤ 3 * k := Nat.le_trans (backS_len _) (by rw [List.length_take]; omega)
   obtain ⟨j, hj⟩ : ∃ j, L.length - 1 - k = j := ⟨_, rfl⟩
   have hjL : j < L.length := by omega
   have hgd : L.getD j 0 = L[j] := by rw [List.getD_eq_getElem?_getD, List.getElem?_eq_getElem hjL]; rfl
   have hiE : (L.length : Int) - 1 - (k : Int) = (j : Int) := by omega
   rw [hj, hgd] at tke new
   rw [hiE] at hi
   have hju : j < us.length := by rw [hul, hwl'.out]; omega
   have K := hus.k (Nat.le_refl _)
   have hUj := hue j hju
   have hUo := hUj.h.one
   have hUr := hUj.r.one
   have hUj' := (hUj.sk (Nat.le_refl _)).2.2.2.2
   have hLj := hL'.out j hjL
   have hstj := hstA.out _ hLj
   obtain ⟨UL, hUL⟩ : ∃ UL, undoL sd (l.map (·.x)) ((y :: ws).getD j noW) p.steps[L[j]] = UL := ⟨_, rfl⟩
   obtain ⟨lb, hlb⟩ : ∃ lb, lastB sd (l.map (·.x)) ((y :: ws).getD j noW) p.steps[L[j]] = lb := ⟨_, rfl⟩
   obtain ⟨E, hE⟩ : ∃ E, applyE sd (l.map (·.x)) ((y :: ws).getD j noW) p.steps[L[j]] = E := ⟨_, rfl⟩
   have hud : ∀ w', Bl B w w' → Bl wr.heap.size wr w' → wr.heap.size ≤ w'.heap.size → CallsV Tryz.prog 39 #[.agg (siteC u sd).toArray, .agg #[wv], .agg #[us[j].1, us[j].2], stepV p.steps[L[j]]] w' fun v w2 => Ext w' w2 ∧ ∃ v0, v = .tuple #[v0, .bool lb, intV E] ∧ Own w2 w'.heap.size 79 4 v0 (UL.map stepC) := fun w' h1 h2 h3 => by
    have := ref19Undo (w := w') (st := p.steps[L[j]]) (B := wr.heap.size) h3 ((hS w' h1).up24 hBr) ((hW w' h1).up24 hBr) (hUj' w' h2)
    rw [hUL, hlb, hE] at this
    exact this
   have hULn : UL.length ≤ 3 := by
    rw [← hUL]
    unfold undoL
    split
    ·unfold undoS
     rw [List.length_map]
     exact undoK_len _ _
    ·exact Nat.zero_le _
   have hres : Hid (backS sd (l.map (·.x)) p.steps (y :: ws) ((xsL L).take (k + 1)) = backS sd (l.map (·.x)) p.steps (y :: ws) ((xsL L).take k) ++ UL) := by
    show _ = _
    rw [tke, backS_snoc, backAt, hstj, hUL]
   have hres2 : Hid (seen24 p.steps.length (lastS sd (l.map (·.x)) p.steps (y :: ws) ((xsL L).take (k + 1))) = (seen24 p.steps.length (lastS sd (l.map (·.x)) p.steps (y :: ws) ((xsL L).take k))).set L[j] (.bool lb)) := by
    show _ = _
    rw [seen24_set new, tke, lastS_snoc, lastAt, hstj, hlb]
   replace hud : Hid _ := hud
   have hjI : ((j : Nat) : Int) < ((us.length : Nat) : Int) := by omega
   have hLi : ((L[j] : Nat) : Int) < ((p.steps.length : Nat) : Int) := by omega
   have hw : IntKind.i64.wrap ((j : Int) - 1) = (L.length : Int) - 1 - ((k + 1 : Nat) : Int) := by rw [wrap_i64_id] <;> omega
   have osl' : Hid _ := osl
   have m22' : Hid _ := m22
   have hle' : Hid _ := hle
   have hkI : (0 : Int) ≤ ((j : Nat) : Int) := by omega
   clear hp hue hus hUj hUj' hUL hlb hE osl m22 hul tke new hgd hiE hj hstj hle
   (repeat' first
  | ((with_reducible refine wpd_at 16 ?_); refine wpd_hold ?_)
  | with_reducible first | exact ⟨⟩ | (refine Brg.mk ?_; intros) | refine Two.mk ?_ ?_
  | refine gs ?_
  | refine sxRef241 ?_)
   unfold wpdH
   refine wpd_rel 21 (fun iI v w9 => match iI with
    | 0 => v = .agg (siteC u sd).toArray
    | 1 => v = .agg #[wv]
    | 2 => v = lv
    | 3 => v = .int .i64 (j : Nat)
    | 4 => v = elemAt lv 2 j
    | 5 => v = .agg #[us[j].1, us[j].2]
    | 6 => v = .pointer (some ⟨b8, 0, none⟩)
    | 7 => v = sv
    | 8 => v = ov
    | 9 => v = .int .i64 (j : Nat)
    | 10 => v = elemAt ov 1 j
    | 11 => v = .int .i64 (L[j] : Nat)
    | 12 => v = elemAt sv 4 L[j]
    | 13 => v = stepV p.steps[L[j]]
    | 14 => ∃ u0, v = .tuple #[u0, .bool lb, intV E] ∧ Own w9 wr.heap.size 79 4 u0 (UL.map stepC)
    | 15 => ∃ u0, v = .tuple #[u0, .bool lb, intV E] ∧ Own w9 wr.heap.size 79 4 u0 (UL.map stepC)
    | 16 => ∃ u0, v = u0 ∧ Own w9 wr.heap.size 79 4 u0 (UL.map stepC)
    | 17 => v = .bool lb
    | 18 => v = intV E
    | 19 => ∃ u0, v = u0 ∧ Own w9 wr.heap.size 79 4 u0 (UL.map stepC)
    | 20 => v = .bool lb
    | _ => False) KR KR KR ?_ ?_ ?_
   ·intro iI v w1 w2 hR hx9
    match iI, hR with
    | 0, h => exact h
    | 1, h => exact h
    | 2, h => exact h
    | 3, h => exact h
    | 4, h => exact h
    | 5, h => exact h
    | 6, h => exact h
    | 7, h => exact h
    | 8, h => exact h
    | 9, h => exact h
    | 10, h => exact h
    | 11, h => exact h
    | 12, h => exact h
    | 13, h => exact h
    | 14, h => exact (let ⟨u, e, o⟩ := h; ⟨u, e, o.ext hx9⟩)
    | 15, h => exact (let ⟨u, e, o⟩ := h; ⟨u, e, o.ext hx9⟩)
    | 16, h => exact (let ⟨u, e, o⟩ := h; ⟨u, e, o.ext hx9⟩)
    | 17, h => exact h
    | 18, h => exact h
    | 19, h => exact (let ⟨u, e, o⟩ := h; ⟨u, e, o.ext hx9⟩)
    | 20, h => exact h
   ·intro iI oO hi ho gF w9 hx9 hdep hag
    have s9 := hx9.st
    have n9 : Now w9 := trivial
    have r9 := Ext.refl w9
    have z9 := hx9.size
    rcases iI with _|_|_|_|_|_|_|_|_|_|_|_|_|_|_|_|_|_|_|_|_|iI
    ·have e := Option.some.inj ho
     subst e
     have a5 := hag.at 5 KR
     simp only [S5, ↓reduceIte, Nat.reduceEqDiff, initF, *] at a5
     clear hag hdep ho
     refine relStep_off rfl ?_
     (repeat' first
  | with_reducible first | exact ⟨⟩ | (refine Brg.mk ?_; intros) | refine Two.mk ?_ ?_
  | refine gs ?_
  | refine sxRef242 ?_)
    ·have e := Option.some.inj ho
     subst e
     have a6 := hag.at 6 KR
     simp only [S5, ↓reduceIte, Nat.reduceEqDiff, initF, *] at a6
     clear hag hdep ho
     refine relStep_off rfl ?_
     (repeat' first
  | with_reducible first | exact ⟨⟩ | (refine Brg.mk ?_; intros) | refine Two.mk ?_ ?_
  | refine gs ?_
  | refine sxRef242 ?_)
    ·have e := Option.some.inj ho
     subst e
     have a17 := hag.at 17 KR
     simp only [S5, ↓reduceIte, Nat.reduceEqDiff, initF, *] at a17
     clear hag hdep ho
     refine relStep_off rfl ?_
     (repeat' first
  | with_reducible first | exact ⟨⟩ | (refine Brg.mk ?_; intros) | refine Two.mk ?_ ?_
  | refine gs ?_
  | refine sxRef242 ?_)
    ·have e := Option.some.inj ho
     subst e
     have a23 := hag.at 23 KR
     simp only [S5, ↓reduceIte, Nat.reduceEqDiff, initF, *] at a23
     clear hag hdep ho
     refine relStep_off rfl ?_
     (repeat' first
  | with_reducible first | exact ⟨⟩ | (refine Brg.mk ?_; intros) | refine Two.mk ?_ ?_
  | refine gs ?_
  | refine sxRef242 ?_)
    ·have e := Option.some.inj ho
     subst e
     have d2 : (gF 93) = lv := hdep ⟨2, .data⟩ (by simp) rfl _ _ rfl rfl
     have d3 : (gF 94) = .int .i64 (j : Nat) := hdep ⟨3, .data⟩ (by simp) rfl _ _ rfl rfl
     clear hag hdep ho
     refine relStep_off rfl ?_
     (repeat' first
  | with_reducible first | exact ⟨⟩ | (refine Brg.mk ?_; intros) | refine Two.mk ?_ ?_
  | refine gs ?_
  | refine sxRef242 ?_)
    ·have e := Option.some.inj ho
     subst e
     have d4 : (gF 95) = elemAt lv 2 j := hdep ⟨4, .data⟩ (by simp) rfl _ _ rfl rfl
     clear hag hdep ho
     refine relStep_off rfl ?_
     (repeat' first
  | with_reducible first | exact ⟨⟩ | (refine Brg.mk ?_; intros) | refine Two.mk ?_ ?_
  | refine gs ?_
  | refine sxRef242 ?_)
    ·have e := Option.some.inj ho
     subst e
     have a8 := hag.at 8 KR
     simp only [S5, ↓reduceIte, Nat.reduceEqDiff, initF, *] at a8
     clear hag hdep ho
     refine relStep_off rfl ?_
     (repeat' first
  | with_reducible first | exact ⟨⟩ | (refine Brg.mk ?_; intros) | refine Two.mk ?_ ?_
  | refine gs ?_
  | refine sxRef242 ?_)
    ·have e := Option.some.inj ho
     subst e
     have d6 : (gF 97) = .pointer (some ⟨b8, 0, none⟩) := hdep ⟨6, .data⟩ (by simp) rfl _ _ rfl rfl
     clear hag hdep ho
     refine relStep_off rfl ?_
     (repeat' first
  | with_reducible first | exact ⟨⟩ | (refine Brg.mk ?_; intros) | refine Two.mk ?_ ?_
  | refine gs ?_
  | refine sxRef242 ?_)
    ·have e := Option.some.inj ho
     subst e
     have a15 := hag.at 15 KR
     simp only [S5, ↓reduceIte, Nat.reduceEqDiff, initF, *] at a15
     clear hag hdep ho
     refine relStep_off rfl ?_
     (repeat' first
  | with_reducible first | exact ⟨⟩ | (refine Brg.mk ?_; intros) | refine Two.mk ?_ ?_
  | refine gs ?_
  | refine sxRef242 ?_)
    ·have e := Option.some.inj ho
     subst e
     have a23 := hag.at 23 KR
     simp only [S5, ↓reduceIte, Nat.reduceEqDiff, initF, *] at a23
     clear hag hdep ho
     refine relStep_off rfl ?_
     (repeat' first
  | with_reducible first | exact ⟨⟩ | (refine Brg.mk ?_; intros) | refine Two.mk ?_ ?_
  | refine gs ?_
  | refine sxRef242 ?_)
    ·have e := Option.some.inj ho
     subst e
     have d8 : (gF 99) = ov := hdep ⟨8, .data⟩ (by simp) rfl _ _ rfl rfl
     have d9 : (gF 100) = .int .i64 (j : Nat) := hdep ⟨9, .data⟩ (by simp) rfl _ _ rfl rfl
     clear hag hdep ho
     refine relStep_off rfl ?_
     (repeat' first
  | with_reducible first | exact ⟨⟩ | (refine Brg.mk ?_; intros) | refine Two.mk ?_ ?_
  | refine gs ?_
  | refine sxRef242 ?_)
    ·have e := Option.some.inj ho
     subst e
     have d10 : (gF 101) = elemAt ov 1 j := hdep ⟨10, .data⟩ (by simp) rfl _ _ rfl rfl
     clear hag hdep ho
     refine relStep_off rfl ?_
     (repeat' first
  | with_reducible first | exact ⟨⟩ | (refine Brg.mk ?_; intros) | refine Two.mk ?_ ?_
  | refine gs ?_
  | refine sxRef242 ?_)
    ·have e := Option.some.inj ho
     subst e
     have d7 : (gF 98) = sv := hdep ⟨7, .data⟩ (by simp) rfl _ _ rfl rfl
     have d11 : (gF 102) = .int .i64 (L[j] : Nat) := hdep ⟨11, .data⟩ (by simp) rfl _ _ rfl rfl
     clear hag hdep ho
     refine relStep_off rfl ?_
     (repeat' first
  | with_reducible first | exact ⟨⟩ | (refine Brg.mk ?_; intros) | refine Two.mk ?_ ?_
  | refine gs ?_
  | refine sxRef242 ?_)
    ·have e := Option.some.inj ho
     subst e
     have d12 : (gF 103) = elemAt sv 4 L[j] := hdep ⟨12, .data⟩ (by simp) rfl _ _ rfl rfl
     clear hag hdep ho
     refine relStep_off rfl ?_
     (repeat' first
  | with_reducible first | exact ⟨⟩ | (refine Brg.mk ?_; intros) | refine Two.mk ?_ ?_
  | refine gs ?_
  | refine sxRef242 ?_)
    ·have e := Option.some.inj ho
     subst e
     have d0 : (gF 91) = .agg (siteC u sd).toArray := hdep ⟨0, .data⟩ (by simp) rfl _ _ rfl rfl
     have d1 : (gF 92) = .agg #[wv] := hdep ⟨1, .data⟩ (by simp) rfl _ _ rfl rfl
     have d5 : (gF 96) = .agg #[us[j].1, us[j].2] := hdep ⟨5, .data⟩ (by simp) rfl _ _ rfl rfl
     have d13 : (gF 104) = stepV p.steps[L[j]] := hdep ⟨13, .data⟩ (by simp) rfl _ _ rfl rfl
     clear hag hdep ho
     refine relStep_off rfl ?_
     (repeat' first
  | with_reducible first | exact ⟨⟩ | (refine Brg.mk ?_; intros) | refine Two.mk ?_ ?_
  | refine gs ?_
  | refine sxRef242 ?_)
     refine CallsV.mono (hud.out _ FR FR FR) fun v w10 hh => ⟨hh.1, ?_⟩
     obtain ⟨_, u0, rfl, ho⟩ := hh
     exact ⟨u0, rfl, ho.more z9⟩
    ·have e := Option.some.inj ho
     subst e
     have d14 : ∃ u0, (gF 105) = .tuple #[u0, .bool lb, intV E] ∧ Own w9 wr.heap.size 79 4 u0 (UL.map stepC) := hdep ⟨14, .data⟩ (by simp) rfl _ _ rfl rfl
     obtain ⟨u7, e7, o7⟩ := d14
     clear hag hdep ho
     refine relStep_off rfl ?_
     (repeat' first
  | with_reducible first | exact ⟨⟩ | (refine Brg.mk ?_; intros) | refine Two.mk ?_ ?_
  | refine gs ?_
  | refine sxRef242 ?_)
     exact ⟨u7, rfl, o7⟩
    ·have e := Option.some.inj ho
     subst e
     have d15 : ∃ u0, (gF 90) = .tuple #[u0, .bool lb, intV E] ∧ Own w9 wr.heap.size 79 4 u0 (UL.map stepC) := hdep ⟨15, .data⟩ (by simp) rfl _ _ rfl rfl
     obtain ⟨u8, e8, o8⟩ := d15
     clear hag hdep ho
     refine relStep_off rfl ?_
     (repeat' first
  | with_reducible first | exact ⟨⟩ | (refine Brg.mk ?_; intros) | refine Two.mk ?_ ?_
  | refine gs ?_
  | refine sxRef242 ?_)
     exact ⟨_, rfl, o8⟩
    ·have e := Option.some.inj ho
     subst e
     have d15 : ∃ u0, (gF 90) = .tuple #[u0, .bool lb, intV E] ∧ Own w9 wr.heap.size 79 4 u0 (UL.map stepC) := hdep ⟨15, .data⟩ (by simp) rfl _ _ rfl rfl
     obtain ⟨u8, e8, o8⟩ := d15
     clear hag hdep ho
     refine relStep_off rfl ?_
     (repeat' first
  | with_reducible first | exact ⟨⟩ | (refine Brg.mk ?_; intros) | refine Two.mk ?_ ?_
  | refine gs ?_
  | refine sxRef242 ?_)
    ·have e := Option.some.inj ho
     subst e
     have d15 : ∃ u0, (gF 90) = .tuple #[u0, .bool lb, intV E] ∧ Own w9 wr.heap.size 79 4 u0 (UL.map stepC) := hdep ⟨15, .data⟩ (by simp) rfl _ _ rfl rfl
     obtain ⟨u8, e8, o8⟩ := d15
     clear hag hdep ho
     refine relStep_off rfl ?_
     (repeat' first
  | with_reducible first | exact ⟨⟩ | (refine Brg.mk ?_; intros) | refine Two.mk ?_ ?_
  | refine gs ?_
  | refine sxRef242 ?_)
    ·have e := Option.some.inj ho
     subst e
     have d16 : ∃ u0, (gF 106) = u0 ∧ Own w9 wr.heap.size 79 4 u0 (UL.map stepC) := hdep ⟨16, .data⟩ (by simp) rfl _ _ rfl rfl
     obtain ⟨u12, e12, o12⟩ := d16
     have U12 := o12.one
     clear hag hdep ho
     refine relStep_off rfl ?_
     (repeat' first
  | with_reducible first | exact ⟨⟩ | (refine Brg.mk ?_; intros) | refine Two.mk ?_ ?_
  | refine gs ?_
  | refine sxRef242 ?_)
     exact ⟨_, rfl, o12⟩
    ·have e := Option.some.inj ho
     subst e
     have d17 : (gF 107) = .bool lb := hdep ⟨17, .data⟩ (by simp) rfl _ _ rfl rfl
     clear hag hdep ho
     refine relStep_off rfl ?_
     (repeat' first
  | with_reducible first | exact ⟨⟩ | (refine Brg.mk ?_; intros) | refine Two.mk ?_ ?_
  | refine gs ?_
  | refine sxRef242 ?_)
    ·omega
   ·intro g9 w9 hx9 hR hag
    have s9 := hx9.st
    have n9 : Now w9 := trivial
    have r9 := Ext.refl w9
    have z9 := hx9.size
    have d18 : (g9 108) = intV E := hR 18 _ _ (by decide) rfl rfl
    have d19 : ∃ u0, (g9 24) = u0 ∧ Own w9 wr.heap.size 79 4 u0 (UL.map stepC) := hR 19 _ _ (by decide) rfl rfl
    obtain ⟨u15, e15, o15⟩ := d19
    have U15 := o15.one
    have d20 : (g9 25) = .bool lb := hR 20 _ _ (by decide) rfl rfl
    have a5 := hag.at 5 KR
    have a6 := hag.at 6 KR
    have a8 := hag.at 8 KR
    have a15 := hag.at 15 KR
    have a17 := hag.at 17 KR
    have a21 := hag.at 21 KR
    have a22 := hag.at 22 KR
    have a23 := hag.at 23 KR
    simp only [S5, ↓reduceIte, Nat.reduceEqDiff, initF, *] at a5 a6 a8 a15 a17 a21 a22 a23
    clear hag hR
    simp only [List.drop_succ_cons, List.drop_zero]
    have osl9 := osl'.out.ext hx9
    have m229 := Blk.ext m22'.out hx9
    have hbl := seen24_len p.steps.length (lastS sd (l.map (·.x)) p.steps (y :: ws) ((xsL L).take k))
    have hle9 := hle'.out
    have hor15 : Hid (Own w9 wr.heap.size 79 4 u15 (UL.map stepC)) := o15
    have hB9 : wk.heap.size ≤ w9.heap.size := FR
    have hx9k : Ext wk w9 := FR
    clear o15 osl' m22' hle' hud
    (repeat' first
  | with_reducible first | exact ⟨⟩ | (refine Brg.mk ?_; intros) | refine Two.mk ?_ ?_
  | refine gs ?_
  | refine sx ?_)
    refine appendAll_kg (e := 79) (sz := 4) (by_ := 32) (z := .agg #[.int .u8 0, .int .i64 0, .int .i64 0, .int .i64 0]) (B := wk.heap.size) (c := stepC) KR KR rfl (by decide) (by decide) osl9 (hor15.out.slN (f := stepC)) (fun _ => rfl) stepC_one (by omega) hB9 fun v1 wt nt hga ho1 => ?_
    have o1one := ho1.one
    have m22t := blk_grownT osl9 hga m229 (by decide)
    have hxt : Ext wk wt := ext_grown hx9k osl9 hga (Nat.le_refl _)
    have stt := hxt.st
    have k22t := m22t.bk
    have ct : Cg b22 wt wt := Chg.refl' wt b22
    have hLs : L[j] < (seen24 p.steps.length (lastS sd (l.map (·.x)) p.steps (y :: ws) ((xsL L).take k))).length := by rw [hbl]; exact hLj
    clear osl9 m229 hga
    (repeat' first
  | with_reducible first | exact ⟨⟩ | (refine Brg.mk ?_; intros) | refine Two.mk ?_ ?_
  | refine gs ?_
  | refine sx ?_)
    refine st_one KR hLs rfl fun wu nu ku su => ?_
    have cu : Cg b22 wt wu := FR
    have hxu : Ext wk wu := FR
    have hk2 := ku.2.1 _ ku.2.2.1
    rw [← hres2.out] at hk2
    have ho2 := ho1.fr m22t cu (.inl (by decide))
    rw [← hres.out] at ho2
    have FIN : Hid (Own wu wk.heap.size 79 4 v1 ((backS sd (l.map (·.x)) p.steps (y :: ws) ((xsL L).take (k + 1))).map stepC) ∧ Blk wu b22 4 (seen24 p.steps.length (lastS sd (l.map (·.x)) p.steps (y :: ws) ((xsL L).take (k + 1))))) := ⟨ho2, hk2⟩
    clear hk2 ho2 ku m22t ho1 cu k22t
    (repeat' first
  | with_reducible first | exact ⟨⟩ | (refine Brg.mk ?_; intros) | refine Two.mk ?_ ?_
  | refine gs ?_
  | refine sx ?_)
    refine next_g hk hlt ?_
    (repeat' first
  | with_reducible first | exact ⟨⟩ | (refine Brg.mk ?_; intros) | refine Two.mk ?_ ?_
  | refine gs ?_
  | refine sx ?_)
    exact ⟨_, rfl, FIN.out⟩
  ·rintro g wr nr ⟨hi, hf, sl, hsl, hp⟩
   simp (maxDischargeDepth := 3) only [U, ↓reduceIte, Nat.reduceEqDiff, *] at hf
   obtain ⟨hxr, osl, m22⟩ := hp.out
   rw [List.take_of_length_le (by rw [xsL_len]; exact Nat.le_refl _)] at osl m22
   have hiE : (L.length : Int) - 1 - (L.length : Int) = -1 := by omega
   rw [hiE] at hi
   have sr := hxr.st
   have rr := Ext.refl wr
   have zr := hxr.size
   have hsl1 := osl.one
   have hwr : w.heap.size ≤ wr.heap.size := Nat.le_trans hwwk zr
   have hnP := last_nodup (s := sd) (wl := l.map (·.x)) (steps := p.steps) (bs := y :: ws) hnd
   have hltP := last_lt (s := sd) (wl := l.map (·.x)) (steps := p.steps) (bs := y :: ws) hLlt
   have hpe := places_eq hnP hltP
   generalize lastS sd (l.map (·.x)) p.steps (y :: ws) (xsL L) = PL at *
   generalize backS sd (l.map (·.x)) p.steps (y :: ws) (xsL L) = BL at *
   have hbl := seen24_len p.steps.length PL
   have osx : Hid (∀ w', Ext wr w' → Own w' wk.heap.size 79 4 sl (BL.map stepC)) := fun w' h => osl.ext h
   have k22 := m22.bk
   have hpe' : Hid (((List.range p.steps.length).filter fun x => decide (x ∈ PL)).map natC = (sortI (intL PL)).map intC) := by
    show _ = _
    rw [← hpe]
    simp [intL, natC, intC]
   clear hp osl hpe hnP hltP m22 hiE
   (repeat' first
  | with_reducible first | exact ⟨⟩ | (refine Brg.mk ?_; intros) | refine Two.mk ?_ ?_
  | refine gs ?_
  | refine sx ?_)
   refine loop_o p.steps.length (fun w0 g0 k g w' => g 28 = .int .i64 k ∧ (g 21 = g0 21 ∧ g 22 = g0 22) ∧ ∃ v, g 27 = v ∧ Own w' w0.heap.size 3 1 v (((List.range k).filter fun x => decide (x ∈ PL)).map natC)) KR (by omega) ?_ ?_ ?_
   ·(repeat' first
  | with_reducible first | exact ⟨⟩ | (refine Brg.mk ?_; intros) | refine Two.mk ?_ ?_
  | refine gs ?_
  | refine sx ?_)
    exact ⟨_, rfl, Own.nil _ _ _ _⟩
   ·rintro k m g wv2 hk hlt nk2 sk2 bk2 hw ⟨hi, hf, v, hv5, hown⟩
    simp (maxDischargeDepth := 3) only [U, ↓reduceIte, Nat.reduceEqDiff, *] at hf
    have O := hown.o
    have one9 := hown.one
    have hget := seen24_get (P := PL) hlt
    have hle : ((List.range k).filter fun x => decide (x ∈ PL)).length ≤ k := by
     have := List.length_filter_le (fun x => decide (x ∈ PL)) (List.range k)
     rw [List.length_range] at this
     exact this
    have hnx : Hid (((List.range (k + 1)).filter fun x => decide (x ∈ PL)) = ((List.range k).filter fun x => decide (x ∈ PL)) ++ if decide (k ∈ PL) = true then [k] else []) := by
     show _ = _
     rw [List.range_succ, List.filter_append]
     congr 1
     simp [List.filter_cons]
    have hks : k < (seen24 p.steps.length PL).length := by omega
    have hownH : Hid (Own wv2 wr.heap.size 3 1 v (((List.range k).filter fun x => decide (x ∈ PL)).map natC)) := hown
    clear hown
    generalize seen24 p.steps.length PL = SL at *
    by_cases hm : decide (k ∈ PL) = true
    ·rw [hm] at hget hnx
     (repeat' first
  | with_reducible first | exact ⟨⟩ | (refine Brg.mk ?_; intros) | refine Two.mk ?_ ?_
  | refine gs ?_
  | refine sx ?_)
     rename_i b10 w10 n10 k10 s10 q10 l10
     refine appN k (O.1 _ FR) (k10.2.1 _ FR) (by omega) FR fun v' w9 n9 s9 hown9 => ?_
     have e9 := hnx.out
     rw [if_pos rfl] at e9
     rw [← e9] at hown9
     have hown9' : Hid _ := hown9
     clear hown9 e9
     (repeat' first
  | with_reducible first | exact ⟨⟩ | (refine Brg.mk ?_; intros) | refine Two.mk ?_ ?_
  | refine gs ?_
  | refine sx ?_)
     refine next_k hk hlt ?_ FR
     (repeat' first
  | with_reducible first | exact ⟨⟩ | (refine Brg.mk ?_; intros) | refine Two.mk ?_ ?_
  | refine gs ?_
  | refine sx ?_)
     exact ⟨_, rfl, hown9'.out⟩
    ·rw [Bool.not_eq_true] at hm
     rw [hm] at hget hnx
     have e9 := hnx.out
     rw [if_neg (by decide), List.append_nil] at e9
     replace e9 : Hid _ := e9
     clear O
     (repeat' first
  | with_reducible first | exact ⟨⟩ | (refine Brg.mk ?_; intros) | refine Two.mk ?_ ?_
  | refine gs ?_
  | refine sx ?_)
     refine next_k hk hlt ?_ FR
     (repeat' first
  | with_reducible first | exact ⟨⟩ | (refine Brg.mk ?_; intros) | refine Two.mk ?_ ?_
  | refine gs ?_
  | refine sx ?_)
     refine ⟨_, rfl, ?_⟩
     rw [e9.out]
     exact hownH.out
   ·rintro g wv2 nk2 sk2 bk2 ⟨hi, hf, v, hv5, hown⟩
    simp (maxDischargeDepth := 3) only [U, ↓reduceIte, Nat.reduceEqDiff, *] at hf
    rw [hpe'.out] at hown
    have one9 := hown.one
    have hown' : Hid (∀ w', Ext wv2 w' → Own w' wr.heap.size 3 1 v ((sortI (intL PL)).map intC)) := fun w' h => hown.ext h
    have r9 := Ext.refl wv2
    clear hown
    (repeat' first
  | with_reducible first | exact ⟨⟩ | (refine Brg.mk ?_; intros) | refine Two.mk ?_ ?_
  | refine gs ?_
  | refine sx ?_)
    exact ⟨_, _, rfl, (osx.out _ FR).more hwwk, (hown'.out _ FR).more hwr⟩
end
end Go.Proofs.YtphciegaokdolaaGreatDoor
