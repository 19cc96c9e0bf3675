
/- The document's answer, layer 30: Asked, Explains. -/
import Derived.Test.YtmcdgepfhpakiaaGreatExplain30
import Derived.Test.YtmcdgepfhpakiaaGreatRef19b
namespace Go.Proofs.YtmcdgepfhpakiaaGreat
set_option linter.unusedSimpArgs false
set_option linter.unusedVariables false
open Go Go.RowKit
set_option maxRecDepth 100000
set_option linter.unusedSectionVars false
set_option maxHeartbeats 2000000
def nV (n : Nat) : Value := .int .i64 n
section
variable {w : World} {B : Nat} {u : SiteVs} {sd : SiteD} {wv : Value} {l : List SrvV} {hv rv hs' rs' sv pv : Value} {seen x : WorldD} {steps : List StepD} {places : List Nat}
theorem ref30Asked (hB : B ≤ w.heap.size) (hs : SiteR w B u sd) (hl : WishR w B wv l) (hx0 : WorldR w B hv rv x) (hst : Sl w B (some 4) 4 sv (steps.map stepV)) (hy0 : WorldR w B hs' rs' seen) : Ret Tryz.prog 9 #[.agg (siteC u sd).toArray, .agg #[wv], .agg #[hv, rv], sv, .agg #[hs', rs']] w (intV (if askB sd (l.map (·.x)) x steps seen = true then 0 else 1)) := by
  have hn : Now w := trivial
  have hx : Ext w w := Ext.refl w
  have hsk := hs.sk hB
  have hlk := hl.sk hB
  have hx' := hx0.sk hB
  have hy' := hy0.sk hB
  have hS := hsk.2.2.2.2.2.2
  have hW := hlk.2.2
  have hX := hx'.2.2.2.2
  have hY := hy'.2.2.2.2
  have hq := hst.k hB
  have hmax := hst.max_
  have bB : Bl B w w := Bl.refl hB
  cases c1 : validB sd (l.map (·.x)) x
  · have e : askB sd (l.map (·.x)) x steps seen = false := by simp [askB, c1]
    rw [e]
    (refine callsV_of Tryz.func9 rfl KR KR ?_; rw [Tryz.results9])
    (repeat' first
    | ((with_reducible refine at_row ?_); refine row1_a fun _ _ _ _ _ _ _ => ?_)
    | with_reducible first | (first | apply alloc_k | apply row_k); intro _ _ _ _ _ _ | (first | apply fork | apply forkp) <;> intro _ | refine forke (fun _ => ?_) fun _ _ => ?_ | refine tail_k fun _ _ _ => ?_ | refine ext_k fun _ _ _ => ?_ | refine need_a ?_ | refine st_agg KR rfl ON fun _ _ _ _ => ?_ | refine wpd_q_a ?_
    | ((with_reducible refine at_f 26 ?_); refine ret_k (ref13Valid (B := B) (x := x) FR (hS _ FR) (hW _ FR) (hX _ FR)) fun _ _ _ => ?_)
    | simp (maxDischargeDepth := 3) only [↓X, ↓Y, ↓Q, S1, ↓reduceIte, Nat.reduceEqDiff, Nat.reduceAdd, Int.reduceLT, Int.reduceLE, Int.reduceNeg, Int.reduceBEq, Int.reduceBNe, Int.reduceEq, Nat.reduceLeDiff, Nat.reduceMul, Nat.reduceLT, *, siteC]
    | simp (singlePass := true) (maxDischargeDepth := 99) only [*, S2, Nat.reduceLT, siteC])
  cases c2 : validB sd (l.map (·.x)) seen
  · have e : askB sd (l.map (·.x)) x steps seen = false := by simp [askB, c2]
    rw [e]
    (refine callsV_of Tryz.func9 rfl KR KR ?_; rw [Tryz.results9])
    (repeat' first
    | ((with_reducible refine at_row ?_); refine row1_a fun _ _ _ _ _ _ _ => ?_)
    | with_reducible first | (first | apply alloc_k | apply row_k); intro _ _ _ _ _ _ | (first | apply fork | apply forkp) <;> intro _ | refine forke (fun _ => ?_) fun _ _ => ?_ | refine tail_k fun _ _ _ => ?_ | refine ext_k fun _ _ _ => ?_ | refine need_a ?_ | refine st_agg KR rfl ON fun _ _ _ _ => ?_ | refine wpd_q_a ?_
    | ((with_reducible refine at_f 26 ?_); refine ret_k (ref13Valid (B := B) (x := x) FR (hS _ FR) (hW _ FR) (hX _ FR)) fun _ _ _ => ?_)
    | ((with_reducible refine at_f 26 ?_); refine ret_k (ref13Valid (B := B) (x := seen) FR (hS _ FR) (hW _ FR) (hY _ FR)) fun _ _ _ => ?_)
    | simp (maxDischargeDepth := 3) only [↓X, ↓Y, ↓Q, S1, ↓reduceIte, Nat.reduceEqDiff, Nat.reduceAdd, Int.reduceLT, Int.reduceLE, Int.reduceNeg, Int.reduceBEq, Int.reduceBNe, Int.reduceEq, Nat.reduceLeDiff, Nat.reduceMul, Nat.reduceLT, *, siteC]
    | simp (singlePass := true) (maxDischargeDepth := 99) only [*, S2, Nat.reduceLT, siteC])
  by_cases c3 : (12 : Int) < steps.length
  · have e : askB sd (l.map (·.x)) x steps seen = false := by
      have : ¬ steps.length ≤ 12 := by omega
      simp [askB, this]
    rw [e]
    (refine callsV_of Tryz.func9 rfl KR KR ?_; rw [Tryz.results9])
    (repeat' first
    | ((with_reducible refine at_row ?_); refine row1_a fun _ _ _ _ _ _ _ => ?_)
    | with_reducible first | (first | apply alloc_k | apply row_k); intro _ _ _ _ _ _ | (first | apply fork | apply forkp) <;> intro _ | refine forke (fun _ => ?_) fun _ _ => ?_ | refine tail_k fun _ _ _ => ?_ | refine ext_k fun _ _ _ => ?_ | refine need_a ?_ | refine st_agg KR rfl ON fun _ _ _ _ => ?_ | refine wpd_q_a ?_
    | ((with_reducible refine at_f 26 ?_); refine ret_k (ref13Valid (B := B) (x := x) FR (hS _ FR) (hW _ FR) (hX _ FR)) fun _ _ _ => ?_)
    | ((with_reducible refine at_f 26 ?_); refine ret_k (ref13Valid (B := B) (x := seen) FR (hS _ FR) (hW _ FR) (hY _ FR)) fun _ _ _ => ?_)
    | simp (maxDischargeDepth := 3) only [↓X, ↓Y, ↓Q, S1, ↓reduceIte, Nat.reduceEqDiff, Nat.reduceAdd, Int.reduceLT, Int.reduceLE, Int.reduceNeg, Int.reduceBEq, Int.reduceBNe, Int.reduceEq, Nat.reduceLeDiff, Nat.reduceMul, Nat.reduceLT, *, siteC]
    | simp (singlePass := true) (maxDischargeDepth := 99) only [*, S2, Nat.reduceLT, siteC])
  have h12 : steps.length ≤ 12 := by omega
  have e : askB sd (l.map (·.x)) x steps seen = steps.all (stepB2 sd (l.map (·.x))) := by simp [askB, c1, c2, h12]
  rw [e]
  clear e
  (refine callsV_of Tryz.func9 rfl KR KR ?_; rw [Tryz.results9])
  (repeat' first
    | ((with_reducible refine at_row ?_); refine row1_a fun _ _ _ _ _ _ _ => ?_)
    | with_reducible first | (first | apply alloc_k | apply row_k); intro _ _ _ _ _ _ | (first | apply fork | apply forkp) <;> intro _ | refine forke (fun _ => ?_) fun _ _ => ?_ | refine tail_k fun _ _ _ => ?_ | refine ext_k fun _ _ _ => ?_ | refine need_a ?_ | refine st_agg KR rfl ON fun _ _ _ _ => ?_ | refine wpd_q_a ?_
    | ((with_reducible refine at_f 26 ?_); refine ret_k (ref13Valid (B := B) (x := x) FR (hS _ FR) (hW _ FR) (hX _ FR)) fun _ _ _ => ?_)
    | ((with_reducible refine at_f 26 ?_); refine ret_k (ref13Valid (B := B) (x := seen) FR (hS _ FR) (hW _ FR) (hY _ FR)) fun _ _ _ => ?_)
    | simp (maxDischargeDepth := 3) only [↓X, ↓Y, ↓Q, S1, ↓reduceIte, Nat.reduceEqDiff, Nat.reduceAdd, Int.reduceLT, Int.reduceLE, Int.reduceNeg, Int.reduceBEq, Int.reduceBNe, Int.reduceEq, Nat.reduceLeDiff, Nat.reduceMul, Nat.reduceLT, *, siteC]
    | simp (singlePass := true) (maxDischargeDepth := 99) only [*, S2, Nat.reduceLT, siteC])
  refine loop_k steps.length (fun g0 k g _ => g 11 = .int .i64 (k : Int) ∧ (g 3 = g0 3 ∧ g 5 = g0 5 ∧ g 6 = g0 6) ∧ Hid (∀ j (h : j < steps.length), j < k → stepB2 sd (l.map (·.x)) steps[j] = true)) KR hmax ?_ ?_ ?_
  · (repeat' first
    | ((with_reducible refine at_row ?_); refine row1_a fun _ _ _ _ _ _ _ => ?_)
    | with_reducible first | (first | apply alloc_k | apply row_k); intro _ _ _ _ _ _ | (first | apply fork | apply forkp) <;> intro _ | refine forke (fun _ => ?_) fun _ _ => ?_ | refine tail_k fun _ _ _ => ?_ | refine ext_k fun _ _ _ => ?_ | refine need_a ?_ | refine st_agg KR rfl ON fun _ _ _ _ => ?_ | refine wpd_q_a ?_
    | simp (maxDischargeDepth := 3) only [↓X, ↓Y, ↓Q, S1, ↓reduceIte, Nat.reduceEqDiff, Nat.reduceAdd, Int.reduceLT, Int.reduceLE, Int.reduceNeg, Int.reduceBEq, Int.reduceBNe, Int.reduceEq, Nat.reduceLeDiff, Nat.reduceMul, Nat.reduceLT, *]
    | simp (singlePass := true) (maxDischargeDepth := 99) only [*, S2, Nat.reduceLT])
    all_goals exact fun j _ h => absurd h (by omega)
  · rintro k m g wk hk hlt _ _ _ hw ⟨hi, hf, hp⟩
    simp (maxDischargeDepth := 3) only [U, ↓reduceIte, Nat.reduceEqDiff, *] at hf
    (repeat' first
    | ((with_reducible refine wpd_at 6 ?_); refine wpd_tail 6 KR KR KR ?_)
    | ((with_reducible refine at_row ?_); refine row1_a fun _ _ _ _ _ _ _ => ?_)
    | with_reducible first | (first | apply alloc_k | apply row_k); intro _ _ _ _ _ _ | (first | apply fork | apply forkp) <;> intro _ | refine forke (fun _ => ?_) fun _ _ => ?_ | refine tail_k fun _ _ _ => ?_ | refine ext_k fun _ _ _ => ?_ | refine need_a ?_ | refine st_agg KR rfl ON fun _ _ _ _ => ?_ | refine wpd_q_a ?_
    | ((with_reducible refine at_f 27 ?_); refine ret_k (ref19Valid (B := B) (st := steps[k]) FR (hS _ FR) (hW _ FR)) fun _ _ _ => ?_)
    | simp (maxDischargeDepth := 3) only [↓X, ↓Y, ↓Q, S1, ↓reduceIte, Nat.reduceEqDiff, Nat.reduceAdd, Int.reduceLT, Int.reduceLE, Int.reduceNeg, Int.reduceBEq, Int.reduceBNe, Int.reduceEq, Nat.reduceLeDiff, Nat.reduceMul, Nat.reduceLT, *, siteC, stepV, stepC]
    | simp (singlePass := true) (maxDischargeDepth := 99) only [*, S2, Nat.reduceLT, siteC, stepV, stepC])
    · rename_i c5
      refine next_k hk hlt ?_ FR
      (repeat' first
    | ((with_reducible refine at_row ?_); refine row1_a fun _ _ _ _ _ _ _ => ?_)
    | with_reducible first | (first | apply alloc_k | apply row_k); intro _ _ _ _ _ _ | (first | apply fork | apply forkp) <;> intro _ | refine forke (fun _ => ?_) fun _ _ => ?_ | refine tail_k fun _ _ _ => ?_ | refine ext_k fun _ _ _ => ?_ | refine need_a ?_ | refine st_agg KR rfl ON fun _ _ _ _ => ?_ | refine wpd_q_a ?_
    | simp (maxDischargeDepth := 3) only [↓X, ↓Y, ↓Q, S1, ↓reduceIte, Nat.reduceEqDiff, Nat.reduceAdd, Int.reduceLT, Int.reduceLE, Int.reduceNeg, Int.reduceBEq, Int.reduceBNe, Int.reduceEq, Nat.reduceLeDiff, Nat.reduceMul, Nat.reduceLT, *]
    | simp (singlePass := true) (maxDischargeDepth := 99) only [*, S2, Nat.reduceLT])
      all_goals
        refine fun j hj hjk => ?_
        rcases Nat.lt_or_eq_of_le (Nat.le_of_lt_succ hjk) with h3 | rfl
        · exact hp.out j hj h3
        · exact c5
    · rename_i c5
      have : steps.all (stepB2 sd (l.map (·.x))) = false := by
        rw [← Bool.not_eq_true, List.all_eq_true]
        intro h
        rw [h _ (List.getElem_mem hlt)] at c5
        cases c5
      rw [this]
      rfl
  · rintro g wk _ _ _ ⟨hi, hf, hp⟩
    simp (maxDischargeDepth := 3) only [U, ↓reduceIte, Nat.reduceEqDiff, *] at hf
    (repeat' first
    | ((with_reducible refine at_row ?_); refine row1_a fun _ _ _ _ _ _ _ => ?_)
    | with_reducible first | (first | apply alloc_k | apply row_k); intro _ _ _ _ _ _ | (first | apply fork | apply forkp) <;> intro _ | refine forke (fun _ => ?_) fun _ _ => ?_ | refine tail_k fun _ _ _ => ?_ | refine ext_k fun _ _ _ => ?_ | refine need_a ?_ | refine st_agg KR rfl ON fun _ _ _ _ => ?_ | refine wpd_q_a ?_
    | simp (maxDischargeDepth := 3) only [↓X, ↓Y, ↓Q, S1, ↓reduceIte, Nat.reduceEqDiff, Nat.reduceAdd, Int.reduceLT, Int.reduceLE, Int.reduceNeg, Int.reduceBEq, Int.reduceBNe, Int.reduceEq, Nat.reduceLeDiff, Nat.reduceMul, Nat.reduceLT, *]
    | simp (singlePass := true) (maxDischargeDepth := 99) only [*, S2, Nat.reduceLT])
    have : steps.all (stepB2 sd (l.map (·.x))) = true := List.all_eq_true.2 fun st h => by
      obtain ⟨j, hj, rfl⟩ := List.getElem_of_mem h
      exact hp.out j hj hj
    rw [this]
    rfl
theorem expl_snoc {ap : WorldD → Nat → Option WorldD} {seen x : WorldD} {l : List Nat} {k : Nat} (hk : k < l.length) : explB ap seen x (l.drop k) = match ap x l[k] with
    | some y => explB ap seen y (l.drop (k + 1))
    | none => false := by
  rw [List.drop_eq_getElem_cons hk]
  rfl
theorem ref30Explains (hB : B ≤ w.heap.size) (hs : SiteR w B u sd) (hl : WishR w B wv l) (hx0 : WorldR w B hv rv x) (hst : Sl w B (some 4) 4 sv (steps.map stepV)) (hpl : Sl w B none 1 pv (places.map nV)) (hy0 : WorldR w B hs' rs' seen) (hin : ∀ p ∈ places, p < steps.length) : Ret Tryz.prog 12 #[.agg (siteC u sd).toArray, .agg #[wv], .agg #[hv, rv], sv, pv, .agg #[hs', rs']] w (.bool (explB (apS sd (l.map (·.x)) steps) seen x places)) := by
  have hn : Now w := trivial
  have hx : Ext w w := Ext.refl w
  have hsk := hs.sk hB
  have hlk := hl.sk hB
  have hx' := hx0.sk hB
  have hy' := hy0.sk hB
  have hS := hsk.2.2.2.2.2.2
  have hW := hlk.2.2
  have hX := hx'.2.2.2.2
  have hY := hy'.2.2.2.2
  have hq := hst.k hB
  have hpq := hpl.k hB
  have hmax := hpl.max_
  have bB : Bl B w w := Bl.refl hB
  (refine callsV_of Tryz.func12 rfl KR KR ?_; rw [Tryz.results12])
  (repeat' first
    | ((with_reducible refine at_row ?_); refine row1_a fun _ _ _ _ _ _ _ => ?_)
    | with_reducible first | (first | apply alloc_k | apply row_k); intro _ _ _ _ _ _ | (first | apply fork | apply forkp) <;> intro _ | refine forke (fun _ => ?_) fun _ _ => ?_ | refine tail_k fun _ _ _ => ?_ | refine ext_k fun _ _ _ => ?_ | refine need_a ?_ | refine st_agg KR rfl ON fun _ _ _ _ => ?_ | refine wpd_q_a ?_
    | simp (maxDischargeDepth := 3) only [↓X, ↓Y, ↓Q, S1, ↓reduceIte, Nat.reduceEqDiff, Nat.reduceAdd, Int.reduceLT, Int.reduceLE, Int.reduceNeg, Int.reduceBEq, Int.reduceBNe, Int.reduceEq, Nat.reduceLeDiff, Nat.reduceMul, Nat.reduceLT, *, siteC]
    | simp (singlePass := true) (maxDischargeDepth := 99) only [*, S2, Nat.reduceLT, siteC])
  rename_i b6 w6 n6 k6 s6 q6 b7 w7 n7 k7 s7 q7 b8 w8 n8 k8 s8 q8 b11 wS nS k11 s11 q11
  have hB8 : B ≤ b8 := FR
  have hb8 : b8 < wS.heap.size := FR
  have hBS : B ≤ wS.heap.size := FR
  have hxS : Ext w wS := FR
  have hw8 : w.heap.size ≤ b8 := FR
  have bS : Bl B w wS := FR
  have n68 : ¬ b6 = b8 := by have h1 : b6 < w7.heap.size := FR; have h2 : w7.heap.size ≤ b8 := FR; omega
  have n78 : ¬ b7 = b8 := by have h1 : b7 < w7.heap.size := FR; have h2 : w7.heap.size ≤ b8 := FR; omega
  have n11 : ¬ b11 = b8 := by have h1 : b8 < w8.heap.size := FR; have h2 : w8.heap.size ≤ b11 := FR; omega
  have K8 := k8.2.1 wS FR
  clear k8
  refine loop_b b8 places.length (fun g0 k g w' => g 13 = .int .i64 (k : Int) ∧ (g 3 = g0 3 ∧ g 4 = g0 4 ∧ g 6 = g0 6 ∧ g 7 = g0 7 ∧ g 8 = g0 8 ∧ g 11 = g0 11) ∧ Hid (∃ y h r, Blk w' b8 36 [h, r] ∧ ((h = hv ∧ r = rv ∧ y = x) ∨ (OwnH w' wS.heap.size h y.hosts ∧ OwnP w' wS.heap.size r y.replicas)) ∧ explB (apS sd (l.map (·.x)) steps) seen y (places.drop k) = explB (apS sd (l.map (·.x)) steps) seen x places)) KR hmax hb8 ?_ ?_ ?_
  · (repeat' first
    | ((with_reducible refine at_row ?_); refine row1_a fun _ _ _ _ _ _ _ => ?_)
    | with_reducible first | (first | apply alloc_k | apply row_k); intro _ _ _ _ _ _ | (first | apply fork | apply forkp) <;> intro _ | refine forke (fun _ => ?_) fun _ _ => ?_ | refine tail_k fun _ _ _ => ?_ | refine ext_k fun _ _ _ => ?_ | refine need_a ?_ | refine st_agg KR rfl ON fun _ _ _ _ => ?_ | refine wpd_q_a ?_
    | simp (maxDischargeDepth := 3) only [↓X, ↓Y, ↓Q, S1, ↓reduceIte, Nat.reduceEqDiff, Nat.reduceAdd, Int.reduceLT, Int.reduceLE, Int.reduceNeg, Int.reduceBEq, Int.reduceBNe, Int.reduceEq, Nat.reduceLeDiff, Nat.reduceMul, Nat.reduceLT, *]
    | simp (singlePass := true) (maxDischargeDepth := 99) only [*, S2, Nat.reduceLT])
    all_goals exact ⟨x, hv, rv, K8, .inl ⟨rfl, rfl, rfl⟩, rfl⟩
  · rintro k m g wk hk hlt nk sk ck hbk hw ⟨hi, hf, hp⟩
    simp (maxDischargeDepth := 3) only [U, ↓reduceIte, Nat.reduceEqDiff, *] at hf
    obtain ⟨y, h, r, kb, hor, hex⟩ := hp.out
    have bBk : Bl B w wk := FR
    have hBk : B ≤ wk.heap.size := FR
    have hxwk : Ext w wk := FR
    have hyk : WorldR wk wk.heap.size h r y := by
      rcases hor with ⟨rfl, rfl, rfl⟩ | ⟨o1, o2⟩
      · have hXk := hX wk bBk
        exact ⟨hXk.h.more hBk, hXk.r.more hBk⟩
      · exact ⟨o1.slN (f := stateC), o2.slN (f := replC)⟩
    have k8 := kb.bk
    have hyq := hyk.sk (Nat.le_refl _)
    have hYk := hyq.2.2.2.2
    have hone : h.oneCell' = true ∧ r.oneCell' = true := ⟨hyk.h.one, hyk.r.one⟩
    have hpi : places[k] < steps.length := hin _ (List.getElem_mem hlt)
    have hpi' : (places[k] : Int) < (steps.length : Int) := by omega
    have rk := Ext.refl wk
    have bk : Bl wk.heap.size wk wk := Bl.refl (Nat.le_refl _)
    have hapk : apS sd (l.map (·.x)) steps y places[k] = if applyE sd (l.map (·.x)) y steps[places[k]] = 0 then some (applyW sd (l.map (·.x)) y steps[places[k]]) else none := by simp [apS, List.getElem?_eq_getElem hpi]
    have hrd := apply_iff (s := sd) (wl := l.map (·.x)) (x := y) (st := steps[places[k]])
    have hex2 := expl_snoc (ap := apS sd (l.map (·.x)) steps) (seen := seen) (x := y) hlt
    have hRe := fun w' (h1 : Bl B w w') (h2 : Bl wk.heap.size wk w') (h3 : wk.heap.size ≤ w'.heap.size) => ref19Ready (st := steps[places[k]]) (B := wk.heap.size) h3 ((hS w' h1).upE hBk) ((hW w' h1).upE hBk) (hYk w' h2)
    have hAp := fun w' (h1 : Bl B w w') (h2 : Bl wk.heap.size wk w') (h3 : wk.heap.size ≤ w'.heap.size) => ref19Apply (st := steps[places[k]]) (B := wk.heap.size) h3 ((hS w' h1).upE hBk) ((hW w' h1).upE hBk) (hYk w' h2)
    clear hp hor hyk kb
    rw [hex] at hex2
    by_cases hE : applyE sd (l.map (·.x)) y steps[places[k]] = 0
    · rw [hrd.1 hE] at hRe
      rw [hapk, if_pos hE] at hex2
      rw [hE] at hAp
      generalize applyW sd (l.map (·.x)) y steps[places[k]] = W' at *
      simp only at hex2
      rw [← hex]
      replace hex2 : Hid _ := hex2
      replace hex : Hid _ := hex
      clear hrd hE hapk
      (repeat' first
    | ((with_reducible refine wpd_at 6 ?_); refine wpd_hold ?_)
    | ((with_reducible refine wpd_at 4 ?_); refine wpd_tail 10 KR KR KR ?_)
    | ((with_reducible refine at_row ?_); refine row1_a fun _ _ _ _ _ _ _ => ?_)
    | with_reducible first | (first | apply alloc_k | apply row_k); intro _ _ _ _ _ _ | (first | apply fork | apply forkp) <;> intro _ | refine forke (fun _ => ?_) fun _ _ => ?_ | refine tail_k fun _ _ _ => ?_ | refine ext_k fun _ _ _ => ?_ | refine need_a ?_ | refine st_agg KR rfl ON fun _ _ _ _ => ?_ | refine wpd_q_a ?_
    | ((with_reducible refine at_f 10 ?_); refine ret_k (hRe _ FR FR FR) fun _ _ _ => ?_)
    | simp (maxDischargeDepth := 3) only [↓X, ↓Y, ↓Q, S1, ↓reduceIte, Nat.reduceEqDiff, Nat.reduceAdd, Int.reduceLT, Int.reduceLE, Int.reduceNeg, Int.reduceBEq, Int.reduceBNe, Int.reduceEq, Nat.reduceLeDiff, Nat.reduceMul, Nat.reduceLT, *, siteC, stepV, stepC, nV]
    | simp (singlePass := true) (maxDischargeDepth := 99) only [*, S2, Nat.reduceLT, siteC, stepV, stepC, nV])
      rename_i wR nR sR
      have rR := Ext.refl wR
      have hxR : Ext wk wR := FR
      have hwkR : wk.heap.size ≤ wR.heap.size := hxR.size
      unfold wpdH
      refine wpd_relS2 16 [(15, 14)] (fun iI s v w9 => match iI with
        | 0 => v = .agg (siteC u sd).toArray
        | 1 => v = .agg #[wv]
        | 2 => v = .agg #[h, r]
        | 3 => v = sv
        | 4 => v = pv
        | 5 => v = .int .i64 k
        | 6 => v = elemAt pv 1 k
        | 7 => v = nV places[k]
        | 8 => v = elemAt sv 4 places[k]
        | 9 => v = stepV steps[places[k]]
        | 10 => ∃ u, v = .tuple #[u, intV 0] ∧ OwnW wR.heap.size u w9 W'
        | 11 => ∃ u, v = .tuple #[u, intV 0] ∧ OwnW wR.heap.size u w9 W'
        | 12 => OwnW wR.heap.size v w9 W'
        | 13 => v = intV 0
        | 14 => ∃ b, v = .pointer (some ⟨b, 0, none⟩) ∧ (wR.heap.size ≤ b ∧ b < w9.heap.size) ∧ (s = false → Blk w9 b 36 [.slice none 0 0, .slice none 0 0]) ∧ (s = true → ∃ h r, Blk w9 b 36 [h, r] ∧ OwnH w9 wR.heap.size h W'.hosts ∧ OwnP w9 wR.heap.size r W'.replicas)
        | 15 => True
        | _ => False) (fun iI => iI == 14) ?_ KR KR KR KR ?_ ?_ ?_
      · intro iI s v w9 hF hR b hb
        match iI, hF, hR with
        | 0, hF, _ => exact absurd hF (by decide)
        | 1, hF, _ => exact absurd hF (by decide)
        | 2, hF, _ => exact absurd hF (by decide)
        | 3, hF, _ => exact absurd hF (by decide)
        | 4, hF, _ => exact absurd hF (by decide)
        | 5, hF, _ => exact absurd hF (by decide)
        | 6, hF, _ => exact absurd hF (by decide)
        | 7, hF, _ => exact absurd hF (by decide)
        | 8, hF, _ => exact absurd hF (by decide)
        | 9, hF, _ => exact absurd hF (by decide)
        | 10, hF, _ => exact absurd hF (by decide)
        | 11, hF, _ => exact absurd hF (by decide)
        | 12, hF, _ => exact absurd hF (by decide)
        | 13, hF, _ => exact absurd hF (by decide)
        | 14, _, ⟨b2, e, h1, _⟩ => subst e; obtain rfl := Option.some.inj hb; exact h1.2
        | 15, hF, _ => exact absurd hF (by decide)
      · intro iI s v w1 w2 hR hx9
        match iI, hR with
        | 0, h => exact h
        | 1, h => exact h
        | 2, h => exact h
        | 3, h => exact h
        | 4, h => exact h
        | 5, h => exact h
        | 6, h => exact h
        | 7, h => exact h
        | 8, h => exact h
        | 9, h => exact h
        | 10, h => exact (let ⟨u, e, o⟩ := h; ⟨u, e, o.ext hx9⟩)
        | 11, h => exact (let ⟨u, e, o⟩ := h; ⟨u, e, o.ext hx9⟩)
        | 12, h => exact OwnW.ext h hx9
        | 13, h => exact h
        | 14, ⟨b, e, h1, h2, h3⟩ => exact ⟨b, e, ⟨h1.1, Nat.lt_of_lt_of_le h1.2 hx9.size⟩, fun hs => (h2 hs).ext hx9, fun hs => (fun h => (let ⟨a, b, k, o1, o2⟩ := h; ⟨a, b, k.ext hx9, o1.ext hx9, o2.ext hx9⟩)) (h3 hs)⟩
        | 15, h => exact h
      · intro iI oO hi ho gF w9 S9 hx9 hdep hag
        have s9 := hx9.st
        have n9 : Now w9 := trivial
        have r9 := Ext.refl w9
        have z9 := hx9.size
        rcases iI with _|_|_|_|_|_|_|_|_|_|_|_|_|_|_|_|iI
        have e := Option.some.inj ho
        subst e
        have a6 := hag.at 6 KR
        simp only [S5, ↓reduceIte, Nat.reduceEqDiff, initF, *] at a6
        clear hag hdep ho
        refine ⟨fun _ _ => ?_, fun _ hF => absurd hF (by decide), fun a9 pa da hal => by simp [alL] at hal⟩
        refine relStep_off rfl ?_
        rotate_left
        have e := Option.some.inj ho
        subst e
        have a7 := hag.at 7 KR
        simp only [S5, ↓reduceIte, Nat.reduceEqDiff, initF, *] at a7
        clear hag hdep ho
        refine ⟨fun _ _ => ?_, fun _ hF => absurd hF (by decide), fun a9 pa da hal => by simp [alL] at hal⟩
        refine relStep_off rfl ?_
        rotate_left
        have e := Option.some.inj ho
        subst e
        have a8 := hag.at 8 KR
        simp only [S5, ↓reduceIte, Nat.reduceEqDiff, initF, *] at a8
        clear hag hdep ho
        refine ⟨fun _ _ => ?_, fun _ hF => absurd hF (by decide), fun a9 pa da hal => by simp [alL] at hal⟩
        refine relStep_off rfl ?_
        rotate_left
        have e := Option.some.inj ho
        subst e
        have a3 := hag.at 3 KR
        simp only [S5, ↓reduceIte, Nat.reduceEqDiff, initF, *] at a3
        clear hag hdep ho
        refine ⟨fun _ _ => ?_, fun _ hF => absurd hF (by decide), fun a9 pa da hal => by simp [alL] at hal⟩
        refine relStep_off rfl ?_
        rotate_left
        have e := Option.some.inj ho
        subst e
        have a4 := hag.at 4 KR
        simp only [S5, ↓reduceIte, Nat.reduceEqDiff, initF, *] at a4
        clear hag hdep ho
        refine ⟨fun _ _ => ?_, fun _ hF => absurd hF (by decide), fun a9 pa da hal => by simp [alL] at hal⟩
        refine relStep_off rfl ?_
        rotate_left
        have e := Option.some.inj ho
        subst e
        have a13 := hag.at 13 KR
        simp only [S5, ↓reduceIte, Nat.reduceEqDiff, initF, *] at a13
        clear hag hdep ho
        refine ⟨fun _ _ => ?_, fun _ hF => absurd hF (by decide), fun a9 pa da hal => by simp [alL] at hal⟩
        refine relStep_off rfl ?_
        rotate_left
        have e := Option.some.inj ho
        subst e
        have d4 : (gF 39) = pv := hdep ⟨4, .data⟩ (by simp) rfl _ _ rfl rfl
        have d5 : (gF 40) = .int .i64 k := hdep ⟨5, .data⟩ (by simp) rfl _ _ rfl rfl
        clear hag hdep ho
        refine ⟨fun _ _ => ?_, fun _ hF => absurd hF (by decide), fun a9 pa da hal => by simp [alL] at hal⟩
        refine relStep_off rfl ?_
        rotate_left
        have e := Option.some.inj ho
        subst e
        have d6 : (gF 41) = elemAt pv 1 k := hdep ⟨6, .data⟩ (by simp) rfl _ _ rfl rfl
        clear hag hdep ho
        refine ⟨fun _ _ => ?_, fun _ hF => absurd hF (by decide), fun a9 pa da hal => by simp [alL] at hal⟩
        refine relStep_off rfl ?_
        rotate_left
        have e := Option.some.inj ho
        subst e
        have d3 : (gF 38) = sv := hdep ⟨3, .data⟩ (by simp) rfl _ _ rfl rfl
        have d7 : (gF 42) = nV places[k] := hdep ⟨7, .data⟩ (by simp) rfl _ _ rfl rfl
        clear hag hdep ho
        refine ⟨fun _ _ => ?_, fun _ hF => absurd hF (by decide), fun a9 pa da hal => by simp [alL] at hal⟩
        refine relStep_off rfl ?_
        rotate_left
        have e := Option.some.inj ho
        subst e
        have d8 : (gF 43) = elemAt sv 4 places[k] := hdep ⟨8, .data⟩ (by simp) rfl _ _ rfl rfl
        clear hag hdep ho
        refine ⟨fun _ _ => ?_, fun _ hF => absurd hF (by decide), fun a9 pa da hal => by simp [alL] at hal⟩
        refine relStep_off rfl ?_
        rotate_left
        have e := Option.some.inj ho
        subst e
        have d0 : (gF 35) = .agg (siteC u sd).toArray := hdep ⟨0, .data⟩ (by simp) rfl _ _ rfl rfl
        have d1 : (gF 36) = .agg #[wv] := hdep ⟨1, .data⟩ (by simp) rfl _ _ rfl rfl
        have d2 : (gF 37) = .agg #[h, r] := hdep ⟨2, .data⟩ (by simp) rfl _ _ rfl rfl
        have d9 : (gF 44) = stepV steps[places[k]] := hdep ⟨9, .data⟩ (by simp) rfl _ _ rfl rfl
        clear hag hdep ho
        refine ⟨fun _ _ => ?_, fun _ hF => absurd hF (by decide), fun a9 pa da hal => by simp [alL] at hal⟩
        refine relStep_off rfl ?_
        rotate_left
        have e := Option.some.inj ho
        subst e
        have d10 : ∃ u, (gF 45) = .tuple #[u, intV 0] ∧ OwnW wR.heap.size u w9 W' := hdep ⟨10, .data⟩ (by simp) rfl _ _ rfl rfl
        obtain ⟨u7, e7, o7⟩ := d10
        clear hag hdep ho
        refine ⟨fun _ _ => ?_, fun _ hF => absurd hF (by decide), fun a9 pa da hal => by simp [alL] at hal⟩
        refine relStep_off rfl ?_
        rotate_left
        have e := Option.some.inj ho
        subst e
        have d11 : ∃ u, (gF 34) = .tuple #[u, intV 0] ∧ OwnW wR.heap.size u w9 W' := hdep ⟨11, .data⟩ (by simp) rfl _ _ rfl rfl
        obtain ⟨u8, e8, o8⟩ := d11
        clear hag hdep ho
        refine ⟨fun _ _ => ?_, fun _ hF => absurd hF (by decide), fun a9 pa da hal => by simp [alL] at hal⟩
        refine relStep_off rfl ?_
        rotate_left
        have e := Option.some.inj ho
        subst e
        have d11 : ∃ u, (gF 34) = .tuple #[u, intV 0] ∧ OwnW wR.heap.size u w9 W' := hdep ⟨11, .data⟩ (by simp) rfl _ _ rfl rfl
        obtain ⟨u8, e8, o8⟩ := d11
        clear hag hdep ho
        refine ⟨fun _ _ => ?_, fun _ hF => absurd hF (by decide), fun a9 pa da hal => by simp [alL] at hal⟩
        refine relStep_off rfl ?_
        rotate_left
        have e := Option.some.inj ho
        subst e
        clear hag hdep ho
        refine ⟨fun _ hF => absurd hF (by decide), fun _ _ => ?_, fun a9 pa da hal => by simp [alL] at hal⟩
        refine relStep_off rfl ?_
        rotate_left
        have e := Option.some.inj ho
        subst e
        have d14 : ∃ b, (gF 14) = .pointer (some ⟨b, 0, none⟩) ∧ (wR.heap.size ≤ b ∧ b < w9.heap.size) ∧ ((S9 14) = false → Blk w9 b 36 [.slice none 0 0, .slice none 0 0]) ∧ ((S9 14) = true → ∃ h r, Blk w9 b 36 [h, r] ∧ OwnH w9 wR.heap.size h W'.hosts ∧ OwnP w9 wR.heap.size r W'.replicas) := hdep ⟨14, .data⟩ (by simp) rfl _ _ rfl rfl
        obtain ⟨b14, e14, ⟨q14, l14⟩, hz14, _⟩ := d14
        have d12 : OwnW wR.heap.size (gF 46) w9 W' := hdep ⟨12, .data⟩ (by simp) rfl _ _ rfl rfl
        obtain ⟨h9, r9', e9, oh9, or9⟩ := d12
        have H9 := oh9.one
        have R9 := or9.one
        clear hag hdep ho
        refine ⟨fun h => by simp [alL] at h, fun h => by simp [alL] at h, fun a9 pa da hal hS9 hpa hda => ?_⟩
        obtain rfl : 14 = a9 := by simpa [alL] using hal
        obtain rfl := Option.some.inj hpa
        obtain rfl := Option.some.inj hda
        have hz := hz14 hS9
        clear hal hpa hda hz14
        refine relStep_off rfl ?_
        rotate_left
        · omega
        all_goals (repeat' first
    | ((with_reducible refine at_row ?_); refine row1_a fun _ _ _ _ _ _ _ => ?_)
    | with_reducible first | (first | apply alloc_k | apply row_k); intro _ _ _ _ _ _ | (first | apply fork | apply forkp) <;> intro _ | refine forke (fun _ => ?_) fun _ _ => ?_ | refine tail_k fun _ _ _ => ?_ | refine ext_k fun _ _ _ => ?_ | refine need_a ?_ | refine st_agg KR rfl ON fun _ _ _ _ => ?_ | refine wpd_q_a ?_
    | simp (maxDischargeDepth := 3) only [↓X, ↓Y, ↓Q, S1, ↓reduceIte, Nat.reduceEqDiff, Nat.reduceAdd, Int.reduceLT, Int.reduceLE, Int.reduceNeg, Int.reduceBEq, Int.reduceBNe, Int.reduceEq, Nat.reduceLeDiff, Nat.reduceMul, Nat.reduceLT, *, siteC, stepV, stepC, nV]
    | simp (singlePass := true) (maxDischargeDepth := 99) only [*, S2, Nat.reduceLT, siteC, stepV, stepC, nV])
        all_goals first
          | (refine CallsV.mono (hAp _ FR FR FR) fun v w10 hh => ⟨hh.1, ?_⟩; obtain ⟨_, u0, rfl, ho⟩ := hh; exact ⟨u0, rfl, ho.more z9⟩)
          | (exact ⟨u7, rfl, o7⟩)
          | (exact o8)
          | (rename_i b10 w10 n10 k10 s10 q10; exact ⟨⟨_, rfl, ⟨FR, FR⟩, fun _ => k10.2.1 _ k10.2.2.1, fun h => absurd h (by decide)⟩, fun b hb => by obtain rfl := Option.some.inj hb; exact FR⟩)
          | (
              refine stT_agg (w0 := w9) (vs := [h9, r9']) hz rfl KR rfl (by simp [H9, R9]) fun w10 hb10 hc => ⟨b14, hc, q14, ⟨b14, (by first | exact e14 | rfl), ⟨q14, Nat.lt_of_lt_of_le l14 hc.size⟩, fun h => absurd h (by decide), fun _ => ⟨h9, r9', hb10, oh9.fr hz hc (.inl (by decide)), or9.fr hz hc (.inl (by decide))⟩⟩, ?_⟩
              intro iI s v hne hN hR
              match iI, hN, hR with
              | 0, _, h | 1, _, h | 2, _, h | 3, _, h | 4, _, h | 5, _, h | 6, _, h | 7, _, h | 8, _, h | 9, _, h | 13, _, h | 15, _, h => exact h
              | 10, _, h => exact (let ⟨u, e, o⟩ := h; ⟨u, e, ownW_frE o hz hc⟩)
              | 11, _, h => exact (let ⟨u, e, o⟩ := h; ⟨u, e, ownW_frE o hz hc⟩)
              | 12, _, h => exact ownW_frE h hz hc
              | 14, _, _ => exact absurd rfl hne)
      · intro g9 w9 hx9 hR hDis hag
        have s9 := hx9.st
        have n9 : Now w9 := trivial
        have r9 := Ext.refl w9
        have z9 := hx9.size
        have d13 : (g9 47) = intV 0 := hR 13 _ _ (by decide) rfl rfl
        have d14 : ∃ b, (g9 14) = .pointer (some ⟨b, 0, none⟩) ∧ (wR.heap.size ≤ b ∧ b < w9.heap.size) ∧ (true = false → Blk w9 b 36 [.slice none 0 0, .slice none 0 0]) ∧ (true = true → ∃ h r, Blk w9 b 36 [h, r] ∧ OwnH w9 wR.heap.size h W'.hosts ∧ OwnP w9 wR.heap.size r W'.replicas) := hR 14 _ _ (by decide) rfl rfl
        obtain ⟨b14, e14, ⟨q14, _⟩, _, f14⟩ := d14
        replace f14 := f14 rfl
        have nw14 := Nw.of q14
        obtain ⟨hA, rA, kwA, ohA, orA⟩ := f14
        have KWA := kwA.bk
        have HA := ohA.o
        have RA := orA.o
        clear kwA ohA orA
        have a3 := hag.at 3 KR
        have a4 := hag.at 4 KR
        have a6 := hag.at 6 KR
        have a7 := hag.at 7 KR
        have a8 := hag.at 8 KR
        have a11 := hag.at 11 KR
        have a13 := hag.at 13 KR
        simp only [S5, ↓reduceIte, Nat.reduceEqDiff, initF, *] at a3 a4 a6 a7 a8 a11 a13
        clear hag hR hDis
        simp only [List.drop_succ_cons, List.drop_zero]
        have hSk : wS.heap.size ≤ wR.heap.size := FR
        have hw8R : ¬ b8 = b14 := by have h1 : b8 < wR.heap.size := FR; omega
        (repeat' first
    | ((with_reducible refine at_row ?_); refine row1_a fun _ _ _ _ _ _ _ => ?_)
    | with_reducible first | (first | apply alloc_k | apply row_k); intro _ _ _ _ _ _ | (first | apply fork | apply forkp) <;> intro _ | refine forke (fun _ => ?_) fun _ _ => ?_ | refine tail_k fun _ _ _ => ?_ | refine ext_k fun _ _ _ => ?_ | refine need_a ?_ | refine st_agg KR rfl ON fun _ _ _ _ => ?_ | refine wpd_q_a ?_
    | simp (maxDischargeDepth := 3) only [↓X, ↓Y, ↓Q, S1, ↓reduceIte, Nat.reduceEqDiff, Nat.reduceAdd, Int.reduceLT, Int.reduceLE, Int.reduceNeg, Int.reduceBEq, Int.reduceBNe, Int.reduceEq, Nat.reduceLeDiff, Nat.reduceMul, Nat.reduceLT, *]
    | simp (singlePass := true) (maxDischargeDepth := 99) only [*, S2, Nat.reduceLT])
        rename_i wz nz kz sz
        refine next_b hk hlt ?_ FR
        (repeat' first
    | ((with_reducible refine at_row ?_); refine row1_a fun _ _ _ _ _ _ _ => ?_)
    | with_reducible first | (first | apply alloc_k | apply row_k); intro _ _ _ _ _ _ | (first | apply fork | apply forkp) <;> intro _ | refine forke (fun _ => ?_) fun _ _ => ?_ | refine tail_k fun _ _ _ => ?_ | refine ext_k fun _ _ _ => ?_ | refine need_a ?_ | refine st_agg KR rfl ON fun _ _ _ _ => ?_ | refine wpd_q_a ?_
    | simp (maxDischargeDepth := 3) only [↓X, ↓Y, ↓Q, S1, ↓reduceIte, Nat.reduceEqDiff, Nat.reduceAdd, Int.reduceLT, Int.reduceLE, Int.reduceNeg, Int.reduceBEq, Int.reduceBNe, Int.reduceEq, Nat.reduceLeDiff, Nat.reduceMul, Nat.reduceLT, *]
    | simp (singlePass := true) (maxDischargeDepth := 99) only [*, S2, Nat.reduceLT])
        all_goals exact ⟨W', hA, rA, kz.2.1 _ FR, .inr ⟨(HA.1 _ FR).more hSk, (RA.1 _ FR).more hSk⟩, hex2.out.symm.trans hex.out.symm⟩
    · have hr : readyB sd (l.map (·.x)) y steps[places[k]] = false := by rw [← Bool.not_eq_true]; exact fun h => hE (hrd.2 h)
      rw [hr] at hRe
      rw [hapk, if_neg hE] at hex2
      simp only at hex2
      rw [hex2]
      clear hAp hrd hE hapk hex hex2
      (repeat' first
    | ((with_reducible refine wpd_at 4 ?_); refine wpd_tail 10 KR KR KR ?_)
    | ((with_reducible refine at_row ?_); refine row1_a fun _ _ _ _ _ _ _ => ?_)
    | with_reducible first | (first | apply alloc_k | apply row_k); intro _ _ _ _ _ _ | (first | apply fork | apply forkp) <;> intro _ | refine forke (fun _ => ?_) fun _ _ => ?_ | refine tail_k fun _ _ _ => ?_ | refine ext_k fun _ _ _ => ?_ | refine need_a ?_ | refine st_agg KR rfl ON fun _ _ _ _ => ?_ | refine wpd_q_a ?_
    | ((with_reducible refine at_f 10 ?_); refine ret_k (hRe _ FR FR FR) fun _ _ _ => ?_)
    | simp (maxDischargeDepth := 3) only [↓X, ↓Y, ↓Q, S1, ↓reduceIte, Nat.reduceEqDiff, Nat.reduceAdd, Int.reduceLT, Int.reduceLE, Int.reduceNeg, Int.reduceBEq, Int.reduceBNe, Int.reduceEq, Nat.reduceLeDiff, Nat.reduceMul, Nat.reduceLT, *, siteC, stepV, stepC, nV]
    | simp (singlePass := true) (maxDischargeDepth := 99) only [*, S2, Nat.reduceLT, siteC, stepV, stepC, nV])
  · rintro g wk nk sk ck hbk ⟨hi, hf, hp⟩
    simp (maxDischargeDepth := 3) only [U, ↓reduceIte, Nat.reduceEqDiff, *] at hf
    obtain ⟨y, h, r, kb, hor, hex⟩ := hp.out
    have bBk : Bl B w wk := FR
    have hBk : B ≤ wk.heap.size := FR
    have hxwk : Ext w wk := FR
    have hyk : WorldR wk wk.heap.size h r y := by
      rcases hor with ⟨rfl, rfl, rfl⟩ | ⟨o1, o2⟩
      · have hXk := hX wk bBk
        exact ⟨hXk.h.more hBk, hXk.r.more hBk⟩
      · exact ⟨o1.slN (f := stateC), o2.slN (f := replC)⟩
    have k8 := kb.bk
    have hyq := hyk.sk (Nat.le_refl _)
    have hYk := hyq.2.2.2.2
    have bk : Bl wk.heap.size wk wk := Bl.refl (Nat.le_refl _)
    rw [List.drop_length] at hex
    rw [← hex]
    clear hp hor kb hex
    (repeat' first
    | ((with_reducible refine at_row ?_); refine row1_a fun _ _ _ _ _ _ _ => ?_)
    | with_reducible first | (first | apply alloc_k | apply row_k); intro _ _ _ _ _ _ | (first | apply fork | apply forkp) <;> intro _ | refine forke (fun _ => ?_) fun _ _ => ?_ | refine tail_k fun _ _ _ => ?_ | refine ext_k fun _ _ _ => ?_ | refine need_a ?_ | refine st_agg KR rfl ON fun _ _ _ _ => ?_ | refine wpd_q_a ?_
    | ((with_reducible refine at_f 17 ?_); refine ret_k (ref13Same (B := wk.heap.size) (B' := B) (x := y) (y := seen) FR FR (hYk _ FR) (hY _ FR)) fun _ _ _ => ?_)
    | simp (maxDischargeDepth := 3) only [↓X, ↓Y, ↓Q, S1, ↓reduceIte, Nat.reduceEqDiff, Nat.reduceAdd, Int.reduceLT, Int.reduceLE, Int.reduceNeg, Int.reduceBEq, Int.reduceBNe, Int.reduceEq, Nat.reduceLeDiff, Nat.reduceMul, Nat.reduceLT, *]
    | simp (singlePass := true) (maxDischargeDepth := 99) only [*, S2, Nat.reduceLT])
    rfl
end
end Go.Proofs.YtmcdgepfhpakiaaGreat
