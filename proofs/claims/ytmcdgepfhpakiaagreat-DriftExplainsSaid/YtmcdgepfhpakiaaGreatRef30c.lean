/- The document's answer, layer 30: Asked, Explains. -/
import Derived.Test.YtmcdgepfhpakiaaGreatExplain30
import Derived.Test.YtmcdgepfhpakiaaGreatRef19b
import Derived.Test.YtmcdgepfhpakiaaGreatLists30
namespace Go.Proofs.YtmcdgepfhpakiaaGreat
set_option linter.unusedSimpArgs false
set_option linter.unusedVariables false
open Go Go.RowKit
set_option maxRecDepth 100000
set_option linter.unusedSectionVars false
set_option maxHeartbeats 2000000
def nV (n : Nat) : Value := .int .i64 n
section
variable {w : World} {B : Nat} {u : SiteVs} {sd : SiteD} {wv : Value} {l : List SrvV} {hv rv hs' rs' sv pv : Value} {seen x : WorldD} {steps : List StepD} {places : List Nat}
theorem ref30Asked (hB : B ≤ w.heap.size) (hs : SiteR w B u sd) (hl : WishR w B wv l) (hx0 : WorldR w B hv rv x) (hst : Sl w B (some 4) 4 sv (steps.map stepV)) (hy0 : WorldR w B hs' rs' seen) : Ret Tryz.prog 9 #[.agg (siteC u sd).toArray, .agg #[wv], .agg #[hv, rv], sv, .agg #[hs', rs']] w (intV (if askB sd (l.map (·.x)) x steps seen = true then 0 else 1)) := by
  have hn : Now w := trivial
  have hx : Ext w w := Ext.refl w
  have hsk := hs.sk hB
  have hlk := hl.sk hB
  have hx' := hx0.sk hB
  have hy' := hy0.sk hB
  have hS := hsk.2.2.2.2.2.2
  have hW := hlk.2.2
  have hX := hx'.2.2.2.2
  have hY := hy'.2.2.2.2
  have hq := hst.k hB
  have hmax := hst.max_
  have bB : Bl B w w := Bl.refl hB
  cases c1 : validB sd (l.map (·.x)) x
  · have e : askB sd (l.map (·.x)) x steps seen = false := by simp [askB, c1]
    rw [e]
    (refine callsV_of Tryz.func9 rfl KR KR ?_; rw [Tryz.results9])
    (repeat' first
    | ((with_reducible refine at_row ?_); refine row1_a fun _ _ _ _ _ _ _ => ?_)
    | with_reducible first | (first | apply alloc_k | apply row_k); intro _ _ _ _ _ _ | (first | apply fork | apply forkp) <;> intro _ | refine forke (fun _ => ?_) fun _ _ => ?_ | refine tail_k fun _ _ _ => ?_ | refine ext_k fun _ _ _ => ?_ | refine need_a ?_ | refine st_agg KR rfl ON fun _ _ _ _ => ?_ | refine wpd_q_a ?_
    | ((with_reducible refine at_f 26 ?_); refine ret_k (ref13Valid (B := B) (x := x) FR (hS _ FR) (hW _ FR) (hX _ FR)) fun _ _ _ => ?_)
    | simp (maxDischargeDepth := 3) only [↓X, ↓Y, ↓Q, S1, ↓reduceIte, Nat.reduceEqDiff, Nat.reduceAdd, Int.reduceLT, Int.reduceLE, Int.reduceNeg, Int.reduceBEq, Int.reduceBNe, Int.reduceEq, Nat.reduceLeDiff, Nat.reduceMul, Nat.reduceLT, *, siteC]
    | simp (singlePass := true) (maxDischargeDepth := 99) only [*, S2, Nat.reduceLT, siteC])
  cases c2 : validB sd (l.map (·.x)) seen
  · have e : askB sd (l.map (·.x)) x steps seen = false := by simp [askB, c2]
    rw [e]
    (refine callsV_of Tryz.func9 rfl KR KR ?_; rw [Tryz.results9])
    (repeat' first
    | ((with_reducible refine at_row ?_); refine row1_a fun _ _ _ _ _ _ _ => ?_)
    | with_reducible first | (first | apply alloc_k | apply row_k); intro _ _ _ _ _ _ | (first | apply fork | apply forkp) <;> intro _ | refine forke (fun _ => ?_) fun _ _ => ?_ | refine tail_k fun _ _ _ => ?_ | refine ext_k fun _ _ _ => ?_ | refine need_a ?_ | refine st_agg KR rfl ON fun _ _ _ _ => ?_ | refine wpd_q_a ?_
    | ((with_reducible refine at_f 26 ?_); refine ret_k (ref13Valid (B := B) (x := x) FR (hS _ FR) (hW _ FR) (hX _ FR)) fun _ _ _ => ?_)
    | ((with_reducible refine at_f 26 ?_); refine ret_k (ref13Valid (B := B) (x := seen) FR (hS _ FR) (hW _ FR) (hY _ FR)) fun _ _ _ => ?_)
    | simp (maxDischargeDepth := 3) only [↓X, ↓Y, ↓Q, S1, ↓reduceIte, Nat.reduceEqDiff, Nat.reduceAdd, Int.reduceLT, Int.reduceLE, Int.reduceNeg, Int.reduceBEq, Int.reduceBNe, Int.reduceEq, Nat.reduceLeDiff, Nat.reduceMul, Nat.reduceLT, *, siteC]
    | simp (singlePass := true) (maxDischargeDepth := 99) only [*, S2, Nat.reduceLT, siteC])
  by_cases c3 : (12 : Int) < steps.length
  · have e : askB sd (l.map (·.x)) x steps seen = false := by
      have : ¬ steps.length ≤ 12 := by omega
      simp [askB, this]
    rw [e]
    (refine callsV_of Tryz.func9 rfl KR KR ?_; rw [Tryz.results9])
    (repeat' first
    | ((with_reducible refine at_row ?_); refine row1_a fun _ _ _ _ _ _ _ => ?_)
    | with_reducible first | (first | apply alloc_k | apply row_k); intro _ _ _ _ _ _ | (first | apply fork | apply forkp) <;> intro _ | refine forke (fun _ => ?_) fun _ _ => ?_ | refine tail_k fun _ _ _ => ?_ | refine ext_k fun _ _ _ => ?_ | refine need_a ?_ | refine st_agg KR rfl ON fun _ _ _ _ => ?_ | refine wpd_q_a ?_
    | ((with_reducible refine at_f 26 ?_); refine ret_k (ref13Valid (B := B) (x := x) FR (hS _ FR) (hW _ FR) (hX _ FR)) fun _ _ _ => ?_)
    | ((with_reducible refine at_f 26 ?_); refine ret_k (ref13Valid (B := B) (x := seen) FR (hS _ FR) (hW _ FR) (hY _ FR)) fun _ _ _ => ?_)
    | simp (maxDischargeDepth := 3) only [↓X, ↓Y, ↓Q, S1, ↓reduceIte, Nat.reduceEqDiff, Nat.reduceAdd, Int.reduceLT, Int.reduceLE, Int.reduceNeg, Int.reduceBEq, Int.reduceBNe, Int.reduceEq, Nat.reduceLeDiff, Nat.reduceMul, Nat.reduceLT, *, siteC]
    | simp (singlePass := true) (maxDischargeDepth := 99) only [*, S2, Nat.reduceLT, siteC])
  have h12 : steps.length ≤ 12 := by omega
  have e : askB sd (l.map (·.x)) x steps seen = steps.all (stepB2 sd (l.map (·.x))) := by simp [askB, c1, c2, h12]
  rw [e]
  clear e
  (refine callsV_of Tryz.func9 rfl KR KR ?_; rw [Tryz.results9])
  (repeat' first
    | ((with_reducible refine at_row ?_); refine row1_a fun _ _ _ _ _ _ _ => ?_)
    | with_reducible first | (first | apply alloc_k | apply row_k); intro _ _ _ _ _ _ | (first | apply fork | apply forkp) <;> intro _ | refine forke (fun _ => ?_) fun _ _ => ?_ | refine tail_k fun _ _ _ => ?_ | refine ext_k fun _ _ _ => ?_ | refine need_a ?_ | refine st_agg KR rfl ON fun _ _ _ _ => ?_ | refine wpd_q_a ?_
    | ((with_reducible refine at_f 26 ?_); refine ret_k (ref13Valid (B := B) (x := x) FR (hS _ FR) (hW _ FR) (hX _ FR)) fun _ _ _ => ?_)
    | ((with_reducible refine at_f 26 ?_); refine ret_k (ref13Valid (B := B) (x := seen) FR (hS _ FR) (hW _ FR) (hY _ FR)) fun _ _ _ => ?_)
    | simp (maxDischargeDepth := 3) only [↓X, ↓Y, ↓Q, S1, ↓reduceIte, Nat.reduceEqDiff, Nat.reduceAdd, Int.reduceLT, Int.reduceLE, Int.reduceNeg, Int.reduceBEq, Int.reduceBNe, Int.reduceEq, Nat.reduceLeDiff, Nat.reduceMul, Nat.reduceLT, *, siteC]
    | simp (singlePass := true) (maxDischargeDepth := 99) only [*, S2, Nat.reduceLT, siteC])
  refine loop_k steps.length (fun g0 k g _ => g 11 = .int .i64 (k : Int) ∧ (g 3 = g0 3 ∧ g 5 = g0 5 ∧ g 6 = g0 6) ∧ Hid (∀ j (h : j < steps.length), j < k → stepB2 sd (l.map (·.x)) steps[j] = true)) KR hmax ?_ ?_ ?_
  · (repeat' first
    | ((with_reducible refine at_row ?_); refine row1_a fun _ _ _ _ _ _ _ => ?_)
    | with_reducible first | (first | apply alloc_k | apply row_k); intro _ _ _ _ _ _ | (first | apply fork | apply forkp) <;> intro _ | refine forke (fun _ => ?_) fun _ _ => ?_ | refine tail_k fun _ _ _ => ?_ | refine ext_k fun _ _ _ => ?_ | refine need_a ?_ | refine st_agg KR rfl ON fun _ _ _ _ => ?_ | refine wpd_q_a ?_
    | simp (maxDischargeDepth := 3) only [↓X, ↓Y, ↓Q, S1, ↓reduceIte, Nat.reduceEqDiff, Nat.reduceAdd, Int.reduceLT, Int.reduceLE, Int.reduceNeg, Int.reduceBEq, Int.reduceBNe, Int.reduceEq, Nat.reduceLeDiff, Nat.reduceMul, Nat.reduceLT, *]
    | simp (singlePass := true) (maxDischargeDepth := 99) only [*, S2, Nat.reduceLT])
    all_goals exact fun j _ h => absurd h (by omega)
  · rintro k m g wk hk hlt _ _ _ hw ⟨hi, hf, hp⟩
    simp (maxDischargeDepth := 3) only [U, ↓reduceIte, Nat.reduceEqDiff, *] at hf
    (repeat' first
    | ((with_reducible refine wpd_at 6 ?_); refine wpd_tail 6 KR KR KR ?_)
    | ((with_reducible refine at_row ?_); refine row1_a fun _ _ _ _ _ _ _ => ?_)
    | with_reducible first | (first | apply alloc_k | apply row_k); intro _ _ _ _ _ _ | (first | apply fork | apply forkp) <;> intro _ | refine forke (fun _ => ?_) fun _ _ => ?_ | refine tail_k fun _ _ _ => ?_ | refine ext_k fun _ _ _ => ?_ | refine need_a ?_ | refine st_agg KR rfl ON fun _ _ _ _ => ?_ | refine wpd_q_a ?_
    | ((with_reducible refine at_f 27 ?_); refine ret_k (ref19Valid (B := B) (st := steps[k]) FR (hS _ FR) (hW _ FR)) fun _ _ _ => ?_)
    | simp (maxDischargeDepth := 3) only [↓X, ↓Y, ↓Q, S1, ↓reduceIte, Nat.reduceEqDiff, Nat.reduceAdd, Int.reduceLT, Int.reduceLE, Int.reduceNeg, Int.reduceBEq, Int.reduceBNe, Int.reduceEq, Nat.reduceLeDiff, Nat.reduceMul, Nat.reduceLT, *, siteC, stepV, stepC]
    | simp (singlePass := true) (maxDischargeDepth := 99) only [*, S2, Nat.reduceLT, siteC, stepV, stepC])
    · rename_i c5
      refine next_k hk hlt ?_ FR
      (repeat' first
    | ((with_reducible refine at_row ?_); refine row1_a fun _ _ _ _ _ _ _ => ?_)
    | with_reducible first | (first | apply alloc_k | apply row_k); intro _ _ _ _ _ _ | (first | apply fork | apply forkp) <;> intro _ | refine forke (fun _ => ?_) fun _ _ => ?_ | refine tail_k fun _ _ _ => ?_ | refine ext_k fun _ _ _ => ?_ | refine need_a ?_ | refine st_agg KR rfl ON fun _ _ _ _ => ?_ | refine wpd_q_a ?_
    | simp (maxDischargeDepth := 3) only [↓X, ↓Y, ↓Q, S1, ↓reduceIte, Nat.reduceEqDiff, Nat.reduceAdd, Int.reduceLT, Int.reduceLE, Int.reduceNeg, Int.reduceBEq, Int.reduceBNe, Int.reduceEq, Nat.reduceLeDiff, Nat.reduceMul, Nat.reduceLT, *]
    | simp (singlePass := true) (maxDischargeDepth := 99) only [*, S2, Nat.reduceLT])
      all_goals
        refine fun j hj hjk => ?_
        rcases Nat.lt_or_eq_of_le (Nat.le_of_lt_succ hjk) with h3 | rfl
        · exact hp.out j hj h3
        · exact c5
    · rename_i c5
      have : steps.all (stepB2 sd (l.map (·.x))) = false := by
        rw [← Bool.not_eq_true, List.all_eq_true]
        intro h
        rw [h _ (List.getElem_mem hlt)] at c5
        cases c5
      rw [this]
      rfl
  · rintro g wk _ _ _ ⟨hi, hf, hp⟩
    simp (maxDischargeDepth := 3) only [U, ↓reduceIte, Nat.reduceEqDiff, *] at hf
    (repeat' first
    | ((with_reducible refine at_row ?_); refine row1_a fun _ _ _ _ _ _ _ => ?_)
    | with_reducible first | (first | apply alloc_k | apply row_k); intro _ _ _ _ _ _ | (first | apply fork | apply forkp) <;> intro _ | refine forke (fun _ => ?_) fun _ _ => ?_ | refine tail_k fun _ _ _ => ?_ | refine ext_k fun _ _ _ => ?_ | refine need_a ?_ | refine st_agg KR rfl ON fun _ _ _ _ => ?_ | refine wpd_q_a ?_
    | simp (maxDischargeDepth := 3) only [↓X, ↓Y, ↓Q, S1, ↓reduceIte, Nat.reduceEqDiff, Nat.reduceAdd, Int.reduceLT, Int.reduceLE, Int.reduceNeg, Int.reduceBEq, Int.reduceBNe, Int.reduceEq, Nat.reduceLeDiff, Nat.reduceMul, Nat.reduceLT, *]
    | simp (singlePass := true) (maxDischargeDepth := 99) only [*, S2, Nat.reduceLT])
    have : steps.all (stepB2 sd (l.map (·.x))) = true := List.all_eq_true.2 fun st h => by
      obtain ⟨j, hj, rfl⟩ := List.getElem_of_mem h
      exact hp.out j hj hj
    rw [this]
    rfl
theorem expl_snoc {ap : WorldD → Nat → Option WorldD} {seen x : WorldD} {l : List Nat} {k : Nat} (hk : k < l.length) : explB ap seen x (l.drop k) = match ap x l[k] with
    | some y => explB ap seen y (l.drop (k + 1))
    | none => false := by
  rw [List.drop_eq_getElem_cons hk]
  rfl
theorem ref30Explains (hB : B ≤ w.heap.size) (hs : SiteR w B u sd) (hl : WishR w B wv l) (hx0 : WorldR w B hv rv x) (hst : Sl w B (some 4) 4 sv (steps.map stepV)) (hpl : Sl w B none 1 pv (places.map nV)) (hy0 : WorldR w B hs' rs' seen) (hin : ∀ p ∈ places, p < steps.length) : Ret Tryz.prog 12 #[.agg (siteC u sd).toArray, .agg #[wv], .agg #[hv, rv], sv, pv, .agg #[hs', rs']] w (.bool (explB (apS sd (l.map (·.x)) steps) seen x places)) := by
  have hn : Now w := trivial
  have hx : Ext w w := Ext.refl w
  have hsk := hs.sk hB
  have hlk := hl.sk hB
  have hx' := hx0.sk hB
  have hy' := hy0.sk hB
  have hS := hsk.2.2.2.2.2.2
  have hW := hlk.2.2
  have hX := hx'.2.2.2.2
  have hY := hy'.2.2.2.2
  have hq := hst.k hB
  have hpq := hpl.k hB
  have hmax := hpl.max_
  have bB : Bl B w w := Bl.refl hB
  (refine callsV_of Tryz.func12 rfl KR KR ?_; rw [Tryz.results12])
  (repeat' first
    | ((with_reducible refine at_row ?_); refine row1_a fun _ _ _ _ _ _ _ => ?_)
    | with_reducible first | (first | apply alloc_k | apply row_k); intro _ _ _ _ _ _ | (first | apply fork | apply forkp) <;> intro _ | refine forke (fun _ => ?_) fun _ _ => ?_ | refine tail_k fun _ _ _ => ?_ | refine ext_k fun _ _ _ => ?_ | refine need_a ?_ | refine st_agg KR rfl ON fun _ _ _ _ => ?_ | refine wpd_q_a ?_
    | simp (maxDischargeDepth := 3) only [↓X, ↓Y, ↓Q, S1, ↓reduceIte, Nat.reduceEqDiff, Nat.reduceAdd, Int.reduceLT, Int.reduceLE, Int.reduceNeg, Int.reduceBEq, Int.reduceBNe, Int.reduceEq, Nat.reduceLeDiff, Nat.reduceMul, Nat.reduceLT, *, siteC]
    | simp (singlePass := true) (maxDischargeDepth := 99) only [*, S2, Nat.reduceLT, siteC])
  rename_i b6 w6 n6 k6 s6 q6 b7 w7 n7 k7 s7 q7 b8 w8 n8 k8 s8 q8 b11 wS nS k11 s11 q11
  have hB8 : B ≤ b8 := FR
  have hb8 : b8 < wS.heap.size := FR
  have hBS : B ≤ wS.heap.size := FR
  have hxS : Ext w wS := FR
  have hw8 : w.heap.size ≤ b8 := FR
  have bS : Bl B w wS := FR
  have n68 : ¬ b6 = b8 := by have h1 : b6 < w7.heap.size := FR; have h2 : w7.heap.size ≤ b8 := FR; omega
  have n78 : ¬ b7 = b8 := by have h1 : b7 < w7.heap.size := FR; have h2 : w7.heap.size ≤ b8 := FR; omega
  have n11 : ¬ b11 = b8 := by have h1 : b8 < w8.heap.size := FR; have h2 : w8.heap.size ≤ b11 := FR; omega
  have K8 := k8.2.1 wS FR
  clear k8
  refine loop_b b8 places.length (fun g0 k g w' => g 13 = .int .i64 (k : Int) ∧ (g 3 = g0 3 ∧ g 4 = g0 4 ∧ g 6 = g0 6 ∧ g 7 = g0 7 ∧ g 8 = g0 8 ∧ g 11 = g0 11) ∧ Hid (∃ y h r, Blk w' b8 36 [h, r] ∧ ((h = hv ∧ r = rv ∧ y = x) ∨ (OwnH w' wS.heap.size h y.hosts ∧ OwnP w' wS.heap.size r y.replicas)) ∧ explB (apS sd (l.map (·.x)) steps) seen y (places.drop k) = explB (apS sd (l.map (·.x)) steps) seen x places)) KR hmax hb8 ?_ ?_ ?_
  · (repeat' first
    | ((with_reducible refine at_row ?_); refine row1_a fun _ _ _ _ _ _ _ => ?_)
    | with_reducible first | (first | apply alloc_k | apply row_k); intro _ _ _ _ _ _ | (first | apply fork | apply forkp) <;> intro _ | refine forke (fun _ => ?_) fun _ _ => ?_ | refine tail_k fun _ _ _ => ?_ | refine ext_k fun _ _ _ => ?_ | refine need_a ?_ | refine st_agg KR rfl ON fun _ _ _ _ => ?_ | refine wpd_q_a ?_
    | simp (maxDischargeDepth := 3) only [↓X, ↓Y, ↓Q, S1, ↓reduceIte, Nat.reduceEqDiff, Nat.reduceAdd, Int.reduceLT, Int.reduceLE, Int.reduceNeg, Int.reduceBEq, Int.reduceBNe, Int.reduceEq, Nat.reduceLeDiff, Nat.reduceMul, Nat.reduceLT, *]
    | simp (singlePass := true) (maxDischargeDepth := 99) only [*, S2, Nat.reduceLT])
    all_goals exact ⟨x, hv, rv, K8, .inl ⟨rfl, rfl, rfl⟩, rfl⟩
  · rintro k m g wk hk hlt nk sk ck hbk hw ⟨hi, hf, hp⟩
    simp (maxDischargeDepth := 3) only [U, ↓reduceIte, Nat.reduceEqDiff, *] at hf
    obtain ⟨y, h, r, kb, hor, hex⟩ := hp.out
    have bBk : Bl B w wk := FR
    have hBk : B ≤ wk.heap.size := FR
    have hxwk : Ext w wk := FR
    have hyk : WorldR wk wk.heap.size h r y := by
      rcases hor with ⟨rfl, rfl, rfl⟩ | ⟨o1, o2⟩
      · have hXk := hX wk bBk
        exact ⟨hXk.h.more hBk, hXk.r.more hBk⟩
      · exact ⟨o1.slN (f := stateC), o2.slN (f := replC)⟩
    have k8 := kb.bk
    have hyq := hyk.sk (Nat.le_refl _)
    have hYk := hyq.2.2.2.2
    have hone : h.oneCell' = true ∧ r.oneCell' = true := ⟨hyk.h.one, hyk.r.one⟩
    have hpi : places[k] < steps.length := hin _ (List.getElem_mem hlt)
    have hpi' : (places[k] : Int) < (steps.length : Int) := by omega
    have rk := Ext.refl wk
    have bk : Bl wk.heap.size wk wk := Bl.refl (Nat.le_refl _)
    have hapk : apS sd (l.map (·.x)) steps y places[k] = if applyE sd (l.map (·.x)) y steps[places[k]] = 0 then some (applyW sd (l.map (·.x)) y steps[places[k]]) else none := by simp [apS, List.getElem?_eq_getElem hpi]
    have hrd := apply_iff (s := sd) (wl := l.map (·.x)) (x := y) (st := steps[places[k]])
    have hex2 := expl_snoc (ap := apS sd (l.map (·.x)) steps) (seen := seen) (x := y) hlt
    have hRe := fun w' (h1 : Bl B w w') (h2 : Bl wk.heap.size wk w') (h3 : wk.heap.size ≤ w'.heap.size) => ref19Ready (st := steps[places[k]]) (B := wk.heap.size) h3 ((hS w' h1).upE hBk) ((hW w' h1).upE hBk) (hYk w' h2)
    have hAp := fun w' (h1 : Bl B w w') (h2 : Bl wk.heap.size wk w') (h3 : wk.heap.size ≤ w'.heap.size) => ref19Apply (st := steps[places[k]]) (B := wk.heap.size) h3 ((hS w' h1).upE hBk) ((hW w' h1).upE hBk) (hYk w' h2)
    clear hp hor hyk kb
    rw [hex] at hex2
    by_cases hE : applyE sd (l.map (·.x)) y steps[places[k]] = 0
    · rw [hrd.1 hE] at hRe
      rw [hapk, if_pos hE] at hex2
      rw [hE] at hAp
      generalize applyW sd (l.map (·.x)) y steps[places[k]] = W' at *
      simp only at hex2
      rw [← hex]
      replace hex2 : Hid _ := hex2
      replace hex : Hid _ := hex
      clear hrd hE hapk
      (repeat' first
    | ((with_reducible refine wpd_at 6 ?_); refine wpd_hold ?_)
    | ((with_reducible refine wpd_at 4 ?_); refine wpd_tail 10 KR KR KR ?_)
    | ((with_reducible refine at_row ?_); refine row1_a fun _ _ _ _ _ _ _ => ?_)
    | with_reducible first | (first | apply alloc_k | apply row_k); intro _ _ _ _ _ _ | (first | apply fork | apply forkp) <;> intro _ | refine forke (fun _ => ?_) fun _ _ => ?_ | refine tail_k fun _ _ _ => ?_ | refine ext_k fun _ _ _ => ?_ | refine need_a ?_ | refine st_agg KR rfl ON fun _ _ _ _ => ?_ | refine wpd_q_a ?_
    | ((with_reducible refine at_f 10 ?_); refine ret_k (hRe _ FR FR FR) fun _ _ _ => ?_)
    | simp (maxDischargeDepth := 3) only [↓X, ↓Y, ↓Q, S1, ↓reduceIte, Nat.reduceEqDiff, Nat.reduceAdd, Int.reduceLT, Int.reduceLE, Int.reduceNeg, Int.reduceBEq, Int.reduceBNe, Int.reduceEq, Nat.reduceLeDiff, Nat.reduceMul, Nat.reduceLT, *, siteC, stepV, stepC, nV]
    | simp (singlePass := true) (maxDischargeDepth := 99) only [*, S2, Nat.reduceLT, siteC, stepV, stepC, nV])
      rename_i wR nR sR
      have rR := Ext.refl wR
      have hxR : Ext wk wR := FR
      have hwkR : wk.heap.size ≤ wR.heap.size := hxR.size
      unfold wpdH
      refine wpd_relS2 16 [(15, 14)] (fun iI s v w9 => match iI with
        | 0 => v = .agg (siteC u sd).toArray
        | 1 => v = .agg #[wv]
        | 2 => v = .agg #[h, r]
        | 3 => v = sv
        | 4 => v = pv
        | 5 => v = .int .i64 k
        | 6 => v = elemAt pv 1 k
        | 7 => v = nV places[k]
        | 8 => v = elemAt sv 4 places[k]
        | 9 => v = stepV steps[places[k]]
        | 10 => ∃ u, v = .tuple #[u, intV 0] ∧ OwnW wR.heap.size u w9 W'
        | 11 => ∃ u, v = .tuple #[u, intV 0] ∧ OwnW wR.heap.size u w9 W'
        | 12 => OwnW wR.heap.size v w9 W'
        | 13 => v = intV 0
        | 14 => ∃ b, v = .pointer (some ⟨b, 0, none⟩) ∧ (wR.heap.size ≤ b ∧ b < w9.heap.size) ∧ (s = false → Blk w9 b 36 [.slice none 0 0, .slice none 0 0]) ∧ (s = true → ∃ h r, Blk w9 b 36 [h, r] ∧ OwnH w9 wR.heap.size h W'.hosts ∧ OwnP w9 wR.heap.size r W'.replicas)
        | 15 => True
        | _ => False) (fun iI => iI == 14) ?_ KR KR KR KR ?_ ?_ ?_
      · intro iI s v w9 hF hR b hb
        match iI, hF, hR with
        | 0, hF, _ => exact absurd hF (by decide)
        | 1, hF, _ => exact absurd hF (by decide)
        | 2, hF, _ => exact absurd hF (by decide)
        | 3, hF, _ => exact absurd hF (by decide)
        | 4, hF, _ => exact absurd hF (by decide)
        | 5, hF, _ => exact absurd hF (by decide)
        | 6, hF, _ => exact absurd hF (by decide)
        | 7, hF, _ => exact absurd hF (by decide)
        | 8, hF, _ => exact absurd hF (by decide)
        | 9, hF, _ => exact absurd hF (by decide)
        | 10, hF, _ => exact absurd hF (by decide)
        | 11, hF, _ => exact absurd hF (by decide)
        | 12, hF, _ => exact absurd hF (by decide)
        | 13, hF, _ => exact absurd hF (by decide)
        | 14, _, ⟨b2, e, h1, _⟩ => subst e; obtain rfl := Option.some.inj hb; exact h1.2
        | 15, hF, _ => exact absurd hF (by decide)
      · intro iI s v w1 w2 hR hx9
        match iI, hR with
        | 0, h => exact h
        | 1, h => exact h
        | 2, h => exact h
        | 3, h => exact h
        | 4, h => exact h
        | 5, h => exact h
        | 6, h => exact h
        | 7, h => exact h
        | 8, h => exact h
        | 9, h => exact h
        | 10, h => exact (let ⟨u, e, o⟩ := h; ⟨u, e, o.ext hx9⟩)
        | 11, h => exact (let ⟨u, e, o⟩ := h; ⟨u, e, o.ext hx9⟩)
        | 12, h => exact OwnW.ext h hx9
        | 13, h => exact h
        | 14, ⟨b, e, h1, h2, h3⟩ => exact ⟨b, e, ⟨h1.1, Nat.lt_of_lt_of_le h1.2 hx9.size⟩, fun hs => (h2 hs).ext hx9, fun hs => (fun h => (let ⟨a, b, k, o1, o2⟩ := h; ⟨a, b, k.ext hx9, o1.ext hx9, o2.ext hx9⟩)) (h3 hs)⟩
        | 15, h => exact h
      · intro iI oO hi ho gF w9 S9 hx9 hdep hag
        have s9 := hx9.st
        have n9 : Now w9 := trivial
        have r9 := Ext.refl w9
        have z9 := hx9.size
        rcases iI with _|_|_|_|_|_|_|_|_|_|_|_|_|_|_|_|iI
        have e := Option.some.inj ho
        subst e
        have a6 := hag.at 6 KR
        simp only [S5, ↓reduceIte, Nat.reduceEqDiff, initF, *] at a6
        clear hag hdep ho
        refine ⟨fun _ _ => ?_, fun _ hF => absurd hF (by decide), fun a9 pa da hal => by simp [alL] at hal⟩
        refine relStep_off rfl ?_
        rotate_left
        have e := Option.some.inj ho
        subst e
        have a7 := hag.at 7 KR
        simp only [S5, ↓reduceIte, Nat.reduceEqDiff, initF, *] at a7
        clear hag hdep ho
        refine ⟨fun _ _ => ?_, fun _ hF => absurd hF (by decide), fun a9 pa da hal => by simp [alL] at hal⟩
        refine relStep_off rfl ?_
        rotate_left
        have e := Option.some.inj ho
        subst e
        have a8 := hag.at 8 KR
        simp only [S5, ↓reduceIte, Nat.reduceEqDiff, initF, *] at a8
        clear hag hdep ho
        refine ⟨fun _ _ => ?_, fun _ hF => absurd hF (by decide), fun a9 pa da hal => by simp [alL] at hal⟩
        refine relStep_off rfl ?_
        rotate_left
        have e := Option.some.inj ho
        subst e
        have a3 := hag.at 3 KR
        simp only [S5, ↓reduceIte, Nat.reduceEqDiff, initF, *] at a3
        clear hag hdep ho
        refine ⟨fun _ _ => ?_, fun _ hF => absurd hF (by decide), fun a9 pa da hal => by simp [alL] at hal⟩
        refine relStep_off rfl ?_
        rotate_left
        have e := Option.some.inj ho
        subst e
        have a4 := hag.at 4 KR
        simp only [S5, ↓reduceIte, Nat.reduceEqDiff, initF, *] at a4
        clear hag hdep ho
        refine ⟨fun _ _ => ?_, fun _ hF => absurd hF (by decide), fun a9 pa da hal => by simp [alL] at hal⟩
        refine relStep_off rfl ?_
        rotate_left
        have e := Option.some.inj ho
        subst e
        have a13 := hag.at 13 KR
        simp only [S5, ↓reduceIte, Nat.reduceEqDiff, initF, *] at a13
        clear hag hdep ho
        refine ⟨fun _ _ => ?_, fun _ hF => absurd hF (by decide), fun a9 pa da hal => by simp [alL] at hal⟩
        refine relStep_off rfl ?_
        rotate_left
        have e := Option.some.inj ho
        subst e
        have d4 : (gF 39) = pv := hdep ⟨4, .data⟩ (by simp) rfl _ _ rfl rfl
        have d5 : (gF 40) = .int .i64 k := hdep ⟨5, .data⟩ (by simp) rfl _ _ rfl rfl
        clear hag hdep ho
        refine ⟨fun _ _ => ?_, fun _ hF => absurd hF (by decide), fun a9 pa da hal => by simp [alL] at hal⟩
        refine relStep_off rfl ?_
        rotate_left
        have e := Option.some.inj ho
        subst e
        have d6 : (gF 41) = elemAt pv 1 k := hdep ⟨6, .data⟩ (by simp) rfl _ _ rfl rfl
        clear hag hdep ho
        refine ⟨fun _ _ => ?_, fun _ hF => absurd hF (by decide), fun a9 pa da hal => by simp [alL] at hal⟩
        refine relStep_off rfl ?_
        rotate_left
        have e := Option.some.inj ho
        subst e
        have d3 : (gF 38) = sv := hdep ⟨3, .data⟩ (by simp) rfl _ _ rfl rfl
        have d7 : (gF 42) = nV places[k] := hdep ⟨7, .data⟩ (by simp) rfl _ _ rfl rfl
        clear hag hdep ho
        refine ⟨fun _ _ => ?_, fun _ hF => absurd hF (by decide), fun a9 pa da hal => by simp [alL] at hal⟩
        refine relStep_off rfl ?_
        rotate_left
        have e := Option.some.inj ho
        subst e
        have d8 : (gF 43) = elemAt sv 4 places[k] := hdep ⟨8, .data⟩ (by simp) rfl _ _ rfl rfl
        clear hag hdep ho
        refine ⟨fun _ _ => ?_, fun _ hF => absurd hF (by decide), fun a9 pa da hal => by simp [alL] at hal⟩
        refine relStep_off rfl ?_
        rotate_left
        have e := Option.some.inj ho
        subst e
        have d0 : (gF 35) = .agg (siteC u sd).toArray := hdep ⟨0, .data⟩ (by simp) rfl _ _ rfl rfl
        have d1 : (gF 36) = .agg #[wv] := hdep ⟨1, .data⟩ (by simp) rfl _ _ rfl rfl
        have d2 : (gF 37) = .agg #[h, r] := hdep ⟨2, .data⟩ (by simp) rfl _ _ rfl rfl
        have d9 : (gF 44) = stepV steps[places[k]] := hdep ⟨9, .data⟩ (by simp) rfl _ _ rfl rfl
        clear hag hdep ho
        refine ⟨fun _ _ => ?_, fun _ hF => absurd hF (by decide), fun a9 pa da hal => by simp [alL] at hal⟩
        refine relStep_off rfl ?_
        rotate_left
        have e := Option.some.inj ho
        subst e
        have d10 : ∃ u, (gF 45) = .tuple #[u, intV 0] ∧ OwnW wR.heap.size u w9 W' := hdep ⟨10, .data⟩ (by simp) rfl _ _ rfl rfl
        obtain ⟨u7, e7, o7⟩ := d10
        clear hag hdep ho
        refine ⟨fun _ _ => ?_, fun _ hF => absurd hF (by decide), fun a9 pa da hal => by simp [alL] at hal⟩
        refine relStep_off rfl ?_
        rotate_left
        have e := Option.some.inj ho
        subst e
        have d11 : ∃ u, (gF 34) = .tuple #[u, intV 0] ∧ OwnW wR.heap.size u w9 W' := hdep ⟨11, .data⟩ (by simp) rfl _ _ rfl rfl
        obtain ⟨u8, e8, o8⟩ := d11
        clear hag hdep ho
        refine ⟨fun _ _ => ?_, fun _ hF => absurd hF (by decide), fun a9 pa da hal => by simp [alL] at hal⟩
        refine relStep_off rfl ?_
        rotate_left
        have e := Option.some.inj ho
        subst e
        have d11 : ∃ u, (gF 34) = .tuple #[u, intV 0] ∧ OwnW wR.heap.size u w9 W' := hdep ⟨11, .data⟩ (by simp) rfl _ _ rfl rfl
        obtain ⟨u8, e8, o8⟩ := d11
        clear hag hdep ho
        refine ⟨fun _ _ => ?_, fun _ hF => absurd hF (by decide), fun a9 pa da hal => by simp [alL] at hal⟩
        refine relStep_off rfl ?_
        rotate_left
        have e := Option.some.inj ho
        subst e
        clear hag hdep ho
        refine ⟨fun _ hF => absurd hF (by decide), fun _ _ => ?_, fun a9 pa da hal => by simp [alL] at hal⟩
        refine relStep_off rfl ?_
        rotate_left
        have e := Option.some.inj ho
        subst e
        have d14 : ∃ b, (gF 14) = .pointer (some ⟨b, 0, none⟩) ∧ (wR.heap.size ≤ b ∧ b < w9.heap.size) ∧ ((S9 14) = false → Blk w9 b 36 [.slice none 0 0, .slice none 0 0]) ∧ ((S9 14) = true → ∃ h r, Blk w9 b 36 [h, r] ∧ OwnH w9 wR.heap.size h W'.hosts ∧ OwnP w9 wR.heap.size r W'.replicas) := hdep ⟨14, .data⟩ (by simp) rfl _ _ rfl rfl
        obtain ⟨b14, e14, ⟨q14, l14⟩, hz14, _⟩ := d14
        have d12 : OwnW wR.heap.size (gF 46) w9 W' := hdep ⟨12, .data⟩ (by simp) rfl _ _ rfl rfl
        obtain ⟨h9, r9', e9, oh9, or9⟩ := d12
        have H9 := oh9.one
        have R9 := or9.one
        clear hag hdep ho
        refine ⟨fun h => by simp [alL] at h, fun h => by simp [alL] at h, fun a9 pa da hal hS9 hpa hda => ?_⟩
        obtain rfl : 14 = a9 := by simpa [alL] using hal
        obtain rfl := Option.some.inj hpa
        obtain rfl := Option.some.inj hda
        have hz := hz14 hS9
        clear hal hpa hda hz14
        refine relStep_off rfl ?_
        rotate_left
        · omega
        all_goals (repeat' first
    | ((with_reducible refine at_row ?_); refine row1_a fun _ _ _ _ _ _ _ => ?_)
    | with_reducible first | (first | apply alloc_k | apply row_k); intro _ _ _ _ _ _ | (first | apply fork | apply forkp) <;> intro _ | refine forke (fun _ => ?_) fun _ _ => ?_ | refine tail_k fun _ _ _ => ?_ | refine ext_k fun _ _ _ => ?_ | refine need_a ?_ | refine st_agg KR rfl ON fun _ _ _ _ => ?_ | refine wpd_q_a ?_
    | simp (maxDischargeDepth := 3) only [↓X, ↓Y, ↓Q, S1, ↓reduceIte, Nat.reduceEqDiff, Nat.reduceAdd, Int.reduceLT, Int.reduceLE, Int.reduceNeg, Int.reduceBEq, Int.reduceBNe, Int.reduceEq, Nat.reduceLeDiff, Nat.reduceMul, Nat.reduceLT, *, siteC, stepV, stepC, nV]
    | simp (singlePass := true) (maxDischargeDepth := 99) only [*, S2, Nat.reduceLT, siteC, stepV, stepC, nV])
        all_goals first
          | (refine CallsV.mono (hAp _ FR FR FR) fun v w10 hh => ⟨hh.1, ?_⟩; obtain ⟨_, u0, rfl, ho⟩ := hh; exact ⟨u0, rfl, ho.more z9⟩)
          | (exact ⟨u7, rfl, o7⟩)
          | (exact o8)
          | (rename_i b10 w10 n10 k10 s10 q10; exact ⟨⟨_, rfl, ⟨FR, FR⟩, fun _ => k10.2.1 _ k10.2.2.1, fun h => absurd h (by decide)⟩, fun b hb => by obtain rfl := Option.some.inj hb; exact FR⟩)
          | (
              refine stT_agg (w0 := w9) (vs := [h9, r9']) hz rfl KR rfl (by simp [H9, R9]) fun w10 hb10 hc => ⟨b14, hc, q14, ⟨b14, (by first | exact e14 | rfl), ⟨q14, Nat.lt_of_lt_of_le l14 hc.size⟩, fun h => absurd h (by decide), fun _ => ⟨h9, r9', hb10, oh9.fr hz hc (.inl (by decide)), or9.fr hz hc (.inl (by decide))⟩⟩, ?_⟩
              intro iI s v hne hN hR
              match iI, hN, hR with
              | 0, _, h | 1, _, h | 2, _, h | 3, _, h | 4, _, h | 5, _, h | 6, _, h | 7, _, h | 8, _, h | 9, _, h | 13, _, h | 15, _, h => exact h
              | 10, _, h => exact (let ⟨u, e, o⟩ := h; ⟨u, e, ownW_frE o hz hc⟩)
              | 11, _, h => exact (let ⟨u, e, o⟩ := h; ⟨u, e, ownW_frE o hz hc⟩)
              | 12, _, h => exact ownW_frE h hz hc
              | 14, _, _ => exact absurd rfl hne)
      · intro g9 w9 hx9 hR hDis hag
        have s9 := hx9.st
        have n9 : Now w9 := trivial
        have r9 := Ext.refl w9
        have z9 := hx9.size
        have d13 : (g9 47) = intV 0 := hR 13 _ _ (by decide) rfl rfl
        have d14 : ∃ b, (g9 14) = .pointer (some ⟨b, 0, none⟩) ∧ (wR.heap.size ≤ b ∧ b < w9.heap.size) ∧ (true = false → Blk w9 b 36 [.slice none 0 0, .slice none 0 0]) ∧ (true = true → ∃ h r, Blk w9 b 36 [h, r] ∧ OwnH w9 wR.heap.size h W'.hosts ∧ OwnP w9 wR.heap.size r W'.replicas) := hR 14 _ _ (by decide) rfl rfl
        obtain ⟨b14, e14, ⟨q14, _⟩, _, f14⟩ := d14
        replace f14 := f14 rfl
        have nw14 := Nw.of q14
        obtain ⟨hA, rA, kwA, ohA, orA⟩ := f14
        have KWA := kwA.bk
        have HA := ohA.o
        have RA := orA.o
        clear kwA ohA orA
        have a3 := hag.at 3 KR
        have a4 := hag.at 4 KR
        have a6 := hag.at 6 KR
        have a7 := hag.at 7 KR
        have a8 := hag.at 8 KR
        have a11 := hag.at 11 KR
        have a13 := hag.at 13 KR
        simp only [S5, ↓reduceIte, Nat.reduceEqDiff, initF, *] at a3 a4 a6 a7 a8 a11 a13
        clear hag hR hDis
        simp only [List.drop_succ_cons, List.drop_zero]
        have hSk : wS.heap.size ≤ wR.heap.size := FR
        have hw8R : ¬ b8 = b14 := by have h1 : b8 < wR.heap.size := FR; omega
        (repeat' first
    | ((with_reducible refine at_row ?_); refine row1_a fun _ _ _ _ _ _ _ => ?_)
    | with_reducible first | (first | apply alloc_k | apply row_k); intro _ _ _ _ _ _ | (first | apply fork | apply forkp) <;> intro _ | refine forke (fun _ => ?_) fun _ _ => ?_ | refine tail_k fun _ _ _ => ?_ | refine ext_k fun _ _ _ => ?_ | refine need_a ?_ | refine st_agg KR rfl ON fun _ _ _ _ => ?_ | refine wpd_q_a ?_
    | simp (maxDischargeDepth := 3) only [↓X, ↓Y, ↓Q, S1, ↓reduceIte, Nat.reduceEqDiff, Nat.reduceAdd, Int.reduceLT, Int.reduceLE, Int.reduceNeg, Int.reduceBEq, Int.reduceBNe, Int.reduceEq, Nat.reduceLeDiff, Nat.reduceMul, Nat.reduceLT, *]
    | simp (singlePass := true) (maxDischargeDepth := 99) only [*, S2, Nat.reduceLT])
        rename_i wz nz kz sz
        refine next_b hk hlt ?_ FR
        (repeat' first
    | ((with_reducible refine at_row ?_); refine row1_a fun _ _ _ _ _ _ _ => ?_)
    | with_reducible first | (first | apply alloc_k | apply row_k); intro _ _ _ _ _ _ | (first | apply fork | apply forkp) <;> intro _ | refine forke (fun _ => ?_) fun _ _ => ?_ | refine tail_k fun _ _ _ => ?_ | refine ext_k fun _ _ _ => ?_ | refine need_a ?_ | refine st_agg KR rfl ON fun _ _ _ _ => ?_ | refine wpd_q_a ?_
    | simp (maxDischargeDepth := 3) only [↓X, ↓Y, ↓Q, S1, ↓reduceIte, Nat.reduceEqDiff, Nat.reduceAdd, Int.reduceLT, Int.reduceLE, Int.reduceNeg, Int.reduceBEq, Int.reduceBNe, Int.reduceEq, Nat.reduceLeDiff, Nat.reduceMul, Nat.reduceLT, *]
    | simp (singlePass := true) (maxDischargeDepth := 99) only [*, S2, Nat.reduceLT])
        all_goals exact ⟨W', hA, rA, kz.2.1 _ FR, .inr ⟨(HA.1 _ FR).more hSk, (RA.1 _ FR).more hSk⟩, hex2.out.symm.trans hex.out.symm⟩
    · have hr : readyB sd (l.map (·.x)) y steps[places[k]] = false := by rw [← Bool.not_eq_true]; exact fun h => hE (hrd.2 h)
      rw [hr] at hRe
      rw [hapk, if_neg hE] at hex2
      simp only at hex2
      rw [hex2]
      clear hAp hrd hE hapk hex hex2
      (repeat' first
    | ((with_reducible refine wpd_at 4 ?_); refine wpd_tail 10 KR KR KR ?_)
    | ((with_reducible refine at_row ?_); refine row1_a fun _ _ _ _ _ _ _ => ?_)
    | with_reducible first | (first | apply alloc_k | apply row_k); intro _ _ _ _ _ _ | (first | apply fork | apply forkp) <;> intro _ | refine forke (fun _ => ?_) fun _ _ => ?_ | refine tail_k fun _ _ _ => ?_ | refine ext_k fun _ _ _ => ?_ | refine need_a ?_ | refine st_agg KR rfl ON fun _ _ _ _ => ?_ | refine wpd_q_a ?_
    | ((with_reducible refine at_f 10 ?_); refine ret_k (hRe _ FR FR FR) fun _ _ _ => ?_)
    | simp (maxDischargeDepth := 3) only [↓X, ↓Y, ↓Q, S1, ↓reduceIte, Nat.reduceEqDiff, Nat.reduceAdd, Int.reduceLT, Int.reduceLE, Int.reduceNeg, Int.reduceBEq, Int.reduceBNe, Int.reduceEq, Nat.reduceLeDiff, Nat.reduceMul, Nat.reduceLT, *, siteC, stepV, stepC, nV]
    | simp (singlePass := true) (maxDischargeDepth := 99) only [*, S2, Nat.reduceLT, siteC, stepV, stepC, nV])
  · rintro g wk nk sk ck hbk ⟨hi, hf, hp⟩
    simp (maxDischargeDepth := 3) only [U, ↓reduceIte, Nat.reduceEqDiff, *] at hf
    obtain ⟨y, h, r, kb, hor, hex⟩ := hp.out
    have bBk : Bl B w wk := FR
    have hBk : B ≤ wk.heap.size := FR
    have hxwk : Ext w wk := FR
    have hyk : WorldR wk wk.heap.size h r y := by
      rcases hor with ⟨rfl, rfl, rfl⟩ | ⟨o1, o2⟩
      · have hXk := hX wk bBk
        exact ⟨hXk.h.more hBk, hXk.r.more hBk⟩
      · exact ⟨o1.slN (f := stateC), o2.slN (f := replC)⟩
    have k8 := kb.bk
    have hyq := hyk.sk (Nat.le_refl _)
    have hYk := hyq.2.2.2.2
    have bk : Bl wk.heap.size wk wk := Bl.refl (Nat.le_refl _)
    rw [List.drop_length] at hex
    rw [← hex]
    clear hp hor kb hex
    (repeat' first
    | ((with_reducible refine at_row ?_); refine row1_a fun _ _ _ _ _ _ _ => ?_)
    | with_reducible first | (first | apply alloc_k | apply row_k); intro _ _ _ _ _ _ | (first | apply fork | apply forkp) <;> intro _ | refine forke (fun _ => ?_) fun _ _ => ?_ | refine tail_k fun _ _ _ => ?_ | refine ext_k fun _ _ _ => ?_ | refine need_a ?_ | refine st_agg KR rfl ON fun _ _ _ _ => ?_ | refine wpd_q_a ?_
    | ((with_reducible refine at_f 17 ?_); refine ret_k (ref13Same (B := wk.heap.size) (B' := B) (x := y) (y := seen) FR FR (hYk _ FR) (hY _ FR)) fun _ _ _ => ?_)
    | simp (maxDischargeDepth := 3) only [↓X, ↓Y, ↓Q, S1, ↓reduceIte, Nat.reduceEqDiff, Nat.reduceAdd, Int.reduceLT, Int.reduceLE, Int.reduceNeg, Int.reduceBEq, Int.reduceBNe, Int.reduceEq, Nat.reduceLeDiff, Nat.reduceMul, Nat.reduceLT, *]
    | simp (singlePass := true) (maxDischargeDepth := 99) only [*, S2, Nat.reduceLT])
    rfl
end
end Go.Proofs.YtmcdgepfhpakiaaGreat
/- The document's answer, layer 30: sets. -/
namespace Go.Proofs.YtmcdgepfhpakiaaGreat
set_option linter.unusedSimpArgs false
set_option linter.unusedVariables false
open Go Go.RowKit
set_option maxRecDepth 100000
set_option linter.unusedSectionVars false
set_option maxHeartbeats 2000000
section
variable {w : World} {n : Nat}
theorem sets_bd {m f : Nat} (h : n ≤ 12) : (setsL n m f).length ≤ 4096 := Nat.le_trans (sets_len m f) (by
  have : (2 : Nat) ^ (n - f) ≤ 2 ^ 12 := Nat.pow_le_pow_right (by decide) (by omega)
  exact this)
theorem part_bd {m f c j : Nat} (h : n ≤ 12) (hc : f + c < n) (hj : j ≤ (setsL n m (f + c + 1)).length) : (((List.range' f c).flatMap fun i => (setsL n m (i + 1)).map (i :: ·)) ++ ((setsL n m (f + c + 1)).take j).map ((f + c) :: ·)).length ≤ 8192 := by
  have h1 := sets_part (n := n) m f (fun i => sets_len m i) c (by omega)
  have h2 : (2 : Nat) ^ (n - f) ≤ 2 ^ 12 := Nat.pow_le_pow_right (by decide) (by omega)
  have h3 := sets_bd (m := m) (f := f + c + 1) h
  have h4 : (2 : Nat) ^ 12 = 4096 := by decide
  rw [List.length_append, List.length_map, List.length_take]
  have h5 : ((List.range' f c).flatMap fun i => (setsL n m (i + 1)).map (i :: ·)).length ≤ 4096 := by
    have := Nat.le_trans (Nat.le_add_right _ _) h1
    omega
  omega
theorem ref30sets0 (f : Nat) : CallsV Tryz.prog 25 #[.int .i64 (n : Nat), .int .i64 (f : Nat), .int .i64 (0 : Nat)] w fun v w' => Ext w w' ∧ OwnLN w' w.heap.size v (setsL n 0 f) := by
  have hn : Now w := trivial
  have hx : Ext w w := Ext.refl w
  (refine callsV_of Tryz.func25 rfl KR KR ?_; rw [Tryz.results25])
  (repeat' first
    | ((with_reducible refine at_row ?_); refine row1_a fun _ _ _ _ _ _ _ => ?_)
    | with_reducible first | (first | apply alloc_k | apply row_k); intro _ _ _ _ _ _ | (first | apply fork | apply forkp) <;> intro _ | refine forke (fun _ => ?_) fun _ _ => ?_ | refine tail_k fun _ _ _ => ?_ | refine ext_k fun _ _ _ => ?_ | refine need_a ?_ | refine st_agg KR rfl ON fun _ _ _ _ => ?_ | refine wpd_q_a ?_
    | simp (maxDischargeDepth := 3) only [↓X, ↓Y, ↓Q, S1, ↓reduceIte, Nat.reduceEqDiff, Nat.reduceAdd, Int.reduceLT, Int.reduceLE, Int.reduceNeg, Int.reduceBEq, Int.reduceBNe, Int.reduceEq, Nat.reduceLeDiff, Nat.reduceMul, Nat.reduceLT, *]
    | simp (singlePass := true) (maxDischargeDepth := 99) only [*, S2, Nat.reduceLT])
  rename_i b1 w1 n1 k1 s1 q1 l1 b2 w2 n2 k2 s2 q2 l2
  have h1 : w.heap.size ≤ b1 := FR
  have h2 : w.heap.size ≤ b2 := FR
  refine ⟨[.slice (some ⟨b1, 0, none⟩) 0 0], rfl, Own.ofBlkN (cs := [[.slice (some ⟨b1, 0, none⟩) 0 0]]) rfl (k2.2.1 _ FR) (by simp) h2 (by simp), fun i hi => ?_⟩
  obtain rfl : i = 0 := by simpa using hi
  exact Own.ofBlkN (cs := []) rfl (k1.2.1 _ FR) (by simp) h1 (by simp)
theorem OwnLN.keepR {w w' : World} {B : Nat} {v : Value} {ll : List (List Nat)} (h : OwnLN w B v ll) (hk : ∀ c, B ≤ c → c < w.heap.size → w'.heap[c]? = w.heap[c]?) : OwnLN w' B v ll := by
  obtain ⟨us, h1, h2, h3⟩ := h
  exact ⟨us, h1, h2.keep fun b hb => hk b (h2.lt b hb).1 (h2.lt b hb).2, fun i hi => (h3 i hi).keep fun b hb => hk b ((h3 i hi).lt b hb).1 ((h3 i hi).lt b hb).2⟩
theorem ref30setsS (h12 : n ≤ 12) (m f : Nat) (hm : m ≤ 12) (hf0 : f ≤ 13) (ih : ∀ {w : World} (f : Nat), f ≤ 13 → CallsV Tryz.prog 25 #[.int .i64 (n : Nat), .int .i64 (f : Nat), .int .i64 (m : Nat)] w fun v w' => Ext w w' ∧ OwnLN w' w.heap.size v (setsL n m f)) : CallsV Tryz.prog 25 #[.int .i64 (n : Nat), .int .i64 (f : Nat), .int .i64 (m + 1 : Nat)] w fun v w' => Ext w w' ∧ OwnLN w' w.heap.size v (setsL n (m + 1) f) := by
  have hn : Now w := trivial
  have hx : Ext w w := Ext.refl w
  have hm0 : ¬ ((m + 1 : Nat) : Int) = 0 := by omega
  have hm1 : (((m + 1 : Nat) : Int) == 0) = false := by simpa using hm0
  have hw3 : IntKind.i64.wrap (((m + 1 : Nat) : Int) - 1) = (m : Int) := by rw [wrap_i64_id] <;> omega
  have hne : Hid (n ≤ 12) := h12
  (refine callsV_of Tryz.func25 rfl KR KR ?_; rw [Tryz.results25])
  (repeat' first
    | ((with_reducible refine at_row ?_); refine row1_a fun _ _ _ _ _ _ _ => ?_)
    | with_reducible first | (first | apply alloc_k | apply row_k); intro _ _ _ _ _ _ | (first | apply fork | apply forkp) <;> intro _ | refine forke (fun _ => ?_) fun _ _ => ?_ | refine tail_k fun _ _ _ => ?_ | refine ext_k fun _ _ _ => ?_ | refine need_a ?_ | refine st_agg KR rfl ON fun _ _ _ _ => ?_ | refine wpd_q_a ?_
    | simp (maxDischargeDepth := 3) only [↓X, ↓Y, ↓Q, S1, ↓reduceIte, Nat.reduceEqDiff, Nat.reduceAdd, Int.reduceLT, Int.reduceLE, Int.reduceNeg, Int.reduceBEq, Int.reduceBNe, Int.reduceEq, Nat.reduceLeDiff, Nat.reduceMul, Nat.reduceLT, *]
    | simp (singlePass := true) (maxDischargeDepth := 99) only [*, S2, Nat.reduceLT])
  refine loop_f f (f + (n - f)) (fun g0 k g w' => g 8 = .int .i64 (k : Int) ∧ (g 0 = g0 0 ∧ g 2 = g0 2) ∧ Hid (Ext w w' ∧ f ≤ k) ∧ ∃ v, g 7 = v ∧ OwnLN w' w.heap.size v ((List.range' f (k - f)).flatMap fun i => (setsL n m (i + 1)).map (i :: ·))) KR (by omega) ?_ ?_ ?_
  · (repeat' first
    | ((with_reducible refine at_row ?_); refine row1_a fun _ _ _ _ _ _ _ => ?_)
    | with_reducible first | (first | apply alloc_k | apply row_k); intro _ _ _ _ _ _ | (first | apply fork | apply forkp) <;> intro _ | refine forke (fun _ => ?_) fun _ _ => ?_ | refine tail_k fun _ _ _ => ?_ | refine ext_k fun _ _ _ => ?_ | refine need_a ?_ | refine st_agg KR rfl ON fun _ _ _ _ => ?_ | refine wpd_q_a ?_
    | simp (maxDischargeDepth := 3) only [↓X, ↓Y, ↓Q, S1, ↓reduceIte, Nat.reduceEqDiff, Nat.reduceAdd, Int.reduceLT, Int.reduceLE, Int.reduceNeg, Int.reduceBEq, Int.reduceBNe, Int.reduceEq, Nat.reduceLeDiff, Nat.reduceMul, Nat.reduceLT, *]
    | simp (singlePass := true) (maxDischargeDepth := 99) only [*, S2, Nat.reduceLT])
    all_goals exact ⟨by show True; trivial, _, rfl, by simpa using OwnLN.nil _ _⟩
  · rintro k mm g wk hk hlt nk ⟨hi, hf, hp, vo, hvo, hown⟩
    simp (maxDischargeDepth := 3) only [U, ↓reduceIte, Nat.reduceEqDiff, *] at hf
    obtain ⟨hxk, hfk⟩ := hp.out
    have hkn : k < n := by omega
    have hlt' : (k : Int) < (n : Int) := by omega
    have hw2 : IntKind.i64.wrap ((k : Int) + 1) = ((k + 1 : Nat) : Int) := by rw [wrap_i64_id] <;> omega
    have rk := Ext.refl wk
    (repeat' first
    | ((with_reducible refine at_row ?_); refine row1_a fun _ _ _ _ _ _ _ => ?_)
    | with_reducible first | (first | apply alloc_k | apply row_k); intro _ _ _ _ _ _ | (first | apply fork | apply forkp) <;> intro _ | refine forke (fun _ => ?_) fun _ _ => ?_ | refine tail_k fun _ _ _ => ?_ | refine ext_k fun _ _ _ => ?_ | refine need_a ?_ | refine st_agg KR rfl ON fun _ _ _ _ => ?_ | refine wpd_q_a ?_
    | simp (maxDischargeDepth := 3) only [↓X, ↓Y, ↓Q, S1, ↓reduceIte, Nat.reduceEqDiff, Nat.reduceAdd, Int.reduceLT, Int.reduceLE, Int.reduceNeg, Int.reduceBEq, Int.reduceBNe, Int.reduceEq, Nat.reduceLeDiff, Nat.reduceMul, Nat.reduceLT, *]
    | simp (singlePass := true) (maxDischargeDepth := 99) only [*, S2, Nat.reduceLT])
    refine call_k (ih (k + 1) (by omega)) ?_
    rintro rv wr nr sr hrest
    have hxr : Ext wk wr := FR
    have hrone := hrest.one
    generalize hO : ((List.range' f (k - f)).flatMap fun i => (setsL n m (i + 1)).map (i :: ·)) = O at *
    have hbd : ∀ j, j ≤ (setsL n m (k + 1)).length → (O ++ ((setsL n m (k + 1)).take j).map (k :: ·)).length ≤ 8192 := by
      intro j hj
      rw [← hO]
      have := part_bd (n := n) (m := m) (f := f) (c := k - f) (j := j) h12 (by omega)
      rw [show f + (k - f) = k by omega] at this
      exact this hj
    have hO1 : O ++ (setsL n m (k + 1)).map (k :: ·) = ((List.range' f (k + 1 - f)).flatMap fun i => (setsL n m (i + 1)).map (i :: ·)) := by
      rw [← hO, show k + 1 - f = (k - f) + 1 by omega, List.range'_concat, List.flatMap_append, show f + 1 * (k - f) = k by omega]
      simp
    have hlen : (setsL n m (k + 1)).length ≤ 4096 := sets_bd h12
    have heach := sets_each (n := n) m (k + 1)
    replace hO1 : Hid _ := hO1
    replace hO : Hid _ := hO
    replace hbd : Hid _ := hbd
    replace hlen : Hid _ := hlen
    replace heach : Hid _ := heach
    generalize setsL n m (k + 1) = R at *
    have hvo1 := hown.one
    obtain ⟨us, hus, hro, hre⟩ := hrest
    have hrow : OwnLN wr w.heap.size vo O := hown.ext hxr
    have hob : ∀ b, vo.ownBlock = some b → b < wk.heap.size := fun b hb => by
      obtain ⟨us2, _, h2, _⟩ := hown
      exact (h2.lt b hb).2
    clear hown ih
    have hlr : lenN rv = R.length := by
      have := (hro.sl1 (f := id)).len
      rw [List.length_map] at this
      omega
    have hslr := (hro.sl1 (f := id)).k (Nat.le_refl _)
    (repeat' first
    | ((with_reducible refine at_row ?_); refine row1_a fun _ _ _ _ _ _ _ => ?_)
    | with_reducible first | (first | apply alloc_k | apply row_k); intro _ _ _ _ _ _ | (first | apply fork | apply forkp) <;> intro _ | refine forke (fun _ => ?_) fun _ _ => ?_ | refine tail_k fun _ _ _ => ?_ | refine ext_k fun _ _ _ => ?_ | refine need_a ?_ | refine st_agg KR rfl ON fun _ _ _ _ => ?_ | refine wpd_q_a ?_
    | simp (maxDischargeDepth := 3) only [↓X, ↓Y, ↓Q, S1, ↓reduceIte, Nat.reduceEqDiff, Nat.reduceAdd, Int.reduceLT, Int.reduceLE, Int.reduceNeg, Int.reduceBEq, Int.reduceBNe, Int.reduceEq, Nat.reduceLeDiff, Nat.reduceMul, Nat.reduceLT, *]
    | simp (singlePass := true) (maxDischargeDepth := 99) only [*, S2, Nat.reduceLT])
    refine loop_g R.length (fun g0 j g w' => g 10 = .int .i64 (j : Int) ∧ (g 0 = g0 0 ∧ g 2 = g0 2 ∧ g 8 = g0 8 ∧ g 9 = g0 9) ∧ Hid (Ext w w' ∧ wr.heap.size ≤ w'.heap.size ∧ (∀ c, wk.heap.size ≤ c → c < wr.heap.size → w'.heap[c]? = wr.heap[c]?)) ∧ ∃ v, g 7 = v ∧ OwnLN w' w.heap.size v (O ++ (R.take j).map (k :: ·)) ∧ ∀ b, v.ownBlock = some b → b < wk.heap.size ∨ wr.heap.size ≤ b) KR ?_ ?_ ?_
    · (repeat' first
    | ((with_reducible refine at_row ?_); refine row1_a fun _ _ _ _ _ _ _ => ?_)
    | with_reducible first | (first | apply alloc_k | apply row_k); intro _ _ _ _ _ _ | (first | apply fork | apply forkp) <;> intro _ | refine forke (fun _ => ?_) fun _ _ => ?_ | refine tail_k fun _ _ _ => ?_ | refine ext_k fun _ _ _ => ?_ | refine need_a ?_ | refine st_agg KR rfl ON fun _ _ _ _ => ?_ | refine wpd_q_a ?_
    | simp (maxDischargeDepth := 3) only [↓X, ↓Y, ↓Q, S1, ↓reduceIte, Nat.reduceEqDiff, Nat.reduceAdd, Int.reduceLT, Int.reduceLE, Int.reduceNeg, Int.reduceBEq, Int.reduceBNe, Int.reduceEq, Nat.reduceLeDiff, Nat.reduceMul, Nat.reduceLT, *]
    | simp (singlePass := true) (maxDischargeDepth := 99) only [*, S2, Nat.reduceLT])
      all_goals exact ⟨fun _ _ _ => trivial, _, rfl, by simpa using hrow, fun b hb => .inl (hob b hb)⟩
    · rintro j m2 g wj hj hjl nj ⟨hi, hf, hq, vj, hvj, howj, hbj⟩
      simp (maxDischargeDepth := 3) only [U, ↓reduceIte, Nat.reduceEqDiff, *] at hf
      obtain ⟨hxj, hzj, hkp⟩ := hq.out
      have hju : j < us.length := by omega
      have hroj : Own wj wk.heap.size 40 1 rv (us.map fun u => [u]) := hro.keep fun b hb => hkp b (hro.lt b hb).1 (hro.lt b hb).2
      have hrej : OwnN wj wk.heap.size us[j] R[j] := by
        have h9 := (hre j hju).keep fun b hb => hkp b ((hre j hju).lt b hb).1 ((hre j hju).lt b hb).2
        rwa [List.getD_eq_getElem?_getD, List.getElem?_eq_getElem hjl] at h9
      have hslj := (hroj.sl1 (f := id)).k (Nat.le_refl _)
      have hwkj : wk.heap.size ≤ wj.heap.size := Nat.le_trans hxr.size hzj
      have hwj : w.heap.size ≤ wj.heap.size := hxj.size
      have hp13 : R[j].length ≤ 13 := by have := (heach.out _ (List.getElem_mem hjl)).1; omega
      have hw4 : IntKind.i64.wrap ((j : Int) + 1) = ((j + 1 : Nat) : Int) := by have := hlen.out; rw [wrap_i64_id] <;> omega
      have hjl' : (j : Int) < (R.length : Int) := by omega
      have rj := Ext.refl wj
      have uone : us[j].oneCell' = true := hrej.one
      have hrd : Own.one hrej = Own.one hrej := rfl
      clear hslr hq hrd
      (repeat' first
    | ((with_reducible refine at_row ?_); refine row1_a fun _ _ _ _ _ _ _ => ?_)
    | with_reducible first | (first | apply alloc_k | apply row_k); intro _ _ _ _ _ _ | (first | apply fork | apply forkp) <;> intro _ | refine forke (fun _ => ?_) fun _ _ => ?_ | refine tail_k fun _ _ _ => ?_ | refine ext_k fun _ _ _ => ?_ | refine need_a ?_ | refine st_agg KR rfl ON fun _ _ _ _ => ?_ | refine wpd_q_a ?_
    | simp (maxDischargeDepth := 3) only [↓X, ↓Y, ↓Q, S1, ↓reduceIte, Nat.reduceEqDiff, Nat.reduceAdd, Int.reduceLT, Int.reduceLE, Int.reduceNeg, Int.reduceBEq, Int.reduceBNe, Int.reduceEq, Nat.reduceLeDiff, Nat.reduceMul, Nat.reduceLT, *]
    | simp (singlePass := true) (maxDischargeDepth := 99) only [*, S2, Nat.reduceLT])
      rename_i bq wq nq kq sq qq slq
      have hxq : Ext wj wq := FR
      have hbq : wj.heap.size ≤ bq := FR
      refine appN (B := wj.heap.size) (l := [k]) (r := R[j]) (Own.ofBlkN (cs := [nC k]) rfl (kq.2.1 _ FR) (by intro c hc; obtain rfl := List.mem_singleton.1 hc; rfl) hbq (by simp)) (hrej.ext hxq) (by simp; omega) hxq.size fun u7 w7 n7 s7 hown7 => ?_
      have hx7 : Ext wj w7 := s7.2.2.1 _ hxq (Nat.le_refl _)
      have u7one := hown7.one
      have O7 := hown7.o
      have r7 := Ext.refl w7
      (repeat' first
    | ((with_reducible refine at_row ?_); refine row1_a fun _ _ _ _ _ _ _ => ?_)
    | with_reducible first | (first | apply alloc_k | apply row_k); intro _ _ _ _ _ _ | (first | apply fork | apply forkp) <;> intro _ | refine forke (fun _ => ?_) fun _ _ => ?_ | refine tail_k fun _ _ _ => ?_ | refine ext_k fun _ _ _ => ?_ | refine need_a ?_ | refine st_agg KR rfl ON fun _ _ _ _ => ?_ | refine wpd_q_a ?_
    | simp (maxDischargeDepth := 3) only [↓X, ↓Y, ↓Q, S1, ↓reduceIte, Nat.reduceEqDiff, Nat.reduceAdd, Int.reduceLT, Int.reduceLE, Int.reduceNeg, Int.reduceBEq, Int.reduceBNe, Int.reduceEq, Nat.reduceLeDiff, Nat.reduceMul, Nat.reduceLT, *]
    | simp (singlePass := true) (maxDischargeDepth := 99) only [*, S2, Nat.reduceLT])
      rename_i bt wt nt kt st qt slt
      have hx7t : Ext w7 wt := FR
      have hxjt : Ext wj wt := hx7.trans hx7t
      have hwt : w.heap.size ≤ wt.heap.size := Nat.le_trans hwj hxjt.size
      refine appLN2 (B := w.heap.size) (ll := O ++ (R.take j).map (k :: ·)) (l := k :: R[j]) (howj.ext hxjt) ((hown7.ext hx7t).more hwj) (kt.2.1 _ FR) (Nat.lt_of_le_of_lt (hbd.out j (Nat.le_of_lt hjl)) (by decide)) hwt fun v8 w8 n8 s8 hk8 hb8 hown8 => ?_
      have F8 : Hid ((Ext w w8 ∧ wr.heap.size ≤ w8.heap.size ∧ (∀ c, wk.heap.size ≤ c → c < wr.heap.size → w8.heap[c]? = wr.heap[c]?)) ∧ OwnLN w8 w.heap.size v8 (O ++ (R.take (j + 1)).map (k :: ·)) ∧ ∀ b, v8.ownBlock = some b → b < wk.heap.size ∨ wr.heap.size ≤ b) := by
        have hxw8 : Ext w w8 := s8.2.2.1 _ (hxj.trans hxjt) (Nat.le_refl _)
        refine ⟨⟨hxw8, s8.2.2.2.2.1 _ (Nat.le_trans hzj hxjt.size), fun c h1 h2 => ?_⟩, ?_, fun b hb => ?_⟩
        · have hcj : c < wj.heap.size := Nat.lt_of_lt_of_le h2 hzj
          rw [hk8 c (Nat.lt_of_lt_of_le hcj hxjt.size) (fun e => by rcases hbj c e with h | h <;> omega), hxjt.block c hcj]
          exact hkp c h1 h2
        · rw [List.take_succ_eq_append_getElem hjl, List.map_append, ← List.append_assoc]
          exact hown8
        · rcases hb8 b hb with h | h
          · exact hbj b h
          · exact .inr (Nat.le_trans (Nat.le_trans hzj hxjt.size) h)
      have v8one := hown8.one
      clear hown8 hk8 hb8 O7
      (repeat' first
    | ((with_reducible refine at_row ?_); refine row1_a fun _ _ _ _ _ _ _ => ?_)
    | with_reducible first | (first | apply alloc_k | apply row_k); intro _ _ _ _ _ _ | (first | apply fork | apply forkp) <;> intro _ | refine forke (fun _ => ?_) fun _ _ => ?_ | refine tail_k fun _ _ _ => ?_ | refine ext_k fun _ _ _ => ?_ | refine need_a ?_ | refine st_agg KR rfl ON fun _ _ _ _ => ?_ | refine wpd_q_a ?_
    | simp (maxDischargeDepth := 3) only [↓X, ↓Y, ↓Q, S1, ↓reduceIte, Nat.reduceEqDiff, Nat.reduceAdd, Int.reduceLT, Int.reduceLE, Int.reduceNeg, Int.reduceBEq, Int.reduceBNe, Int.reduceEq, Nat.reduceLeDiff, Nat.reduceMul, Nat.reduceLT, *]
    | simp (singlePass := true) (maxDischargeDepth := 99) only [*, S2, Nat.reduceLT])
      refine next_g hj hjl ?_
      (repeat' first
    | ((with_reducible refine at_row ?_); refine row1_a fun _ _ _ _ _ _ _ => ?_)
    | with_reducible first | (first | apply alloc_k | apply row_k); intro _ _ _ _ _ _ | (first | apply fork | apply forkp) <;> intro _ | refine forke (fun _ => ?_) fun _ _ => ?_ | refine tail_k fun _ _ _ => ?_ | refine ext_k fun _ _ _ => ?_ | refine need_a ?_ | refine st_agg KR rfl ON fun _ _ _ _ => ?_ | refine wpd_q_a ?_
    | simp (maxDischargeDepth := 3) only [↓X, ↓Y, ↓Q, S1, ↓reduceIte, Nat.reduceEqDiff, Nat.reduceAdd, Int.reduceLT, Int.reduceLE, Int.reduceNeg, Int.reduceBEq, Int.reduceBNe, Int.reduceEq, Nat.reduceLeDiff, Nat.reduceMul, Nat.reduceLT, *]
    | simp (singlePass := true) (maxDischargeDepth := 99) only [*, S2, Nat.reduceLT])
      exact ⟨F8.out.1.2.2, _, rfl, F8.out.2.1, F8.out.2.2⟩
    · rintro g wj nj ⟨hi, hf, hq, vj, hvj, howj, hbj⟩
      simp (maxDischargeDepth := 3) only [U, ↓reduceIte, Nat.reduceEqDiff, *] at hf
      obtain ⟨hxj, hzj, hkp⟩ := hq.out
      have hge : ¬ (R.length : Int) < (R.length : Int) := by omega
      rw [List.take_length, hO1.out] at howj
      (repeat' first
    | ((with_reducible refine at_row ?_); refine row1_a fun _ _ _ _ _ _ _ => ?_)
    | with_reducible first | (first | apply alloc_k | apply row_k); intro _ _ _ _ _ _ | (first | apply fork | apply forkp) <;> intro _ | refine forke (fun _ => ?_) fun _ _ => ?_ | refine tail_k fun _ _ _ => ?_ | refine ext_k fun _ _ _ => ?_ | refine need_a ?_ | refine st_agg KR rfl ON fun _ _ _ _ => ?_ | refine wpd_q_a ?_
    | simp (maxDischargeDepth := 3) only [↓X, ↓Y, ↓Q, S1, ↓reduceIte, Nat.reduceEqDiff, Nat.reduceAdd, Int.reduceLT, Int.reduceLE, Int.reduceNeg, Int.reduceBEq, Int.reduceBNe, Int.reduceEq, Nat.reduceLeDiff, Nat.reduceMul, Nat.reduceLT, *]
    | simp (singlePass := true) (maxDischargeDepth := 99) only [*, S2, Nat.reduceLT])
      refine next_g hk hlt ?_
      (repeat' first
    | ((with_reducible refine at_row ?_); refine row1_a fun _ _ _ _ _ _ _ => ?_)
    | with_reducible first | (first | apply alloc_k | apply row_k); intro _ _ _ _ _ _ | (first | apply fork | apply forkp) <;> intro _ | refine forke (fun _ => ?_) fun _ _ => ?_ | refine tail_k fun _ _ _ => ?_ | refine ext_k fun _ _ _ => ?_ | refine need_a ?_ | refine st_agg KR rfl ON fun _ _ _ _ => ?_ | refine wpd_q_a ?_
    | simp (maxDischargeDepth := 3) only [↓X, ↓Y, ↓Q, S1, ↓reduceIte, Nat.reduceEqDiff, Nat.reduceAdd, Int.reduceLT, Int.reduceLE, Int.reduceNeg, Int.reduceBEq, Int.reduceBNe, Int.reduceEq, Nat.reduceLeDiff, Nat.reduceMul, Nat.reduceLT, *]
    | simp (singlePass := true) (maxDischargeDepth := 99) only [*, S2, Nat.reduceLT])
      all_goals exact ⟨by show f ≤ k + 1; omega, _, rfl, howj⟩
  · rintro g wk nk ⟨hi, hf, hp, vo, hvo, hown⟩
    simp (maxDischargeDepth := 3) only [U, ↓reduceIte, Nat.reduceEqDiff, *] at hf
    obtain ⟨hxk, hfk⟩ := hp.out
    have hge : ¬ ((f + (n - f) : Nat) : Int) < (n : Int) := by omega
    (repeat' first
    | ((with_reducible refine at_row ?_); refine row1_a fun _ _ _ _ _ _ _ => ?_)
    | with_reducible first | (first | apply alloc_k | apply row_k); intro _ _ _ _ _ _ | (first | apply fork | apply forkp) <;> intro _ | refine forke (fun _ => ?_) fun _ _ => ?_ | refine tail_k fun _ _ _ => ?_ | refine ext_k fun _ _ _ => ?_ | refine need_a ?_ | refine st_agg KR rfl ON fun _ _ _ _ => ?_ | refine wpd_q_a ?_
    | simp (maxDischargeDepth := 3) only [↓X, ↓Y, ↓Q, S1, ↓reduceIte, Nat.reduceEqDiff, Nat.reduceAdd, Int.reduceLT, Int.reduceLE, Int.reduceNeg, Int.reduceBEq, Int.reduceBNe, Int.reduceEq, Nat.reduceLeDiff, Nat.reduceMul, Nat.reduceLT, *]
    | simp (singlePass := true) (maxDischargeDepth := 99) only [*, S2, Nat.reduceLT])
    all_goals
      unfold setsL
      rw [Nat.add_sub_cancel_left] at hown
      exact hown
theorem ref30sets (h12 : n ≤ 12) : ∀ (m : Nat), m ≤ 13 → ∀ {w : World} (f : Nat), f ≤ 13 → CallsV Tryz.prog 25 #[.int .i64 (n : Nat), .int .i64 (f : Nat), .int .i64 (m : Nat)] w fun v w' => Ext w w' ∧ OwnLN w' w.heap.size v (setsL n m f)
  | 0, _, _, f, _ => ref30sets0 f
  | m + 1, hm, _, f, hf => ref30setsS h12 m f (by omega) hf (fun f hf => ref30sets h12 m (by omega) f hf)
end
end Go.Proofs.YtmcdgepfhpakiaaGreat
/- The document's answer, layer 30: Explain. -/
namespace Go.Proofs.YtmcdgepfhpakiaaGreat
set_option linter.unusedSimpArgs false
set_option linter.unusedVariables false
open Go Go.RowKit
set_option maxRecDepth 100000
set_option linter.unusedSectionVars false
set_option maxHeartbeats 2000000
theorem expl_next {ap : WorldD → Nat → Option WorldD} {seen x : WorldD} {n k : Nat} (h : (List.range k).findSome? (fun m => tryS ap seen n m x 0) = none) (ht : tryS ap seen n k x 0 = none) : (List.range (k + 1)).findSome? (fun m => tryS ap seen n m x 0) = none := by
  rw [List.range_succ, List.findSome?_append, h, Option.none_or]
  simp [ht]
theorem expl_found {ap : WorldD → Nat → Option WorldD} {seen x : WorldD} {n k : Nat} {r : List Nat} (hk : k ≤ n) (h : (List.range k).findSome? (fun m => tryS ap seen n m x 0) = none) (ht : tryS ap seen n k x 0 = some r) : explS ap seen n x = some r := by
  unfold explS
  have e2 : List.range (n + 1) = List.range (k + 1) ++ (List.range' (k + 1) (n - k)) := by
    have h9 := List.range'_append (s := 0) (m := k + 1) (n := n - k) (step := 1)
    rw [List.range_eq_range', List.range_eq_range']
    rw [show 0 + 1 * (k + 1) = k + 1 by omega] at h9
    rw [h9]
    congr 1
    omega
  rw [e2, List.findSome?_append, List.range_succ, List.findSome?_append, h, Option.none_or]
  simp [ht]
theorem find_at {α : Type} {p : α → Bool} {l : List α} {j : Nat} (hj : j < l.length) (h1 : ∀ i (h : i < l.length), i < j → p l[i] = false) (h2 : p l[j] = true) : l.find? p = some l[j] := by
  rw [List.find?_eq_some_iff_getElem]
  exact ⟨h2, j, hj, rfl, fun i hi => by rw [h1 i (by omega) hi]; rfl⟩
section
variable {w : World} {B : Nat} {u : SiteVs} {sd : SiteD} {wv : Value} {l : List SrvV} {hv rv' hs' rs' sv pv : Value} {seen x : WorldD} {steps : List StepD}
theorem ref30Explain (hB : B ≤ w.heap.size) (hs : SiteR w B u sd) (hl : WishR w B wv l) (hx0 : WorldR w B hv rv' x) (hst : Sl w B (some 4) 4 sv (steps.map stepV)) (hy0 : WorldR w B hs' rs' seen) : CallsV Tryz.prog 8 #[.agg (siteC u sd).toArray, .agg #[wv], .agg #[hv, rv'], sv, .agg #[hs', rs']] w fun v w' => Ext w w' ∧ ExplR w.heap.size w' v (askB sd (l.map (·.x)) x steps seen) (explS (apS sd (l.map (·.x)) steps) seen steps.length x) := by
  have hn : Now w := trivial
  have hx : Ext w w := Ext.refl w
  have hsk := hs.sk hB
  have hlk := hl.sk hB
  have hx' := hx0.sk hB
  have hy' := hy0.sk hB
  have hS := hsk.2.2.2.2.2.2
  have hW := hlk.2.2
  have hX := hx'.2.2.2.2
  have hY := hy'.2.2.2.2
  have hq := hst.k hB
  have hQ := fun w' (h : Bl B w w') => hst.bl h
  have bB : Bl B w w := Bl.refl hB
  cases c1 : askB sd (l.map (·.x)) x steps seen
  · (refine callsV_of Tryz.func8 rfl KR KR ?_; rw [Tryz.results8])
    (repeat' first
    | ((with_reducible refine at_row ?_); refine row1_a fun _ _ _ _ _ _ _ => ?_)
    | with_reducible first | (first | apply alloc_k | apply row_k); intro _ _ _ _ _ _ | (first | apply fork | apply forkp) <;> intro _ | refine forke (fun _ => ?_) fun _ _ => ?_ | refine tail_k fun _ _ _ => ?_ | refine ext_k fun _ _ _ => ?_ | refine need_a ?_ | refine st_agg KR rfl ON fun _ _ _ _ => ?_ | refine wpd_q_a ?_
    | ((with_reducible refine at_f 9 ?_); refine ret_k (ref30Asked (B := B) (x := x) (seen := seen) FR (hS _ FR) (hW _ FR) (hX _ FR) (hQ _ FR) (hY _ FR)) fun _ _ _ => ?_)
    | simp (maxDischargeDepth := 3) only [↓X, ↓Y, ↓Q, S1, ↓reduceIte, Nat.reduceEqDiff, Nat.reduceAdd, Int.reduceLT, Int.reduceLE, Int.reduceNeg, Int.reduceBEq, Int.reduceBNe, Int.reduceEq, Nat.reduceLeDiff, Nat.reduceMul, Nat.reduceLT, *, siteC]
    | simp (singlePass := true) (maxDischargeDepth := 99) only [*, S2, Nat.reduceLT, siteC])
    rfl
  · have h12 : steps.length ≤ 12 := by
      simp only [askB, Bool.and_eq_true, decide_eq_true_eq] at c1
      exact c1.1.2
    (refine callsV_of Tryz.func8 rfl KR KR ?_; rw [Tryz.results8])
    (repeat' first
    | ((with_reducible refine at_row ?_); refine row1_a fun _ _ _ _ _ _ _ => ?_)
    | with_reducible first | (first | apply alloc_k | apply row_k); intro _ _ _ _ _ _ | (first | apply fork | apply forkp) <;> intro _ | refine forke (fun _ => ?_) fun _ _ => ?_ | refine tail_k fun _ _ _ => ?_ | refine ext_k fun _ _ _ => ?_ | refine need_a ?_ | refine st_agg KR rfl ON fun _ _ _ _ => ?_ | refine wpd_q_a ?_
    | ((with_reducible refine at_f 9 ?_); refine ret_k (ref30Asked (B := B) (x := x) (seen := seen) FR (hS _ FR) (hW _ FR) (hX _ FR) (hQ _ FR) (hY _ FR)) fun _ _ _ => ?_)
    | simp (maxDischargeDepth := 3) only [↓X, ↓Y, ↓Q, S1, ↓reduceIte, Nat.reduceEqDiff, Nat.reduceAdd, Int.reduceLT, Int.reduceLE, Int.reduceNeg, Int.reduceBEq, Int.reduceBNe, Int.reduceEq, Nat.reduceLeDiff, Nat.reduceMul, Nat.reduceLT, *, siteC]
    | simp (singlePass := true) (maxDischargeDepth := 99) only [*, S2, Nat.reduceLT, siteC])
    rename_i b5 w5 n5 k5 s5 q5 b6 w6 n6 k6 s6 q6 b7 w7 n7 k7 s7 q7 b9 w9 n9 k9 s9 q9 wA nA sA
    have hxA : Ext w wA := FR
    refine loop_k (steps.length + 1) (fun g0 k g _ => g 13 = .int .i64 (k : Int) ∧ (g 3 = g0 3 ∧ g 5 = g0 5 ∧ g 6 = g0 6 ∧ g 7 = g0 7 ∧ g 9 = g0 9) ∧ Hid ((List.range k).findSome? (fun m => tryS (apS sd (l.map (·.x)) steps) seen steps.length m x 0) = none)) KR (by omega) ?_ ?_ ?_
    · (repeat' first
    | ((with_reducible refine at_row ?_); refine row1_a fun _ _ _ _ _ _ _ => ?_)
    | with_reducible first | (first | apply alloc_k | apply row_k); intro _ _ _ _ _ _ | (first | apply fork | apply forkp) <;> intro _ | refine forke (fun _ => ?_) fun _ _ => ?_ | refine tail_k fun _ _ _ => ?_ | refine ext_k fun _ _ _ => ?_ | refine need_a ?_ | refine st_agg KR rfl ON fun _ _ _ _ => ?_ | refine wpd_q_a ?_
    | simp (maxDischargeDepth := 3) only [↓X, ↓Y, ↓Q, S1, ↓reduceIte, Nat.reduceEqDiff, Nat.reduceAdd, Int.reduceLT, Int.reduceLE, Int.reduceNeg, Int.reduceBEq, Int.reduceBNe, Int.reduceEq, Nat.reduceLeDiff, Nat.reduceMul, Nat.reduceLT, *]
    | simp (singlePass := true) (maxDischargeDepth := 99) only [*, S2, Nat.reduceLT])
      all_goals rfl
    · rintro k m g wk hk hlt _ _ _ hw ⟨hi, hf, hp⟩
      simp (maxDischargeDepth := 3) only [U, ↓reduceIte, Nat.reduceEqDiff, *] at hf
      have hkn : (k : Int) ≤ (steps.length : Int) := by omega
      have rk := Ext.refl wk
      have hxwk : Ext w wk := FR
      have bBk : Bl B w wk := FR
      have hBk : B ≤ wk.heap.size := FR
      (repeat' first
    | ((with_reducible refine at_row ?_); refine row1_a fun _ _ _ _ _ _ _ => ?_)
    | with_reducible first | (first | apply alloc_k | apply row_k); intro _ _ _ _ _ _ | (first | apply fork | apply forkp) <;> intro _ | refine forke (fun _ => ?_) fun _ _ => ?_ | refine tail_k fun _ _ _ => ?_ | refine ext_k fun _ _ _ => ?_ | refine need_a ?_ | refine st_agg KR rfl ON fun _ _ _ _ => ?_ | refine wpd_q_a ?_
    | simp (maxDischargeDepth := 3) only [↓X, ↓Y, ↓Q, S1, ↓reduceIte, Nat.reduceEqDiff, Nat.reduceAdd, Int.reduceLT, Int.reduceLE, Int.reduceNeg, Int.reduceBEq, Int.reduceBNe, Int.reduceEq, Nat.reduceLeDiff, Nat.reduceMul, Nat.reduceLT, *]
    | simp (singlePass := true) (maxDischargeDepth := 99) only [*, S2, Nat.reduceLT])
      refine call_k (ref30sets h12 k (by omega) 0 (by omega)) ?_
      rintro rv wr nr sr ⟨us, hus, hro, hre⟩
      have hxr : Ext wk wr := FR
      have rone := hro.one
      have hst := sets_try (ap := apS sd (l.map (·.x)) steps) (seen := seen) (n := steps.length) k x 0
      have heach := sets_each (n := steps.length) k 0
      have hlen : (setsL steps.length k 0).length ≤ 4096 := sets_bd h12
      generalize setsL steps.length k 0 = R at *
      have hlr : lenN rv = R.length := by
        have := (hro.sl1 (f := id)).len
        rw [List.length_map] at this
        omega
      have hslr := (hro.sl1 (f := id)).k (Nat.le_refl _)
      have bBr : Bl B w wr := bBk.ext hxr
      have hBr : B ≤ wr.heap.size := Nat.le_trans hBk hxr.size
      have bwr : Bl wr.heap.size wr wr := Bl.refl (Nat.le_refl _)
      have hwk : w.heap.size ≤ wk.heap.size := hxwk.size
      have hEx : ∀ j (h : j < R.length) (hu : j < us.length) w', Bl B w w' → Bl wr.heap.size wr w' → wr.heap.size ≤ w'.heap.size → Ret Tryz.prog 12 #[.agg (siteC u sd).toArray, .agg #[wv], .agg #[hv, rv'], sv, us[j], .agg #[hs', rs']] w' (.bool (explB (apS sd (l.map (·.x)) steps) seen x R[j])) := by
        intro j h hu w' h1 h2 h3
        have h4 : Sl wr wr.heap.size none 1 us[j] (R[j].map nV) := by
          have h9 := (hre j hu).sl1 (f := nV)
          rwa [List.getD_eq_getElem?_getD, List.getElem?_eq_getElem h] at h9
        exact ref30Explains h3 ((hS w' h1).upE hBr) ((hW w' h1).upE hBr) ⟨(hX w' h1).h.more hBr, (hX w' h1).r.more hBr⟩ ((hQ w' h1).more hBr) (h4.bl h2) ⟨(hY w' h1).h.more hBr, (hY w' h1).r.more hBr⟩ (fun q hq => ((heach _ (List.getElem_mem h)).2.1 q hq).2)
      replace hst : Hid _ := hst
      clear heach
      (repeat' first
    | ((with_reducible refine at_row ?_); refine row1_a fun _ _ _ _ _ _ _ => ?_)
    | with_reducible first | (first | apply alloc_k | apply row_k); intro _ _ _ _ _ _ | (first | apply fork | apply forkp) <;> intro _ | refine forke (fun _ => ?_) fun _ _ => ?_ | refine tail_k fun _ _ _ => ?_ | refine ext_k fun _ _ _ => ?_ | refine need_a ?_ | refine st_agg KR rfl ON fun _ _ _ _ => ?_ | refine wpd_q_a ?_
    | simp (maxDischargeDepth := 3) only [↓X, ↓Y, ↓Q, S1, ↓reduceIte, Nat.reduceEqDiff, Nat.reduceAdd, Int.reduceLT, Int.reduceLE, Int.reduceNeg, Int.reduceBEq, Int.reduceBNe, Int.reduceEq, Nat.reduceLeDiff, Nat.reduceMul, Nat.reduceLT, *]
    | simp (singlePass := true) (maxDischargeDepth := 99) only [*, S2, Nat.reduceLT])
      refine loop_k R.length (fun g0 j g _ => g 15 = .int .i64 (j : Int) ∧ (g 3 = g0 3 ∧ g 5 = g0 5 ∧ g 6 = g0 6 ∧ g 7 = g0 7 ∧ g 9 = g0 9 ∧ g 13 = g0 13 ∧ g 14 = g0 14) ∧ Hid (∀ i (h : i < R.length), i < j → explB (apS sd (l.map (·.x)) steps) seen x R[i] = false)) KR (by omega) ?_ ?_ ?_
      · (repeat' first
    | ((with_reducible refine at_row ?_); refine row1_a fun _ _ _ _ _ _ _ => ?_)
    | with_reducible first | (first | apply alloc_k | apply row_k); intro _ _ _ _ _ _ | (first | apply fork | apply forkp) <;> intro _ | refine forke (fun _ => ?_) fun _ _ => ?_ | refine tail_k fun _ _ _ => ?_ | refine ext_k fun _ _ _ => ?_ | refine need_a ?_ | refine st_agg KR rfl ON fun _ _ _ _ => ?_ | refine wpd_q_a ?_
    | simp (maxDischargeDepth := 3) only [↓X, ↓Y, ↓Q, S1, ↓reduceIte, Nat.reduceEqDiff, Nat.reduceAdd, Int.reduceLT, Int.reduceLE, Int.reduceNeg, Int.reduceBEq, Int.reduceBNe, Int.reduceEq, Nat.reduceLeDiff, Nat.reduceMul, Nat.reduceLT, *]
    | simp (singlePass := true) (maxDischargeDepth := 99) only [*, S2, Nat.reduceLT])
        all_goals exact fun i _ h => absurd h (by omega)
      · rintro j m2 g wj hj hjl nj sj bj hw ⟨hi, hf, hq2⟩
        simp (maxDischargeDepth := 3) only [U, ↓reduceIte, Nat.reduceEqDiff, *] at hf
        have hju : j < us.length := by omega
        have hjl' : (j : Int) < (R.length : Int) := by omega
        have bBj : Bl B w wj := FR
        have brj : Bl wr.heap.size wr wj := FR
        have hzj : wr.heap.size ≤ wj.heap.size := FR
        have rj := Ext.refl wj
        cases hb : explB (apS sd (l.map (·.x)) steps) seen x R[j]
        · have hEj := fun w' h1 h2 h3 => hEx j hjl hju w' h1 h2 h3
          rw [hb] at hEj
          (repeat' first
    | ((with_reducible refine wpd_at 11 ?_); refine wpd_tail 9 KR KR KR ?_)
    | ((with_reducible refine at_row ?_); refine row1_a fun _ _ _ _ _ _ _ => ?_)
    | with_reducible first | (first | apply alloc_k | apply row_k); intro _ _ _ _ _ _ | (first | apply fork | apply forkp) <;> intro _ | refine forke (fun _ => ?_) fun _ _ => ?_ | refine tail_k fun _ _ _ => ?_ | refine ext_k fun _ _ _ => ?_ | refine need_a ?_ | refine st_agg KR rfl ON fun _ _ _ _ => ?_ | refine wpd_q_a ?_
    | ((with_reducible refine at_f 12 ?_); refine ret_k (hEj _ FR FR FR) fun _ _ _ => ?_)
    | simp (maxDischargeDepth := 3) only [↓X, ↓Y, ↓Q, S1, ↓reduceIte, Nat.reduceEqDiff, Nat.reduceAdd, Int.reduceLT, Int.reduceLE, Int.reduceNeg, Int.reduceBEq, Int.reduceBNe, Int.reduceEq, Nat.reduceLeDiff, Nat.reduceMul, Nat.reduceLT, *, siteC]
    | simp (singlePass := true) (maxDischargeDepth := 99) only [*, S2, Nat.reduceLT, siteC])
          refine next_k hj hjl ?_ FR
          (repeat' first
    | ((with_reducible refine at_row ?_); refine row1_a fun _ _ _ _ _ _ _ => ?_)
    | with_reducible first | (first | apply alloc_k | apply row_k); intro _ _ _ _ _ _ | (first | apply fork | apply forkp) <;> intro _ | refine forke (fun _ => ?_) fun _ _ => ?_ | refine tail_k fun _ _ _ => ?_ | refine ext_k fun _ _ _ => ?_ | refine need_a ?_ | refine st_agg KR rfl ON fun _ _ _ _ => ?_ | refine wpd_q_a ?_
    | simp (maxDischargeDepth := 3) only [↓X, ↓Y, ↓Q, S1, ↓reduceIte, Nat.reduceEqDiff, Nat.reduceAdd, Int.reduceLT, Int.reduceLE, Int.reduceNeg, Int.reduceBEq, Int.reduceBNe, Int.reduceEq, Nat.reduceLeDiff, Nat.reduceMul, Nat.reduceLT, *]
    | simp (singlePass := true) (maxDischargeDepth := 99) only [*, S2, Nat.reduceLT])
          all_goals
            refine fun i hi hij => ?_
            rcases Nat.lt_or_eq_of_le (Nat.le_of_lt_succ hij) with h3 | rfl
            · exact hq2.out i hi h3
            · exact hb
        · have hEj := fun w' h1 h2 h3 => hEx j hjl hju w' h1 h2 h3
          rw [hb] at hEj
          have hfin := expl_found (by omega) hp.out (hst.out.symm.trans (find_at hjl hq2.out hb))
          have hrj : OwnN wr w.heap.size us[j] R[j] := by
            have h9 := (hre j hju).more hwk
            rwa [List.getD_eq_getElem?_getD, List.getElem?_eq_getElem hjl] at h9
          have Oj := hrj.o
          have oj := hrj.one
          rw [hfin]
          (repeat' first
    | ((with_reducible refine wpd_at 11 ?_); refine wpd_tail 9 KR KR KR ?_)
    | ((with_reducible refine at_row ?_); refine row1_a fun _ _ _ _ _ _ _ => ?_)
    | with_reducible first | (first | apply alloc_k | apply row_k); intro _ _ _ _ _ _ | (first | apply fork | apply forkp) <;> intro _ | refine forke (fun _ => ?_) fun _ _ => ?_ | refine tail_k fun _ _ _ => ?_ | refine ext_k fun _ _ _ => ?_ | refine need_a ?_ | refine st_agg KR rfl ON fun _ _ _ _ => ?_ | refine wpd_q_a ?_
    | ((with_reducible refine at_f 12 ?_); refine ret_k (hEj _ FR FR FR) fun _ _ _ => ?_)
    | simp (maxDischargeDepth := 3) only [↓X, ↓Y, ↓Q, S1, ↓reduceIte, Nat.reduceEqDiff, Nat.reduceAdd, Int.reduceLT, Int.reduceLE, Int.reduceNeg, Int.reduceBEq, Int.reduceBNe, Int.reduceEq, Nat.reduceLeDiff, Nat.reduceMul, Nat.reduceLT, *, siteC]
    | simp (singlePass := true) (maxDischargeDepth := 99) only [*, S2, Nat.reduceLT, siteC])
          exact ⟨_, rfl, Oj.1 _ FR⟩
      · rintro g wj nj sj bj ⟨hi, hf, hq2⟩
        simp (maxDischargeDepth := 3) only [U, ↓reduceIte, Nat.reduceEqDiff, *] at hf
        have hge : ¬ (R.length : Int) < (R.length : Int) := by omega
        have hno := expl_next hp.out (hst.out.symm.trans (List.find?_eq_none.2 fun a ha => by
          obtain ⟨i, hi, rfl⟩ := List.getElem_of_mem ha
          rw [hq2.out i hi hi]
          decide))
        replace hno : Hid _ := hno
        have hw2 : IntKind.i64.wrap ((k : Int) + 1) = ((k + 1 : Nat) : Int) := by rw [wrap_i64_id] <;> omega
        (repeat' first
    | ((with_reducible refine at_row ?_); refine row1_a fun _ _ _ _ _ _ _ => ?_)
    | with_reducible first | (first | apply alloc_k | apply row_k); intro _ _ _ _ _ _ | (first | apply fork | apply forkp) <;> intro _ | refine forke (fun _ => ?_) fun _ _ => ?_ | refine tail_k fun _ _ _ => ?_ | refine ext_k fun _ _ _ => ?_ | refine need_a ?_ | refine st_agg KR rfl ON fun _ _ _ _ => ?_ | refine wpd_q_a ?_
    | simp (maxDischargeDepth := 3) only [↓X, ↓Y, ↓Q, S1, ↓reduceIte, Nat.reduceEqDiff, Nat.reduceAdd, Int.reduceLT, Int.reduceLE, Int.reduceNeg, Int.reduceBEq, Int.reduceBNe, Int.reduceEq, Nat.reduceLeDiff, Nat.reduceMul, Nat.reduceLT, *]
    | simp (singlePass := true) (maxDischargeDepth := 99) only [*, S2, Nat.reduceLT])
        refine next_k hk hlt ?_ FR
        (repeat' first
    | ((with_reducible refine at_row ?_); refine row1_a fun _ _ _ _ _ _ _ => ?_)
    | with_reducible first | (first | apply alloc_k | apply row_k); intro _ _ _ _ _ _ | (first | apply fork | apply forkp) <;> intro _ | refine forke (fun _ => ?_) fun _ _ => ?_ | refine tail_k fun _ _ _ => ?_ | refine ext_k fun _ _ _ => ?_ | refine need_a ?_ | refine st_agg KR rfl ON fun _ _ _ _ => ?_ | refine wpd_q_a ?_
    | simp (maxDischargeDepth := 3) only [↓X, ↓Y, ↓Q, S1, ↓reduceIte, Nat.reduceEqDiff, Nat.reduceAdd, Int.reduceLT, Int.reduceLE, Int.reduceNeg, Int.reduceBEq, Int.reduceBNe, Int.reduceEq, Nat.reduceLeDiff, Nat.reduceMul, Nat.reduceLT, *]
    | simp (singlePass := true) (maxDischargeDepth := 99) only [*, S2, Nat.reduceLT])
        all_goals exact hno.out
    · rintro g wk _ _ _ ⟨hi, hf, hp⟩
      simp (maxDischargeDepth := 3) only [U, ↓reduceIte, Nat.reduceEqDiff, *] at hf
      have hge : ¬ ((steps.length + 1 : Nat) : Int) ≤ (steps.length : Int) := by omega
      have hp' : explS (apS sd (l.map (·.x)) steps) seen steps.length x = none := hp.out
      rw [hp']
      (repeat' first
    | ((with_reducible refine at_row ?_); refine row1_a fun _ _ _ _ _ _ _ => ?_)
    | with_reducible first | (first | apply alloc_k | apply row_k); intro _ _ _ _ _ _ | (first | apply fork | apply forkp) <;> intro _ | refine forke (fun _ => ?_) fun _ _ => ?_ | refine tail_k fun _ _ _ => ?_ | refine ext_k fun _ _ _ => ?_ | refine need_a ?_ | refine st_agg KR rfl ON fun _ _ _ _ => ?_ | refine wpd_q_a ?_
    | simp (maxDischargeDepth := 3) only [↓X, ↓Y, ↓Q, S1, ↓reduceIte, Nat.reduceEqDiff, Nat.reduceAdd, Int.reduceLT, Int.reduceLE, Int.reduceNeg, Int.reduceBEq, Int.reduceBNe, Int.reduceEq, Nat.reduceLeDiff, Nat.reduceMul, Nat.reduceLT, *]
    | simp (singlePass := true) (maxDischargeDepth := 99) only [*, S2, Nat.reduceLT])
      rfl
end
end Go.Proofs.YtmcdgepfhpakiaaGreat
