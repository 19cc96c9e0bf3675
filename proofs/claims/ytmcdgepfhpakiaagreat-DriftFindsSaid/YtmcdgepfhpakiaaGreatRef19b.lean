
/- The document's answer, layer 19: Apply, kinds, Undo. -/
import Derived.Test.YtmcdgepfhpakiaaGreatRef19
import Derived.Test.YtmcdgepfhpakiaaGreatStart13
import Derived.Test.YtmcdgepfhpakiaaGreatCopy13
namespace Go.Proofs.YtmcdgepfhpakiaaGreat
set_option linter.unusedSimpArgs false
set_option linter.unusedVariables false
open Go Go.RowKit
set_option maxRecDepth 100000
set_option linter.unusedSectionVars false
set_option maxHeartbeats 2000000
section
variable {w : World} {B : Nat} {u : SiteVs} {s : SiteD} {wv hv rv : Value} {l : List SrvV} {x : WorldD} {st : StepD} {wl : List ServiceD}
theorem ref19Apply (hB : B ≤ w.heap.size) (hs : SiteR w B u s) (hl : WishR w B wv l) (hx0 : WorldR w B hv rv x) : CallsV Tryz.prog 11 #[.agg (siteC u s).toArray, .agg #[wv], .agg #[hv, rv], stepV st] w fun v w' => Ext w w' ∧ ∃ v0, v = .tuple #[v0, intV (applyE s (l.map (·.x)) x st)] ∧ OwnW w.heap.size v0 w' (applyW s (l.map (·.x)) x st) := by
  have hn : Now w := trivial
  have hx : Ext w w := Ext.refl w
  have hs' := hs.sk hB
  have hl' := hl.sk hB
  have hx' := hx0.sk hB
  have hS := hs'.2.2.2.2.2.2
  have hW := hl'.2.2
  have hX := hx'.2.2.2.2
  have hv1 := fun w' (h1 : Bl B w w') (h3 : B ≤ w'.heap.size) => ref19Valid (st := st) h3 (hS w' h1) (hW w' h1)
  have hv2 := fun w' (h1 : Bl B w w') (h3 : B ≤ w'.heap.size) => ref13Valid h3 (hS w' h1) (hW w' h1) (hX w' h1)
  have hv3 := fun w' (h1 : Bl B w w') (h3 : B ≤ w'.heap.size) => ref19Ready (st := st) h3 (hS w' h1) (hW w' h1) (hX w' h1)
  have hr : readyB s (l.map (·.x)) x st = (stepB2 s (l.map (·.x)) st && validB s (l.map (·.x)) x && readyK x st) := rfl
  have hp : readyB s (l.map (·.x)) x st = true → Hid (RdyOk s (l.map (·.x)) x st ∧ applyE s (l.map (·.x)) x st = 0 ∧ (x.hosts.length ≤ 1000000 ∧ x.replicas.length ≤ 1000000)
      ∧ (st.kind = 1 → startE x (replOf st) = 0 ∧ applyW s (l.map (·.x)) x st = startW x (replOf st)) ∧ (st.kind = 2 → stopE x (replOf st) = 0 ∧ applyW s (l.map (·.x)) x st = stopW x (replOf st))
      ∧ (st.kind ≠ 1 → st.kind ≠ 2 → setE x st.host = 0 ∧ applyW s (l.map (·.x)) x st = setW x st.host (newState (hostAt x st.host) st))) := fun h => by
    refine ⟨rdy_ok h, apply_zero h, apply_parts h, fun h1 => ?_, fun h2 => ?_, fun h1 h2 => ?_⟩
    · have := start_parts h h1
      exact ⟨this.2.2.2.1, by rw [applyW, if_pos h, if_pos h1]⟩
    · have := stop_parts h h2
      exact ⟨this.2.1, by rw [applyW, if_pos h, if_neg (by omega), if_pos h2]⟩
    · exact ⟨by simp [setE, set_ok (rdy_ok h)], by rw [applyW, if_pos h, if_neg h1, if_neg h2]⟩
  have hn1 : (stepB2 s (l.map (·.x)) st && validB s (l.map (·.x)) x) = false → Hid (applyE s (l.map (·.x)) x st = 1 ∧ applyW s (l.map (·.x)) x st = noW) := fun h => ⟨by unfold applyE; rw [if_neg (by simp [h])], by unfold applyW; rw [if_neg (by rw [hr, h]; simp)]⟩
  have hn2 : (stepB2 s (l.map (·.x)) st && validB s (l.map (·.x)) x) = true → readyK x st = false → Hid (applyE s (l.map (·.x)) x st = 8 ∧ applyW s (l.map (·.x)) x st = noW) := fun h h2 => ⟨by unfold applyE; rw [if_pos h, if_neg (by simp [h2])], by unfold applyW; rw [if_neg (by rw [hr, h, h2]; simp)]⟩
  rw [hr] at hp
  simp only [hr] at hv3
  clear hr
  generalize stepB2 s (l.map (·.x)) st = sb at *
  generalize validB s (l.map (·.x)) x = vb at *
  generalize readyK x st = rk at *
  generalize applyE s (l.map (·.x)) x st = E at *
  generalize applyW s (l.map (·.x)) x st = W at *
  (refine callsV_of Tryz.func11 rfl KR KR ?_; rw [Tryz.results11])
  cases sb
  · obtain ⟨rfl, rfl⟩ := (hn1 rfl).out
    clear hv2 hv3 hp hn1 hn2
    (repeat' first
    | ((with_reducible refine at_row ?_); refine row1_a fun _ _ _ _ _ _ _ => ?_)
    | with_reducible first | (first | apply alloc_k | apply row_k); intro _ _ _ _ _ _ | (first | apply fork | apply forkp) <;> intro _ | refine forke (fun _ => ?_) fun _ _ => ?_ | refine tail_k fun _ _ _ => ?_ | refine ext_k fun _ _ _ => ?_ | refine need_a ?_ | refine st_agg KR rfl ON fun _ _ _ _ => ?_ | refine wpd_q_a ?_
    | ((with_reducible refine at_f 27 ?_); refine ret_k (hv1 _ FR FR) fun _ _ _ => ?_)
    | simp (maxDischargeDepth := 3) only [↓X, ↓Y, ↓Q, S1, ↓reduceIte, Nat.reduceEqDiff, Nat.reduceAdd, Int.reduceLT, Int.reduceLE, Int.reduceNeg, Int.reduceBEq, Int.reduceBNe, Int.reduceEq, Nat.reduceLeDiff, Nat.reduceMul, Nat.reduceLT, *, siteC, stepV, stepC]
    | simp (singlePass := true) (maxDischargeDepth := 99) only [*, S2, Nat.reduceLT, siteC, stepV, stepC])
    exact ⟨_, rfl, OwnW.none _ _⟩
  cases vb
  · obtain ⟨rfl, rfl⟩ := (hn1 rfl).out
    clear hv3 hp hn1 hn2
    (repeat' first
    | ((with_reducible refine at_row ?_); refine row1_a fun _ _ _ _ _ _ _ => ?_)
    | with_reducible first | (first | apply alloc_k | apply row_k); intro _ _ _ _ _ _ | (first | apply fork | apply forkp) <;> intro _ | refine forke (fun _ => ?_) fun _ _ => ?_ | refine tail_k fun _ _ _ => ?_ | refine ext_k fun _ _ _ => ?_ | refine need_a ?_ | refine st_agg KR rfl ON fun _ _ _ _ => ?_ | refine wpd_q_a ?_
    | ((with_reducible refine at_f 27 ?_); refine ret_k (hv1 _ FR FR) fun _ _ _ => ?_)
    | ((with_reducible refine at_f 26 ?_); refine ret_k (hv2 _ FR FR) fun _ _ _ => ?_)
    | simp (maxDischargeDepth := 3) only [↓X, ↓Y, ↓Q, S1, ↓reduceIte, Nat.reduceEqDiff, Nat.reduceAdd, Int.reduceLT, Int.reduceLE, Int.reduceNeg, Int.reduceBEq, Int.reduceBNe, Int.reduceEq, Nat.reduceLeDiff, Nat.reduceMul, Nat.reduceLT, *, siteC, stepV, stepC]
    | simp (singlePass := true) (maxDischargeDepth := 99) only [*, S2, Nat.reduceLT, siteC, stepV, stepC])
    exact ⟨_, rfl, OwnW.none _ _⟩
  cases rk
  · obtain ⟨rfl, rfl⟩ := (hn2 rfl rfl).out
    clear hp hn1 hn2
    (repeat' first
    | ((with_reducible refine at_row ?_); refine row1_a fun _ _ _ _ _ _ _ => ?_)
    | with_reducible first | (first | apply alloc_k | apply row_k); intro _ _ _ _ _ _ | (first | apply fork | apply forkp) <;> intro _ | refine forke (fun _ => ?_) fun _ _ => ?_ | refine tail_k fun _ _ _ => ?_ | refine ext_k fun _ _ _ => ?_ | refine need_a ?_ | refine st_agg KR rfl ON fun _ _ _ _ => ?_ | refine wpd_q_a ?_
    | ((with_reducible refine at_f 27 ?_); refine ret_k (hv1 _ FR FR) fun _ _ _ => ?_)
    | ((with_reducible refine at_f 26 ?_); refine ret_k (hv2 _ FR FR) fun _ _ _ => ?_)
    | ((with_reducible refine at_f 10 ?_); refine ret_k (hv3 _ FR FR) fun _ _ _ => ?_)
    | simp (maxDischargeDepth := 3) only [↓X, ↓Y, ↓Q, S1, ↓reduceIte, Nat.reduceEqDiff, Nat.reduceAdd, Int.reduceLT, Int.reduceLE, Int.reduceNeg, Int.reduceBEq, Int.reduceBNe, Int.reduceEq, Nat.reduceLeDiff, Nat.reduceMul, Nat.reduceLT, *, siteC, stepV, stepC]
    | simp (singlePass := true) (maxDischargeDepth := 99) only [*, S2, Nat.reduceLT, siteC, stepV, stepC])
    exact ⟨_, rfl, OwnW.none _ _⟩
  have hq := hp rfl
  clear hp hn1 hn2
  obtain ⟨kd, ho, sv, vr⟩ := st
  obtain ⟨k, rfl⟩ : ∃ k : Nat, ho = k := ⟨ho.toNat, by have := hq.out.1.host; simp only at this; omega⟩
  have hlt : k < x.hosts.length := by have := hq.out.1.host; simp only at this; omega
  have hat : Hid (hostAt x k = x.hosts[k]) := by show _ = _; simp [hostAt, hlt]
  have hlen : Hid (x.hosts.length ≤ 1000000 ∧ x.replicas.length ≤ 1000000) := hq.out.2.2.1
  have hkd : Hid (1 ≤ kd ∧ kd ≤ 7) := hq.out.1.kind
  have hst : Hid (kd = 1 → startE x ⟨sv, k⟩ = 0 ∧ W = startW x ⟨sv, k⟩) := hq.out.2.2.2.1
  have hsp : Hid (kd = 2 → stopE x ⟨sv, k⟩ = 0 ∧ W = stopW x ⟨sv, k⟩) := hq.out.2.2.2.2.1
  have hse : Hid (kd ≠ 1 → kd ≠ 2 → ∀ h, newState x.hosts[k] ⟨kd, k, sv, vr⟩ = h → setE x k = 0 ∧ W = setW x k h) := fun h1 h2 h e => by
    have := hq.out.2.2.2.2.2 h1 h2
    simp only [hat.out] at this
    rw [e] at this
    exact this
  obtain rfl := hq.out.2.1
  clear hq hat
  (repeat' first
    | ((with_reducible refine at_row ?_); refine row1_a fun _ _ _ _ _ _ _ => ?_)
    | with_reducible first | (first | apply alloc_k | apply row_k); intro _ _ _ _ _ _ | (first | apply fork | apply forkp) <;> intro _ | refine forke (fun _ => ?_) fun _ _ => ?_ | refine tail_k fun _ _ _ => ?_ | refine ext_k fun _ _ _ => ?_ | refine need_a ?_ | refine st_agg KR rfl ON fun _ _ _ _ => ?_ | refine wpd_q_a ?_
    | ((with_reducible refine at_f 27 ?_); refine ret_k (hv1 _ FR FR) fun _ _ _ => ?_)
    | ((with_reducible refine at_f 26 ?_); refine ret_k (hv2 _ FR FR) fun _ _ _ => ?_)
    | ((with_reducible refine at_f 10 ?_); refine ret_k (hv3 _ FR FR) fun _ _ _ => ?_)
    | simp (maxDischargeDepth := 3) only [↓X, ↓Y, ↓Q, S1, ↓reduceIte, Nat.reduceEqDiff, Nat.reduceAdd, Int.reduceLT, Int.reduceLE, Int.reduceNeg, Int.reduceBEq, Int.reduceBNe, Int.reduceEq, Nat.reduceLeDiff, Nat.reduceMul, Nat.reduceLT, *, siteC, stepV, stepC, stateV, replicaV]
    | simp (singlePass := true) (maxDischargeDepth := 99) only [*, S2, Nat.reduceLT, siteC, stepV, stepC, stateV, replicaV])
  · obtain ⟨e1, e2⟩ := hst.out (by assumption)
    replace e1 : Hid _ := e1
    replace e2 : Hid _ := e2
    clear hst hsp hse hkd hv1 hv2 hv3
    refine call_k (ref13Start (r := ⟨sv, k⟩) (B := B) FR (hX _ FR) hlen.out.1 hlen.out.2) ?_
    rintro _ w6 n6 s6 ⟨u6, rfl, o6⟩
    rw [e1.out, ← e2.out] at *
    obtain ⟨h4, r4, rfl, oh4, or4⟩ := o6
    have H4 := oh4.o
    have R4 := or4.o
    clear oh4 or4
    (repeat' first
    | ((with_reducible refine at_row ?_); refine row1_a fun _ _ _ _ _ _ _ => ?_)
    | with_reducible first | (first | apply alloc_k | apply row_k); intro _ _ _ _ _ _ | (first | apply fork | apply forkp) <;> intro _ | refine forke (fun _ => ?_) fun _ _ => ?_ | refine tail_k fun _ _ _ => ?_ | refine ext_k fun _ _ _ => ?_ | refine need_a ?_ | refine st_agg KR rfl ON fun _ _ _ _ => ?_ | refine wpd_q_a ?_
    | simp (maxDischargeDepth := 3) only [↓X, ↓Y, ↓Q, S1, ↓reduceIte, Nat.reduceEqDiff, Nat.reduceAdd, Int.reduceLT, Int.reduceLE, Int.reduceNeg, Int.reduceBEq, Int.reduceBNe, Int.reduceEq, Nat.reduceLeDiff, Nat.reduceMul, Nat.reduceLT, *]
    | simp (singlePass := true) (maxDischargeDepth := 99) only [*, S2, Nat.reduceLT])
    exact ⟨_, rfl, _, _, rfl, (H4.1 _ FR).more FR, (R4.1 _ FR).more FR⟩
  · obtain ⟨e1, e2⟩ := hsp.out (by assumption)
    replace e1 : Hid _ := e1
    replace e2 : Hid _ := e2
    clear hst hsp hse hkd hv1 hv2 hv3
    refine call_k (ref13Stop (r := ⟨sv, k⟩) (B := B) FR (hX _ FR) hlen.out.1 hlen.out.2) ?_
    rintro _ w6 n6 s6 ⟨u6, rfl, o6⟩
    rw [e1.out, ← e2.out] at *
    obtain ⟨h4, r4, rfl, oh4, or4⟩ := o6
    have H4 := oh4.o
    have R4 := or4.o
    clear oh4 or4
    (repeat' first
    | ((with_reducible refine at_row ?_); refine row1_a fun _ _ _ _ _ _ _ => ?_)
    | with_reducible first | (first | apply alloc_k | apply row_k); intro _ _ _ _ _ _ | (first | apply fork | apply forkp) <;> intro _ | refine forke (fun _ => ?_) fun _ _ => ?_ | refine tail_k fun _ _ _ => ?_ | refine ext_k fun _ _ _ => ?_ | refine need_a ?_ | refine st_agg KR rfl ON fun _ _ _ _ => ?_ | refine wpd_q_a ?_
    | simp (maxDischargeDepth := 3) only [↓X, ↓Y, ↓Q, S1, ↓reduceIte, Nat.reduceEqDiff, Nat.reduceAdd, Int.reduceLT, Int.reduceLE, Int.reduceNeg, Int.reduceBEq, Int.reduceBNe, Int.reduceEq, Nat.reduceLeDiff, Nat.reduceMul, Nat.reduceLT, *]
    | simp (singlePass := true) (maxDischargeDepth := 99) only [*, S2, Nat.reduceLT])
    exact ⟨_, rfl, _, _, rfl, (H4.1 _ FR).more FR, (R4.1 _ FR).more FR⟩
  · obtain ⟨e1, e2⟩ := hse.out (by omega) (by omega) ⟨1, x.hosts[k].firmware⟩ (by have e : kd = 3 := (by assumption); subst e; rfl)
    replace e1 : Hid _ := e1
    replace e2 : Hid _ := e2
    clear hst hsp hse hkd hv1 hv2 hv3
    refine st_one KR (by simp) rfl fun w5 n5 k5 s5 => ?_
    simp only [List.set_cons_zero, List.set_cons_succ] at k5
    (repeat' first
    | ((with_reducible refine at_row ?_); refine row1_a fun _ _ _ _ _ _ _ => ?_)
    | with_reducible first | (first | apply alloc_k | apply row_k); intro _ _ _ _ _ _ | (first | apply fork | apply forkp) <;> intro _ | refine forke (fun _ => ?_) fun _ _ => ?_ | refine tail_k fun _ _ _ => ?_ | refine ext_k fun _ _ _ => ?_ | refine need_a ?_ | refine st_agg KR rfl ON fun _ _ _ _ => ?_ | refine wpd_q_a ?_
    | simp (maxDischargeDepth := 3) only [↓X, ↓Y, ↓Q, S1, ↓reduceIte, Nat.reduceEqDiff, Nat.reduceAdd, Int.reduceLT, Int.reduceLE, Int.reduceNeg, Int.reduceBEq, Int.reduceBNe, Int.reduceEq, Nat.reduceLeDiff, Nat.reduceMul, Nat.reduceLT, *, stateV]
    | simp (singlePass := true) (maxDischargeDepth := 99) only [*, S2, Nat.reduceLT, stateV])
    refine call_k (ref13Set (host := k) (h := ⟨1, x.hosts[k].firmware⟩) (B := B) FR (hX _ FR) hlen.out.1 hlen.out.2) ?_
    rintro _ w6 n6 s6 ⟨u6, rfl, o6⟩
    rw [e1.out, ← e2.out] at *
    obtain ⟨h4, r4, rfl, oh4, or4⟩ := o6
    have H4 := oh4.o
    have R4 := or4.o
    clear oh4 or4
    (repeat' first
    | ((with_reducible refine at_row ?_); refine row1_a fun _ _ _ _ _ _ _ => ?_)
    | with_reducible first | (first | apply alloc_k | apply row_k); intro _ _ _ _ _ _ | (first | apply fork | apply forkp) <;> intro _ | refine forke (fun _ => ?_) fun _ _ => ?_ | refine tail_k fun _ _ _ => ?_ | refine ext_k fun _ _ _ => ?_ | refine need_a ?_ | refine st_agg KR rfl ON fun _ _ _ _ => ?_ | refine wpd_q_a ?_
    | simp (maxDischargeDepth := 3) only [↓X, ↓Y, ↓Q, S1, ↓reduceIte, Nat.reduceEqDiff, Nat.reduceAdd, Int.reduceLT, Int.reduceLE, Int.reduceNeg, Int.reduceBEq, Int.reduceBNe, Int.reduceEq, Nat.reduceLeDiff, Nat.reduceMul, Nat.reduceLT, *]
    | simp (singlePass := true) (maxDischargeDepth := 99) only [*, S2, Nat.reduceLT])
    exact ⟨_, rfl, _, _, rfl, (H4.1 _ FR).more FR, (R4.1 _ FR).more FR⟩
  · obtain ⟨e1, e2⟩ := hse.out (by omega) (by omega) ⟨2, x.hosts[k].firmware⟩ (by have e : kd = 4 := (by assumption); subst e; rfl)
    replace e1 : Hid _ := e1
    replace e2 : Hid _ := e2
    clear hst hsp hse hkd hv1 hv2 hv3
    refine st_one KR (by simp) rfl fun w5 n5 k5 s5 => ?_
    simp only [List.set_cons_zero, List.set_cons_succ] at k5
    (repeat' first
    | ((with_reducible refine at_row ?_); refine row1_a fun _ _ _ _ _ _ _ => ?_)
    | with_reducible first | (first | apply alloc_k | apply row_k); intro _ _ _ _ _ _ | (first | apply fork | apply forkp) <;> intro _ | refine forke (fun _ => ?_) fun _ _ => ?_ | refine tail_k fun _ _ _ => ?_ | refine ext_k fun _ _ _ => ?_ | refine need_a ?_ | refine st_agg KR rfl ON fun _ _ _ _ => ?_ | refine wpd_q_a ?_
    | simp (maxDischargeDepth := 3) only [↓X, ↓Y, ↓Q, S1, ↓reduceIte, Nat.reduceEqDiff, Nat.reduceAdd, Int.reduceLT, Int.reduceLE, Int.reduceNeg, Int.reduceBEq, Int.reduceBNe, Int.reduceEq, Nat.reduceLeDiff, Nat.reduceMul, Nat.reduceLT, *, stateV]
    | simp (singlePass := true) (maxDischargeDepth := 99) only [*, S2, Nat.reduceLT, stateV])
    refine call_k (ref13Set (host := k) (h := ⟨2, x.hosts[k].firmware⟩) (B := B) FR (hX _ FR) hlen.out.1 hlen.out.2) ?_
    rintro _ w6 n6 s6 ⟨u6, rfl, o6⟩
    rw [e1.out, ← e2.out] at *
    obtain ⟨h4, r4, rfl, oh4, or4⟩ := o6
    have H4 := oh4.o
    have R4 := or4.o
    clear oh4 or4
    (repeat' first
    | ((with_reducible refine at_row ?_); refine row1_a fun _ _ _ _ _ _ _ => ?_)
    | with_reducible first | (first | apply alloc_k | apply row_k); intro _ _ _ _ _ _ | (first | apply fork | apply forkp) <;> intro _ | refine forke (fun _ => ?_) fun _ _ => ?_ | refine tail_k fun _ _ _ => ?_ | refine ext_k fun _ _ _ => ?_ | refine need_a ?_ | refine st_agg KR rfl ON fun _ _ _ _ => ?_ | refine wpd_q_a ?_
    | simp (maxDischargeDepth := 3) only [↓X, ↓Y, ↓Q, S1, ↓reduceIte, Nat.reduceEqDiff, Nat.reduceAdd, Int.reduceLT, Int.reduceLE, Int.reduceNeg, Int.reduceBEq, Int.reduceBNe, Int.reduceEq, Nat.reduceLeDiff, Nat.reduceMul, Nat.reduceLT, *]
    | simp (singlePass := true) (maxDischargeDepth := 99) only [*, S2, Nat.reduceLT])
    exact ⟨_, rfl, _, _, rfl, (H4.1 _ FR).more FR, (R4.1 _ FR).more FR⟩
  · obtain ⟨e1, e2⟩ := hse.out (by omega) (by omega) ⟨3, x.hosts[k].firmware⟩ (by have e : kd = 5 := (by assumption); subst e; rfl)
    replace e1 : Hid _ := e1
    replace e2 : Hid _ := e2
    clear hst hsp hse hkd hv1 hv2 hv3
    refine st_one KR (by simp) rfl fun w5 n5 k5 s5 => ?_
    simp only [List.set_cons_zero, List.set_cons_succ] at k5
    (repeat' first
    | ((with_reducible refine at_row ?_); refine row1_a fun _ _ _ _ _ _ _ => ?_)
    | with_reducible first | (first | apply alloc_k | apply row_k); intro _ _ _ _ _ _ | (first | apply fork | apply forkp) <;> intro _ | refine forke (fun _ => ?_) fun _ _ => ?_ | refine tail_k fun _ _ _ => ?_ | refine ext_k fun _ _ _ => ?_ | refine need_a ?_ | refine st_agg KR rfl ON fun _ _ _ _ => ?_ | refine wpd_q_a ?_
    | simp (maxDischargeDepth := 3) only [↓X, ↓Y, ↓Q, S1, ↓reduceIte, Nat.reduceEqDiff, Nat.reduceAdd, Int.reduceLT, Int.reduceLE, Int.reduceNeg, Int.reduceBEq, Int.reduceBNe, Int.reduceEq, Nat.reduceLeDiff, Nat.reduceMul, Nat.reduceLT, *, stateV]
    | simp (singlePass := true) (maxDischargeDepth := 99) only [*, S2, Nat.reduceLT, stateV])
    refine call_k (ref13Set (host := k) (h := ⟨3, x.hosts[k].firmware⟩) (B := B) FR (hX _ FR) hlen.out.1 hlen.out.2) ?_
    rintro _ w6 n6 s6 ⟨u6, rfl, o6⟩
    rw [e1.out, ← e2.out] at *
    obtain ⟨h4, r4, rfl, oh4, or4⟩ := o6
    have H4 := oh4.o
    have R4 := or4.o
    clear oh4 or4
    (repeat' first
    | ((with_reducible refine at_row ?_); refine row1_a fun _ _ _ _ _ _ _ => ?_)
    | with_reducible first | (first | apply alloc_k | apply row_k); intro _ _ _ _ _ _ | (first | apply fork | apply forkp) <;> intro _ | refine forke (fun _ => ?_) fun _ _ => ?_ | refine tail_k fun _ _ _ => ?_ | refine ext_k fun _ _ _ => ?_ | refine need_a ?_ | refine st_agg KR rfl ON fun _ _ _ _ => ?_ | refine wpd_q_a ?_
    | simp (maxDischargeDepth := 3) only [↓X, ↓Y, ↓Q, S1, ↓reduceIte, Nat.reduceEqDiff, Nat.reduceAdd, Int.reduceLT, Int.reduceLE, Int.reduceNeg, Int.reduceBEq, Int.reduceBNe, Int.reduceEq, Nat.reduceLeDiff, Nat.reduceMul, Nat.reduceLT, *]
    | simp (singlePass := true) (maxDischargeDepth := 99) only [*, S2, Nat.reduceLT])
    exact ⟨_, rfl, _, _, rfl, (H4.1 _ FR).more FR, (R4.1 _ FR).more FR⟩
  · obtain ⟨e1, e2⟩ := hse.out (by omega) (by omega) ⟨0, x.hosts[k].firmware⟩ (by have e : kd = 6 := (by assumption); subst e; rfl)
    replace e1 : Hid _ := e1
    replace e2 : Hid _ := e2
    clear hst hsp hse hkd hv1 hv2 hv3
    refine st_one KR (by simp) rfl fun w5 n5 k5 s5 => ?_
    simp only [List.set_cons_zero, List.set_cons_succ] at k5
    (repeat' first
    | ((with_reducible refine at_row ?_); refine row1_a fun _ _ _ _ _ _ _ => ?_)
    | with_reducible first | (first | apply alloc_k | apply row_k); intro _ _ _ _ _ _ | (first | apply fork | apply forkp) <;> intro _ | refine forke (fun _ => ?_) fun _ _ => ?_ | refine tail_k fun _ _ _ => ?_ | refine ext_k fun _ _ _ => ?_ | refine need_a ?_ | refine st_agg KR rfl ON fun _ _ _ _ => ?_ | refine wpd_q_a ?_
    | simp (maxDischargeDepth := 3) only [↓X, ↓Y, ↓Q, S1, ↓reduceIte, Nat.reduceEqDiff, Nat.reduceAdd, Int.reduceLT, Int.reduceLE, Int.reduceNeg, Int.reduceBEq, Int.reduceBNe, Int.reduceEq, Nat.reduceLeDiff, Nat.reduceMul, Nat.reduceLT, *, stateV]
    | simp (singlePass := true) (maxDischargeDepth := 99) only [*, S2, Nat.reduceLT, stateV])
    refine call_k (ref13Set (host := k) (h := ⟨0, x.hosts[k].firmware⟩) (B := B) FR (hX _ FR) hlen.out.1 hlen.out.2) ?_
    rintro _ w6 n6 s6 ⟨u6, rfl, o6⟩
    rw [e1.out, ← e2.out] at *
    obtain ⟨h4, r4, rfl, oh4, or4⟩ := o6
    have H4 := oh4.o
    have R4 := or4.o
    clear oh4 or4
    (repeat' first
    | ((with_reducible refine at_row ?_); refine row1_a fun _ _ _ _ _ _ _ => ?_)
    | with_reducible first | (first | apply alloc_k | apply row_k); intro _ _ _ _ _ _ | (first | apply fork | apply forkp) <;> intro _ | refine forke (fun _ => ?_) fun _ _ => ?_ | refine tail_k fun _ _ _ => ?_ | refine ext_k fun _ _ _ => ?_ | refine need_a ?_ | refine st_agg KR rfl ON fun _ _ _ _ => ?_ | refine wpd_q_a ?_
    | simp (maxDischargeDepth := 3) only [↓X, ↓Y, ↓Q, S1, ↓reduceIte, Nat.reduceEqDiff, Nat.reduceAdd, Int.reduceLT, Int.reduceLE, Int.reduceNeg, Int.reduceBEq, Int.reduceBNe, Int.reduceEq, Nat.reduceLeDiff, Nat.reduceMul, Nat.reduceLT, *]
    | simp (singlePass := true) (maxDischargeDepth := 99) only [*, S2, Nat.reduceLT])
    exact ⟨_, rfl, _, _, rfl, (H4.1 _ FR).more FR, (R4.1 _ FR).more FR⟩
  · obtain ⟨e1, e2⟩ := hse.out (by omega) (by omega) ⟨x.hosts[k].phase, vr⟩ (by have e : kd = 7 := (by assumption); subst e; rfl)
    replace e1 : Hid _ := e1
    replace e2 : Hid _ := e2
    clear hst hsp hse hkd hv1 hv2 hv3
    refine st_one KR (by simp) rfl fun w5 n5 k5 s5 => ?_
    simp only [List.set_cons_zero, List.set_cons_succ] at k5
    (repeat' first
    | ((with_reducible refine at_row ?_); refine row1_a fun _ _ _ _ _ _ _ => ?_)
    | with_reducible first | (first | apply alloc_k | apply row_k); intro _ _ _ _ _ _ | (first | apply fork | apply forkp) <;> intro _ | refine forke (fun _ => ?_) fun _ _ => ?_ | refine tail_k fun _ _ _ => ?_ | refine ext_k fun _ _ _ => ?_ | refine need_a ?_ | refine st_agg KR rfl ON fun _ _ _ _ => ?_ | refine wpd_q_a ?_
    | simp (maxDischargeDepth := 3) only [↓X, ↓Y, ↓Q, S1, ↓reduceIte, Nat.reduceEqDiff, Nat.reduceAdd, Int.reduceLT, Int.reduceLE, Int.reduceNeg, Int.reduceBEq, Int.reduceBNe, Int.reduceEq, Nat.reduceLeDiff, Nat.reduceMul, Nat.reduceLT, *, stateV]
    | simp (singlePass := true) (maxDischargeDepth := 99) only [*, S2, Nat.reduceLT, stateV])
    refine call_k (ref13Set (host := k) (h := ⟨x.hosts[k].phase, vr⟩) (B := B) FR (hX _ FR) hlen.out.1 hlen.out.2) ?_
    rintro _ w6 n6 s6 ⟨u6, rfl, o6⟩
    rw [e1.out, ← e2.out] at *
    obtain ⟨h4, r4, rfl, oh4, or4⟩ := o6
    have H4 := oh4.o
    have R4 := or4.o
    clear oh4 or4
    (repeat' first
    | ((with_reducible refine at_row ?_); refine row1_a fun _ _ _ _ _ _ _ => ?_)
    | with_reducible first | (first | apply alloc_k | apply row_k); intro _ _ _ _ _ _ | (first | apply fork | apply forkp) <;> intro _ | refine forke (fun _ => ?_) fun _ _ => ?_ | refine tail_k fun _ _ _ => ?_ | refine ext_k fun _ _ _ => ?_ | refine need_a ?_ | refine st_agg KR rfl ON fun _ _ _ _ => ?_ | refine wpd_q_a ?_
    | simp (maxDischargeDepth := 3) only [↓X, ↓Y, ↓Q, S1, ↓reduceIte, Nat.reduceEqDiff, Nat.reduceAdd, Int.reduceLT, Int.reduceLE, Int.reduceNeg, Int.reduceBEq, Int.reduceBNe, Int.reduceEq, Nat.reduceLeDiff, Nat.reduceMul, Nat.reduceLT, *]
    | simp (singlePass := true) (maxDischargeDepth := 99) only [*, S2, Nat.reduceLT])
    exact ⟨_, rfl, _, _, rfl, (H4.1 _ FR).more FR, (R4.1 _ FR).more FR⟩
  · exfalso
    have := hkd.out
    omega
end
end Go.Proofs.YtmcdgepfhpakiaaGreat
