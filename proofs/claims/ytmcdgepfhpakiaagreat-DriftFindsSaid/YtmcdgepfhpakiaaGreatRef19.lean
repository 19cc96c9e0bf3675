
/- The document's answer, layer 19: Valid, runs, Ready. -/
import Derived.Test.YtmcdgepfhpakiaaGreatStep4
import Derived.Test.YtmcdgepfhpakiaaGreatRef13
namespace Go.Proofs.YtmcdgepfhpakiaaGreat
set_option linter.unusedSimpArgs false
set_option linter.unusedVariables false
open Go Go.RowKit
set_option maxRecDepth 100000
set_option linter.unusedSectionVars false
set_option maxHeartbeats 2000000
section
variable {w : World} {B : Nat} {u : SiteVs} {s : SiteD} {wv hv rv : Value} {l : List SrvV} {x : WorldD} {st : StepD} {wl : List ServiceD}
/-- What a step must be like, the site and the wish being valid. -/
def StepP (nh nw : Int) (st : StepD) : Prop := 0 ≤ st.host ∧ st.host < nh ∧ (((st.kind = 1 ∨ st.kind = 2) ∧ 0 ≤ st.service ∧ st.service < nw ∧ st.version = 0) ∨ ((3 ≤ st.kind ∧ st.kind ≤ 6) ∧ st.service = 0 ∧ st.version = 0) ∨ (st.kind = 7 ∧ st.service = 0 ∧ 0 ≤ st.version ∧ st.version ≤ 1000000))
instance (nh nw : Int) (st : StepD) : Decidable (StepP nh nw st) := by unfold StepP; infer_instance
theorem stepB2_P (h1 : siteB s = true) (h2 : wishB wl = true) : stepB2 s wl st = decide (StepP s.hosts.length wl.length st) := by
  rw [Bool.eq_iff_iff, decide_eq_true_eq]
  unfold StepP
  simp only [stepB2, kindOk, stepOkB, h1, h2, Bool.and_eq_true, decide_eq_true_eq, Bool.or_eq_true, beq_iff_eq, Bool.true_and, true_and]
  by_cases hk : st.kind = 1 ∨ st.kind = 2
  · rw [if_pos hk]
    by_cases h7 : st.kind = 7
    · omega
    · rw [if_neg h7]; constructor <;> intro h <;> omega
  · rw [if_neg hk]
    by_cases h7 : st.kind = 7
    · rw [if_pos h7]; constructor <;> intro h <;> omega
    · rw [if_neg h7]; constructor <;> intro h <;> omega
theorem ref19Valid (hB : B ≤ w.heap.size) (hs : SiteR w B u s) (hl : WishR w B wv l) : Ret Tryz.prog 27 #[.agg (siteC u s).toArray, .agg #[wv], stepV st] w (.bool (stepB2 s (l.map (·.x)) st)) := by
  have hn : Now w := trivial
  have hx : Ext w w := Ext.refl w
  have hs' := hs.sk hB
  have hl' := hl.sk hB
  have hS := hs'.2.2.2.2.2.2
  have hW := hl'.2.2
  have hv1 := fun w' (h1 : Bl B w w') (h3 : B ≤ w'.heap.size) => ref12Valid h3 (hS w' h1)
  have hv2 := fun w' (h1 : Bl B w w') (h3 : B ≤ w'.heap.size) => ref13ValidWish h3 (hW w' h1)
  have hP : siteB s = true → wishB (l.map (·.x)) = true → Hid (stepB2 s (l.map (·.x)) st = decide (StepP s.hosts.length l.length st)) := fun h1 h2 => by
    have := stepB2_P (st := st) h1 h2
    rwa [List.length_map] at this
  have hN : siteB s = false ∨ wishB (l.map (·.x)) = false → Hid (stepB2 s (l.map (·.x)) st = false) := fun h => by
    show _ = _
    rcases h with h | h <;> simp [stepB2, stepOkB, h]
  generalize stepB2 s (l.map (·.x)) st = r at *
  generalize siteB s = sb at *
  generalize wishB (l.map (·.x)) = wb at *
  (refine callsV_of Tryz.func27 rfl KR KR ?_; rw [Tryz.results27])
  cases sb
  · obtain rfl := (hN (.inl rfl)).out
    clear hN hP hv2
    (repeat' first
    | ((with_reducible refine at_row ?_); refine row1_a fun _ _ _ _ _ _ _ => ?_)
    | with_reducible first | (first | apply alloc_k | apply row_k); intro _ _ _ _ _ _ | (first | apply fork | apply forkp) <;> intro _ | refine forke (fun _ => ?_) fun _ _ => ?_ | refine tail_k fun _ _ _ => ?_ | refine ext_k fun _ _ _ => ?_ | refine need_a ?_ | refine st_agg KR rfl ON fun _ _ _ _ => ?_ | refine wpd_q_a ?_
    | ((with_reducible refine at_f 57 ?_); refine ret_k (hv1 _ FR FR) fun _ _ _ => ?_)
    | simp (maxDischargeDepth := 3) only [↓X, ↓Y, ↓Q, S1, ↓reduceIte, Nat.reduceEqDiff, Nat.reduceAdd, Int.reduceLT, Int.reduceLE, Int.reduceNeg, Int.reduceBEq, Int.reduceBNe, Int.reduceEq, Nat.reduceLeDiff, Nat.reduceMul, Nat.reduceLT, *, siteC, stepV, stepC]
    | simp (singlePass := true) (maxDischargeDepth := 99) only [*, S2, Nat.reduceLT, siteC, stepV, stepC])
  cases wb
  · obtain rfl := (hN (.inr rfl)).out
    clear hN hP
    (repeat' first
    | ((with_reducible refine at_row ?_); refine row1_a fun _ _ _ _ _ _ _ => ?_)
    | with_reducible first | (first | apply alloc_k | apply row_k); intro _ _ _ _ _ _ | (first | apply fork | apply forkp) <;> intro _ | refine forke (fun _ => ?_) fun _ _ => ?_ | refine tail_k fun _ _ _ => ?_ | refine ext_k fun _ _ _ => ?_ | refine need_a ?_ | refine st_agg KR rfl ON fun _ _ _ _ => ?_ | refine wpd_q_a ?_
    | ((with_reducible refine at_f 57 ?_); refine ret_k (hv1 _ FR FR) fun _ _ _ => ?_)
    | ((with_reducible refine at_f 58 ?_); refine ret_k (hv2 _ FR FR) fun _ _ _ => ?_)
    | simp (maxDischargeDepth := 3) only [↓X, ↓Y, ↓Q, S1, ↓reduceIte, Nat.reduceEqDiff, Nat.reduceAdd, Int.reduceLT, Int.reduceLE, Int.reduceNeg, Int.reduceBEq, Int.reduceBNe, Int.reduceEq, Nat.reduceLeDiff, Nat.reduceMul, Nat.reduceLT, *, siteC, stepV, stepC]
    | simp (singlePass := true) (maxDischargeDepth := 99) only [*, S2, Nat.reduceLT, siteC, stepV, stepC])
  obtain hr := hP rfl rfl
  clear hN hP
  (repeat' first
    | ((with_reducible refine at_row ?_); refine row1_a fun _ _ _ _ _ _ _ => ?_)
    | with_reducible first | (first | apply alloc_k | apply row_k); intro _ _ _ _ _ _ | (first | apply fork | apply forkp) <;> intro _ | refine forke (fun _ => ?_) fun _ _ => ?_ | refine tail_k fun _ _ _ => ?_ | refine ext_k fun _ _ _ => ?_ | refine need_a ?_ | refine st_agg KR rfl ON fun _ _ _ _ => ?_ | refine wpd_q_a ?_
    | ((with_reducible refine at_f 57 ?_); refine ret_k (hv1 _ FR FR) fun _ _ _ => ?_)
    | ((with_reducible refine at_f 58 ?_); refine ret_k (hv2 _ FR FR) fun _ _ _ => ?_)
    | simp (maxDischargeDepth := 3) only [↓X, ↓Y, ↓Q, S1, ↓reduceIte, Nat.reduceEqDiff, Nat.reduceAdd, Int.reduceLT, Int.reduceLE, Int.reduceNeg, Int.reduceBEq, Int.reduceBNe, Int.reduceEq, Nat.reduceLeDiff, Nat.reduceMul, Nat.reduceLT, *, siteC, stepV, stepC]
    | simp (singlePass := true) (maxDischargeDepth := 99) only [*, S2, Nat.reduceLT, siteC, stepV, stepC])
  all_goals (have hr := hr.out; subst hr; refine congrArg Value.bool ?_; rw [Bool.eq_iff_iff]; simp only [beq_iff_eq, decide_eq_true_eq, Bool.false_eq_true, false_iff, true_iff, iff_true]; unfold StepP; first | omega | (constructor <;> intro h <;> omega))
theorem ref19runs {h : Int} (hB : B ≤ w.heap.size) (hx0 : WorldR w B hv rv x) : Ret Tryz.prog 29 #[.agg #[hv, rv], intV h] w (.bool (runsB x h)) := by
  have hn : Now w := trivial
  have hx : Ext w w := Ext.refl w
  have hx' := hx0.sk hB
  (refine callsV_of Tryz.func29 rfl KR KR ?_; rw [Tryz.results29])
  (repeat' first
    | ((with_reducible refine at_row ?_); refine row1_a fun _ _ _ _ _ _ _ => ?_)
    | with_reducible first | (first | apply alloc_k | apply row_k); intro _ _ _ _ _ _ | (first | apply fork | apply forkp) <;> intro _ | refine forke (fun _ => ?_) fun _ _ => ?_ | refine tail_k fun _ _ _ => ?_ | refine ext_k fun _ _ _ => ?_ | refine need_a ?_ | refine st_agg KR rfl ON fun _ _ _ _ => ?_ | refine wpd_q_a ?_
    | simp (maxDischargeDepth := 3) only [↓X, ↓Y, ↓Q, S1, ↓reduceIte, Nat.reduceEqDiff, Nat.reduceAdd, Int.reduceLT, Int.reduceLE, Int.reduceNeg, Int.reduceBEq, Int.reduceBNe, Int.reduceEq, Nat.reduceLeDiff, Nat.reduceMul, Nat.reduceLT, *]
    | simp (singlePass := true) (maxDischargeDepth := 99) only [*, S2, Nat.reduceLT])
  refine loop_k (x.replicas.length) (fun g0 k g _ => g 5 = .int .i64 k ∧ (g 1 = g0 1 ∧ g 2 = g0 2) ∧ Hid ((x.replicas.take k).any (fun r => r.host == h) = false)) KR (hx0.r.max_) ?_ ?_ ?_
  · (repeat' first
    | ((with_reducible refine at_row ?_); refine row1_a fun _ _ _ _ _ _ _ => ?_)
    | with_reducible first | (first | apply alloc_k | apply row_k); intro _ _ _ _ _ _ | (first | apply fork | apply forkp) <;> intro _ | refine forke (fun _ => ?_) fun _ _ => ?_ | refine tail_k fun _ _ _ => ?_ | refine ext_k fun _ _ _ => ?_ | refine need_a ?_ | refine st_agg KR rfl ON fun _ _ _ _ => ?_ | refine wpd_q_a ?_
    | simp (maxDischargeDepth := 3) only [↓X, ↓Y, ↓Q, S1, ↓reduceIte, Nat.reduceEqDiff, Nat.reduceAdd, Int.reduceLT, Int.reduceLE, Int.reduceNeg, Int.reduceBEq, Int.reduceBNe, Int.reduceEq, Nat.reduceLeDiff, Nat.reduceMul, Nat.reduceLT, *, List.take_zero, List.all_nil, List.any_nil]
    | simp (singlePass := true) (maxDischargeDepth := 99) only [*, S2, Nat.reduceLT, List.take_zero, List.all_nil, List.any_nil])
    trivial
  · rintro k m g wk hk hlt _ _ _ hw ⟨hi, hf, hp⟩
    simp (maxDischargeDepth := 3) only [U, ↓reduceIte, Nat.reduceEqDiff, *] at hf
    have ha := any_take hlt (fun r => r.host == h)
    (repeat' first
    | ((with_reducible refine at_row ?_); refine row1_a fun _ _ _ _ _ _ _ => ?_)
    | with_reducible first | (first | apply alloc_k | apply row_k); intro _ _ _ _ _ _ | (first | apply fork | apply forkp) <;> intro _ | refine forke (fun _ => ?_) fun _ _ => ?_ | refine tail_k fun _ _ _ => ?_ | refine ext_k fun _ _ _ => ?_ | refine need_a ?_ | refine st_agg KR rfl ON fun _ _ _ _ => ?_ | refine wpd_q_a ?_
    | simp (maxDischargeDepth := 3) only [↓X, ↓Y, ↓Q, S1, ↓reduceIte, Nat.reduceEqDiff, Nat.reduceAdd, Int.reduceLT, Int.reduceLE, Int.reduceNeg, Int.reduceBEq, Int.reduceBNe, Int.reduceEq, Nat.reduceLeDiff, Nat.reduceMul, Nat.reduceLT, *, replicaV]
    | simp (singlePass := true) (maxDischargeDepth := 99) only [*, S2, Nat.reduceLT, replicaV])
    · rename_i e
      have : runsB x h = true := any_at hlt (by simpa using e)
      rw [this]
    · rename_i e
      refine next_k hk hlt ?_ FR
      have hp' := hp.out
      have he : (x.replicas[k].host == h) = false := by simpa using e
      (repeat' first
    | ((with_reducible refine at_row ?_); refine row1_a fun _ _ _ _ _ _ _ => ?_)
    | with_reducible first | (first | apply alloc_k | apply row_k); intro _ _ _ _ _ _ | (first | apply fork | apply forkp) <;> intro _ | refine forke (fun _ => ?_) fun _ _ => ?_ | refine tail_k fun _ _ _ => ?_ | refine ext_k fun _ _ _ => ?_ | refine need_a ?_ | refine st_agg KR rfl ON fun _ _ _ _ => ?_ | refine wpd_q_a ?_
    | simp (maxDischargeDepth := 3) only [↓X, ↓Y, ↓Q, S1, ↓reduceIte, Nat.reduceEqDiff, Nat.reduceAdd, Int.reduceLT, Int.reduceLE, Int.reduceNeg, Int.reduceBEq, Int.reduceBNe, Int.reduceEq, Nat.reduceLeDiff, Nat.reduceMul, Nat.reduceLT, *, ha, he, hp']
    | simp (singlePass := true) (maxDischargeDepth := 99) only [*, S2, Nat.reduceLT, ha, he, hp'])
      trivial
  · rintro g wk _ _ _ ⟨hi, hf, hp⟩
    simp (maxDischargeDepth := 3) only [U, ↓reduceIte, Nat.reduceEqDiff, *] at hf
    rw [take_all'] at hp
    have hp' : runsB x h = false := hp.out
    (repeat' first
    | ((with_reducible refine at_row ?_); refine row1_a fun _ _ _ _ _ _ _ => ?_)
    | with_reducible first | (first | apply alloc_k | apply row_k); intro _ _ _ _ _ _ | (first | apply fork | apply forkp) <;> intro _ | refine forke (fun _ => ?_) fun _ _ => ?_ | refine tail_k fun _ _ _ => ?_ | refine ext_k fun _ _ _ => ?_ | refine need_a ?_ | refine st_agg KR rfl ON fun _ _ _ _ => ?_ | refine wpd_q_a ?_
    | simp (maxDischargeDepth := 3) only [↓X, ↓Y, ↓Q, S1, ↓reduceIte, Nat.reduceEqDiff, Nat.reduceAdd, Int.reduceLT, Int.reduceLE, Int.reduceNeg, Int.reduceBEq, Int.reduceBNe, Int.reduceEq, Nat.reduceLeDiff, Nat.reduceMul, Nat.reduceLT, *]
    | simp (singlePass := true) (maxDischargeDepth := 99) only [*, S2, Nat.reduceLT])
theorem ref19Ready (hB : B ≤ w.heap.size) (hs : SiteR w B u s) (hl : WishR w B wv l) (hx0 : WorldR w B hv rv x) : Ret Tryz.prog 10 #[.agg (siteC u s).toArray, .agg #[wv], .agg #[hv, rv], stepV st] w (.bool (readyB s (l.map (·.x)) x st)) := by
  have hn : Now w := trivial
  have hx : Ext w w := Ext.refl w
  obtain ⟨kd, hst, sv, vr⟩ := st
  have hs' := hs.sk hB
  have hl' := hl.sk hB
  have hx' := hx0.sk hB
  have hS := hs'.2.2.2.2.2.2
  have hW := hl'.2.2
  have hX := hx'.2.2.2.2
  have hv1 := fun w' (h1 : Bl B w w') (h3 : B ≤ w'.heap.size) => ref19Valid (st := ⟨kd, hst, sv, vr⟩) h3 (hS w' h1) (hW w' h1)
  have hv2 := fun w' (h1 : Bl B w w') (h3 : B ≤ w'.heap.size) => ref13Valid h3 (hS w' h1) (hW w' h1) (hX w' h1)
  have hr : readyB s (l.map (·.x)) x ⟨kd, hst, sv, vr⟩ = (stepB2 s (l.map (·.x)) ⟨kd, hst, sv, vr⟩ && validB s (l.map (·.x)) x && readyK x ⟨kd, hst, sv, vr⟩) := rfl
  have hp : stepB2 s (l.map (·.x)) ⟨kd, hst, sv, vr⟩ = true → validB s (l.map (·.x)) x = true → Hid ((1 ≤ kd ∧ kd ≤ 7) ∧ (0 ≤ hst ∧ hst < x.hosts.length)) := fun h1 h2 => by
    have a := step_parts h1
    have b := valid_parts h2
    exact ⟨a.1, a.2.2.2.1, by have := a.2.2.2.2.1; simp only at this; omega⟩
  rw [hr]
  clear hr
  generalize stepB2 s (l.map (·.x)) ⟨kd, hst, sv, vr⟩ = sb at *
  generalize validB s (l.map (·.x)) x = vb at *
  (refine callsV_of Tryz.func10 rfl KR KR ?_; rw [Tryz.results10])
  cases sb
  · clear hv2 hp
    (repeat' first
    | ((with_reducible refine at_row ?_); refine row1_a fun _ _ _ _ _ _ _ => ?_)
    | with_reducible first | (first | apply alloc_k | apply row_k); intro _ _ _ _ _ _ | (first | apply fork | apply forkp) <;> intro _ | refine forke (fun _ => ?_) fun _ _ => ?_ | refine tail_k fun _ _ _ => ?_ | refine ext_k fun _ _ _ => ?_ | refine need_a ?_ | refine st_agg KR rfl ON fun _ _ _ _ => ?_ | refine wpd_q_a ?_
    | ((with_reducible refine at_f 27 ?_); refine ret_k (hv1 _ FR FR) fun _ _ _ => ?_)
    | simp (maxDischargeDepth := 3) only [↓X, ↓Y, ↓Q, S1, ↓reduceIte, Nat.reduceEqDiff, Nat.reduceAdd, Int.reduceLT, Int.reduceLE, Int.reduceNeg, Int.reduceBEq, Int.reduceBNe, Int.reduceEq, Nat.reduceLeDiff, Nat.reduceMul, Nat.reduceLT, *, siteC, stepV, stepC]
    | simp (singlePass := true) (maxDischargeDepth := 99) only [*, S2, Nat.reduceLT, siteC, stepV, stepC])
  cases vb
  · clear hp
    (repeat' first
    | ((with_reducible refine at_row ?_); refine row1_a fun _ _ _ _ _ _ _ => ?_)
    | with_reducible first | (first | apply alloc_k | apply row_k); intro _ _ _ _ _ _ | (first | apply fork | apply forkp) <;> intro _ | refine forke (fun _ => ?_) fun _ _ => ?_ | refine tail_k fun _ _ _ => ?_ | refine ext_k fun _ _ _ => ?_ | refine need_a ?_ | refine st_agg KR rfl ON fun _ _ _ _ => ?_ | refine wpd_q_a ?_
    | ((with_reducible refine at_f 27 ?_); refine ret_k (hv1 _ FR FR) fun _ _ _ => ?_)
    | ((with_reducible refine at_f 26 ?_); refine ret_k (hv2 _ FR FR) fun _ _ _ => ?_)
    | simp (maxDischargeDepth := 3) only [↓X, ↓Y, ↓Q, S1, ↓reduceIte, Nat.reduceEqDiff, Nat.reduceAdd, Int.reduceLT, Int.reduceLE, Int.reduceNeg, Int.reduceBEq, Int.reduceBNe, Int.reduceEq, Nat.reduceLeDiff, Nat.reduceMul, Nat.reduceLT, *, siteC, stepV, stepC]
    | simp (singlePass := true) (maxDischargeDepth := 99) only [*, S2, Nat.reduceLT, siteC, stepV, stepC])
  have hq := hp rfl rfl
  clear hp
  obtain ⟨k, rfl⟩ : ∃ k : Nat, hst = k := ⟨hst.toNat, by have := hq.out.2; omega⟩
  have hlt : k < x.hosts.length := by have := hq.out.2; omega
  have hat : hostAt x k = x.hosts[k] := by simp [hostAt, hlt]
  have hkd : Hid (1 ≤ kd ∧ kd ≤ 7) := hq.out.1
  have hrk : Hid (∀ r, (if kd = 1 then x.hosts[k].phase == 0 && !hasB x.replicas ⟨sv, k⟩ && decide (x.replicas.length < 24) else if kd = 2 then hasB x.replicas ⟨sv, k⟩ else if kd = 3 then x.hosts[k].phase == 0 else if kd = 4 then x.hosts[k].phase == 1 && !runsB x k
      else if kd = 5 then x.hosts[k].phase == 2 && !runsB x k else if kd = 6 then x.hosts[k].phase == 1 || x.hosts[k].phase == 2 || x.hosts[k].phase == 3 else x.hosts[k].phase == 2) = r → readyK x ⟨kd, k, sv, vr⟩ = r) := fun r h => by
    rw [← h]
    simp only [readyK, hat]
    rfl
  clear hq hat
  have hha := fun w' (h1 : Bl B w w') (h3 : B ≤ w'.heap.size) => ref13Has (r := ⟨sv, k⟩) h3 (hX w' h1)
  have hru := fun w' (h1 : Bl B w w') (h3 : B ≤ w'.heap.size) => ref19runs (h := k) h3 (hX w' h1)
  generalize hasB x.replicas ⟨sv, k⟩ = hb at *
  generalize runsB x k = rb at *
  generalize readyK x ⟨kd, k, sv, vr⟩ = rk at *
  have h24 : decide ((x.replicas.length : Int) < 24) = decide (x.replicas.length < 24) := by rw [Bool.eq_iff_iff]; simp; omega
  generalize decide (x.replicas.length < 24) = c24 at *
  replace hha : Hid _ := hha
  replace hru : Hid _ := hru
  (repeat' first
    | ((with_reducible refine at_row ?_); refine row1_a fun _ _ _ _ _ _ _ => ?_)
    | with_reducible first | (first | apply alloc_k | apply row_k); intro _ _ _ _ _ _ | (first | apply fork | apply forkp) <;> intro _ | refine forke (fun _ => ?_) fun _ _ => ?_ | refine tail_k fun _ _ _ => ?_ | refine ext_k fun _ _ _ => ?_ | refine need_a ?_ | refine st_agg KR rfl ON fun _ _ _ _ => ?_ | refine wpd_q_a ?_
    | ((with_reducible refine at_f 27 ?_); refine ret_k (hv1 _ FR FR) fun _ _ _ => ?_)
    | ((with_reducible refine at_f 26 ?_); refine ret_k (hv2 _ FR FR) fun _ _ _ => ?_)
    | ((with_reducible refine at_f 28 ?_); refine ret_k (hha.out _ FR FR) fun _ _ _ => ?_)
    | ((with_reducible refine at_f 29 ?_); refine ret_k (hru.out _ FR FR) fun _ _ _ => ?_)
    | simp (maxDischargeDepth := 3) only [↓X, ↓Y, ↓Q, S1, ↓reduceIte, Nat.reduceEqDiff, Nat.reduceAdd, Int.reduceLT, Int.reduceLE, Int.reduceNeg, Int.reduceBEq, Int.reduceBNe, Int.reduceEq, Nat.reduceLeDiff, Nat.reduceMul, Nat.reduceLT, *, siteC, stepV, stepC, stateV, replicaV]
    | simp (singlePass := true) (maxDischargeDepth := 99) only [*, S2, Nat.reduceLT, siteC, stepV, stepC, stateV, replicaV])
  all_goals (refine congrArg Value.bool (hrk.out _ ?_).symm)
  all_goals first
    | rw [if_pos (by assumption)]
    | rw [if_neg (by assumption), if_pos (by assumption)]
    | rw [if_neg (by assumption), if_neg (by assumption), if_pos (by assumption)]
    | rw [if_neg (by assumption), if_neg (by assumption), if_neg (by assumption), if_pos (by assumption)]
    | rw [if_neg (by assumption), if_neg (by assumption), if_neg (by assumption), if_neg (by assumption), if_pos (by assumption)]
    | rw [if_neg (by assumption), if_neg (by assumption), if_neg (by assumption), if_neg (by assumption), if_neg (by assumption), if_pos (by assumption)]
    | rw [if_neg (by assumption), if_neg (by assumption), if_neg (by assumption), if_neg (by assumption), if_neg (by assumption), if_neg (by assumption)]
  all_goals (try simp only [*, Bool.not_true, Bool.not_false, Bool.true_and, Bool.and_true, Bool.false_and, Bool.and_false, Bool.true_or, Bool.or_true, Bool.false_or, Bool.or_false, beq_self_eq_true, Int.reduceBEq])
end
end Go.Proofs.YtmcdgepfhpakiaaGreat
