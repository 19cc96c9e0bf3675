
/- The layer step: what its rules ask of the world; Ready. -/
import Derived.Test.YtmcdgepfhpakiaaGreatStep
import Derived.Test.YtmcdgepfhpakiaaGreatPure13
import Derived.Test.YtmcdgepfhpakiaaGreatRel3
namespace Go.Proofs.YtmcdgepfhpakiaaGreat
set_option linter.unusedSimpArgs false
set_option linter.unusedVariables false
open Go Go.RowKit
set_option maxRecDepth 100000
set_option linter.unusedSectionVars false
set_option maxHeartbeats 2000000
section
variable {w : World} {B : Nat} {u : SiteVs} {s : SiteD} {wv hv rv : Value} {l : List SrvV} {x : WorldD} {st : StepD} {wl : List ServiceD}
theorem stepB_eq : stepB s wl st = stepB2 s wl st := by
  by_cases h : 1 ≤ st.kind ∧ st.kind ≤ 7
  · obtain ⟨k, a, b, c⟩ := st
    simp only at h
    rcases (by omega : k = 1 ∨ k = 2 ∨ k = 3 ∨ k = 4 ∨ k = 5 ∨ k = 6 ∨ k = 7) with rfl | rfl | rfl | rfl | rfl | rfl | rfl <;> rfl
  · have h1 : ruleD st.kind = none := by
      rw [ruleD, List.find?_eq_none]
      intro r hr
      simp only [rulesL, List.mem_cons, List.not_mem_nil, or_false] at hr
      rcases hr with rfl | rfl | rfl | rfl | rfl | rfl | rfl <;> (simp; omega)
    have h2 : kindOk st.kind = false := by
      rw [← Bool.not_eq_true, kindOk, Bool.and_eq_true, decide_eq_true_eq, decide_eq_true_eq]; exact h
    simp only [stepB, h1, stepB2, h2, Bool.false_and]
def phV (p : Int) : Value := .int .u8 p
theorem slicesIndexPhase {v : Value} {ps : List Int} {p : Int} (hB : B ≤ w.heap.size) (hv : Sl w B none 1 v (ps.map phV)) : Ret Tryz.prog 136 #[v, .int .u8 p] w (intV (fidx (fun a => decide (a = p)) ps)) := by
  have hn : Now w := trivial
  have hx : Ext w w := Ext.refl w
  have hv' := hv.k hB
  (refine callsV_of Tryz.func136 rfl KR KR ?_; rw [Tryz.results136])
  (repeat' first
    | ((with_reducible refine at_row ?_); refine row1_a fun _ _ _ _ _ _ _ => ?_)
    | with_reducible first | (first | apply alloc_k | apply row_k); intro _ _ _ _ _ _ | (first | apply fork | apply forkp) <;> intro _ | refine forke (fun _ => ?_) fun _ _ => ?_ | refine tail_k fun _ _ _ => ?_ | refine ext_k fun _ _ _ => ?_ | refine need_a ?_ | refine st_agg KR rfl ON fun _ _ _ _ => ?_ | refine wpd_q_a ?_
    | simp (maxDischargeDepth := 3) only [↓X, ↓Y, ↓Q, S1, ↓reduceIte, Nat.reduceEqDiff, Nat.reduceAdd, Int.reduceLT, Int.reduceLE, Int.reduceNeg, Int.reduceBEq, Int.reduceBNe, Int.reduceEq, Nat.reduceLeDiff, Nat.reduceMul, Nat.reduceLT, *, phV]
    | simp (singlePass := true) (maxDischargeDepth := 99) only [*, S2, Nat.reduceLT, phV])
  refine loop_k (ps.length) (fun g0 k g _ => g 8 = .int .i64 k ∧ (g 0 = g0 0 ∧ g 1 = g0 1 ∧ g 7 = g0 7) ∧ Hid (∀ j (h : j < ps.length), j < k → ¬ ps[j] = p)) KR (hv.max_) ?_ ?_ ?_
  · (repeat' first
    | ((with_reducible refine at_row ?_); refine row1_a fun _ _ _ _ _ _ _ => ?_)
    | with_reducible first | (first | apply alloc_k | apply row_k); intro _ _ _ _ _ _ | (first | apply fork | apply forkp) <;> intro _ | refine forke (fun _ => ?_) fun _ _ => ?_ | refine tail_k fun _ _ _ => ?_ | refine ext_k fun _ _ _ => ?_ | refine need_a ?_ | refine st_agg KR rfl ON fun _ _ _ _ => ?_ | refine wpd_q_a ?_
    | simp (maxDischargeDepth := 3) only [↓X, ↓Y, ↓Q, S1, ↓reduceIte, Nat.reduceEqDiff, Nat.reduceAdd, Int.reduceLT, Int.reduceLE, Int.reduceNeg, Int.reduceBEq, Int.reduceBNe, Int.reduceEq, Nat.reduceLeDiff, Nat.reduceMul, Nat.reduceLT, *, List.take_zero, List.all_nil, List.any_nil]
    | simp (singlePass := true) (maxDischargeDepth := 99) only [*, S2, Nat.reduceLT, List.take_zero, List.all_nil, List.any_nil])
    exact fun j _ h => absurd h (by omega)
  · rintro k m g wk hk hlt _ _ _ hw ⟨hi, hf, hp⟩
    simp (maxDischargeDepth := 3) only [U, ↓reduceIte, Nat.reduceEqDiff, *] at hf
    (repeat' first
    | ((with_reducible refine at_row ?_); refine row1_a fun _ _ _ _ _ _ _ => ?_)
    | with_reducible first | (first | apply alloc_k | apply row_k); intro _ _ _ _ _ _ | (first | apply fork | apply forkp) <;> intro _ | refine forke (fun _ => ?_) fun _ _ => ?_ | refine tail_k fun _ _ _ => ?_ | refine ext_k fun _ _ _ => ?_ | refine need_a ?_ | refine st_agg KR rfl ON fun _ _ _ _ => ?_ | refine wpd_q_a ?_
    | simp (maxDischargeDepth := 3) only [↓X, ↓Y, ↓Q, S1, ↓reduceIte, Nat.reduceEqDiff, Nat.reduceAdd, Int.reduceLT, Int.reduceLE, Int.reduceNeg, Int.reduceBEq, Int.reduceBNe, Int.reduceEq, Nat.reduceLeDiff, Nat.reduceMul, Nat.reduceLT, *, phV]
    | simp (singlePass := true) (maxDischargeDepth := 99) only [*, S2, Nat.reduceLT, phV])
    · rename_i h
      rw [fidx_found hlt (by simp [h]) (fun j hj hjk => by simpa [h] using hp.out j hj hjk)]
    · rename_i h
      refine next_k hk hlt ?_ FR
      (repeat' first
    | ((with_reducible refine at_row ?_); refine row1_a fun _ _ _ _ _ _ _ => ?_)
    | with_reducible first | (first | apply alloc_k | apply row_k); intro _ _ _ _ _ _ | (first | apply fork | apply forkp) <;> intro _ | refine forke (fun _ => ?_) fun _ _ => ?_ | refine tail_k fun _ _ _ => ?_ | refine ext_k fun _ _ _ => ?_ | refine need_a ?_ | refine st_agg KR rfl ON fun _ _ _ _ => ?_ | refine wpd_q_a ?_
    | simp (maxDischargeDepth := 3) only [↓X, ↓Y, ↓Q, S1, ↓reduceIte, Nat.reduceEqDiff, Nat.reduceAdd, Int.reduceLT, Int.reduceLE, Int.reduceNeg, Int.reduceBEq, Int.reduceBNe, Int.reduceEq, Nat.reduceLeDiff, Nat.reduceMul, Nat.reduceLT, *]
    | simp (singlePass := true) (maxDischargeDepth := 99) only [*, S2, Nat.reduceLT])
      intro j hj hjk
      rcases Nat.lt_or_eq_of_le (Nat.le_of_lt_succ hjk) with h1 | rfl
      · exact hp.out j hj h1
      · exact fun e => h e.symm
  · rintro g wk _ _ _ ⟨hi, hf, hp⟩
    simp (maxDischargeDepth := 3) only [U, ↓reduceIte, Nat.reduceEqDiff, *] at hf
    (repeat' first
    | ((with_reducible refine at_row ?_); refine row1_a fun _ _ _ _ _ _ _ => ?_)
    | with_reducible first | (first | apply alloc_k | apply row_k); intro _ _ _ _ _ _ | (first | apply fork | apply forkp) <;> intro _ | refine forke (fun _ => ?_) fun _ _ => ?_ | refine tail_k fun _ _ _ => ?_ | refine ext_k fun _ _ _ => ?_ | refine need_a ?_ | refine st_agg KR rfl ON fun _ _ _ _ => ?_ | refine wpd_q_a ?_
    | simp (maxDischargeDepth := 3) only [↓X, ↓Y, ↓Q, S1, ↓reduceIte, Nat.reduceEqDiff, Nat.reduceAdd, Int.reduceLT, Int.reduceLE, Int.reduceNeg, Int.reduceBEq, Int.reduceBNe, Int.reduceEq, Nat.reduceLeDiff, Nat.reduceMul, Nat.reduceLT, *]
    | simp (singlePass := true) (maxDischargeDepth := 99) only [*, S2, Nat.reduceLT])
    rw [fidx_none (fun j hj => by simp [hp.out j hj hj])]
theorem slicesContainsPhase {v : Value} {ps : List Int} {p : Int} (hB : B ≤ w.heap.size) (hv : Sl w B none 1 v (ps.map phV)) : Ret Tryz.prog 132 #[v, .int .u8 p] w (.bool (ps.any fun a => decide (a = p))) := by
  have hn : Now w := trivial
  have hx : Ext w w := Ext.refl w
  have hv' := hv.k hB
  (refine callsV_of Tryz.func132 rfl KR KR ?_; rw [Tryz.results132])
  (repeat' first
    | ((with_reducible refine at_row ?_); refine row1_a fun _ _ _ _ _ _ _ => ?_)
    | with_reducible first | (first | apply alloc_k | apply row_k); intro _ _ _ _ _ _ | (first | apply fork | apply forkp) <;> intro _ | refine forke (fun _ => ?_) fun _ _ => ?_ | refine tail_k fun _ _ _ => ?_ | refine ext_k fun _ _ _ => ?_ | refine need_a ?_ | refine st_agg KR rfl ON fun _ _ _ _ => ?_ | refine wpd_q_a ?_
    | ((with_reducible refine at_f 136 ?_); refine ret_k (slicesIndexPhase (B := B) (ps := ps) (p := p) FR FR) fun _ _ _ => ?_)
    | simp (maxDischargeDepth := 3) only [↓X, ↓Y, ↓Q, S1, ↓reduceIte, Nat.reduceEqDiff, Nat.reduceAdd, Int.reduceLT, Int.reduceLE, Int.reduceNeg, Int.reduceBEq, Int.reduceBNe, Int.reduceEq, Nat.reduceLeDiff, Nat.reduceMul, Nat.reduceLT, *, phV]
    | simp (singlePass := true) (maxDischargeDepth := 99) only [*, S2, Nat.reduceLT, phV])
  rw [fidx_any]
theorem stepIn {B' : Nat} {lv : Value} {ps : List Int} (hB : B ≤ w.heap.size) (hB' : B' ≤ w.heap.size) (hx0 : WorldR w B hv rv x) (hl : Sl w B' none 1 lv (ps.map phV)) (hh : 0 ≤ st.host ∧ st.host < x.hosts.length) : Ret Tryz.prog 111 #[.agg #[hv, rv], stepV st, lv] w (.bool (ps.any fun a => decide (a = (hostAt x st.host).phase))) := by
  have hn : Now w := trivial
  have hx : Ext w w := Ext.refl w
  have hx' := hx0.sk hB
  have hl' := hl.k hB'
  obtain ⟨k, hk⟩ : ∃ k : Nat, st.host = k := ⟨st.host.toNat, by omega⟩
  have hlt : k < x.hosts.length := by omega
  have hat : hostAt x st.host = x.hosts[k] := by simp [hostAt, hk, hlt]
  rw [hat]
  clear hat hh
  (refine callsV_of Tryz.func111 rfl KR KR ?_; rw [Tryz.results111])
  (repeat' first
    | ((with_reducible refine at_row ?_); refine row1_a fun _ _ _ _ _ _ _ => ?_)
    | with_reducible first | (first | apply alloc_k | apply row_k); intro _ _ _ _ _ _ | (first | apply fork | apply forkp) <;> intro _ | refine forke (fun _ => ?_) fun _ _ => ?_ | refine tail_k fun _ _ _ => ?_ | refine ext_k fun _ _ _ => ?_ | refine need_a ?_ | refine st_agg KR rfl ON fun _ _ _ _ => ?_ | refine wpd_q_a ?_
    | ((with_reducible refine at_f 132 ?_); refine ret_k (slicesContainsPhase (B := B') (ps := ps) FR FR) fun _ _ _ => ?_)
    | simp (maxDischargeDepth := 3) only [↓X, ↓Y, ↓Q, S1, ↓reduceIte, Nat.reduceEqDiff, Nat.reduceAdd, Int.reduceLT, Int.reduceLE, Int.reduceNeg, Int.reduceBEq, Int.reduceBNe, Int.reduceEq, Nat.reduceLeDiff, Nat.reduceMul, Nat.reduceLT, *, stepV, stepC, stateV]
    | simp (singlePass := true) (maxDischargeDepth := 99) only [*, S2, Nat.reduceLT, stepV, stepC, stateV])
theorem stepFree1 {r : ReplicaD} {b : Nat} (hb : Blk w b 50 (stepC st)) : Ret Tryz.prog 133 #[replicaV r, .pointer (some ⟨b, 0, none⟩)] w (.bool (r.host == st.host)) := by
  have hn : Now w := trivial
  have hx : Ext w w := Ext.refl w
  have kb := hb.bk
  (refine callsV_of Tryz.func133 rfl KR KR ?_; rw [Tryz.results133])
  (repeat' first
    | ((with_reducible refine at_row ?_); refine row1_a fun _ _ _ _ _ _ _ => ?_)
    | with_reducible first | (first | apply alloc_k | apply row_k); intro _ _ _ _ _ _ | (first | apply fork | apply forkp) <;> intro _ | refine forke (fun _ => ?_) fun _ _ => ?_ | refine tail_k fun _ _ _ => ?_ | refine ext_k fun _ _ _ => ?_ | refine need_a ?_ | refine st_agg KR rfl ON fun _ _ _ _ => ?_ | refine wpd_q_a ?_
    | simp (maxDischargeDepth := 3) only [↓X, ↓Y, ↓Q, S1, ↓reduceIte, Nat.reduceEqDiff, Nat.reduceAdd, Int.reduceLT, Int.reduceLE, Int.reduceNeg, Int.reduceBEq, Int.reduceBNe, Int.reduceEq, Nat.reduceLeDiff, Nat.reduceMul, Nat.reduceLT, *, replicaV, stepC]
    | simp (singlePass := true) (maxDischargeDepth := 99) only [*, S2, Nat.reduceLT, replicaV, stepC])
theorem stepFree (hB : B ≤ w.heap.size) (hx0 : WorldR w B hv rv x) : Ret Tryz.prog 115 #[.agg #[hv, rv], stepV st] w (.bool (!runsB x st.host)) := by
  have hn : Now w := trivial
  have hx : Ext w w := Ext.refl w
  have hx' := hx0.sk hB
  have hX := hx'.2.2.2.2
  (refine callsV_of Tryz.func115 rfl KR KR ?_; rw [Tryz.results115])
  (repeat' first
    | ((with_reducible refine at_row ?_); refine row1_a fun _ _ _ _ _ _ _ => ?_)
    | with_reducible first | (first | apply alloc_k | apply row_k); intro _ _ _ _ _ _ | (first | apply fork | apply forkp) <;> intro _ | refine forke (fun _ => ?_) fun _ _ => ?_ | refine tail_k fun _ _ _ => ?_ | refine ext_k fun _ _ _ => ?_ | refine need_a ?_ | refine st_agg KR rfl ON fun _ _ _ _ => ?_ | refine wpd_q_a ?_
    | simp (maxDischargeDepth := 3) only [↓X, ↓Y, ↓Q, S1, ↓reduceIte, Nat.reduceEqDiff, Nat.reduceAdd, Int.reduceLT, Int.reduceLE, Int.reduceNeg, Int.reduceBEq, Int.reduceBNe, Int.reduceEq, Nat.reduceLeDiff, Nat.reduceMul, Nat.reduceLT, *, stepV, stepC]
    | simp (singlePass := true) (maxDischargeDepth := 99) only [*, S2, Nat.reduceLT, stepV, stepC])
  have hcal1 : callable Tryz.prog 133 = true := by kernel_rfl
  refine ret_k (containsFunc_Replica (caps := [_]) (enc := replicaV) (q := fun r => r.host == st.host) (B := B) (l := x.replicas) FR FR hcal1 fun r _ w' hx9 => by
        have s9 := hx9.st
        exact stepFree1 (by ((try simp only [stepC, List.map_cons, List.map_nil, natV, intV]); simp (singlePass := true) (maxDischargeDepth := 99) only [*, Nat.le_refl, not_false_eq_true, and_self, natV, intV, List.map_cons, List.map_nil, List.length_cons, List.length_nil, Nat.reduceAdd, Nat.reduceLeDiff]))) fun w5 n5 s5 => ?_
  (repeat' first
    | ((with_reducible refine at_row ?_); refine row1_a fun _ _ _ _ _ _ _ => ?_)
    | with_reducible first | (first | apply alloc_k | apply row_k); intro _ _ _ _ _ _ | (first | apply fork | apply forkp) <;> intro _ | refine forke (fun _ => ?_) fun _ _ => ?_ | refine tail_k fun _ _ _ => ?_ | refine ext_k fun _ _ _ => ?_ | refine need_a ?_ | refine st_agg KR rfl ON fun _ _ _ _ => ?_ | refine wpd_q_a ?_
    | simp (maxDischargeDepth := 3) only [↓X, ↓Y, ↓Q, S1, ↓reduceIte, Nat.reduceEqDiff, Nat.reduceAdd, Int.reduceLT, Int.reduceLE, Int.reduceNeg, Int.reduceBEq, Int.reduceBNe, Int.reduceEq, Nat.reduceLeDiff, Nat.reduceMul, Nat.reduceLT, *, runsB]
    | simp (singlePass := true) (maxDischargeDepth := 99) only [*, S2, Nat.reduceLT, runsB])
theorem stepReplica : Ret Tryz.prog 54 #[stepV st] w (replicaV (replOf st)) := by
  have hn : Now w := trivial
  have hx : Ext w w := Ext.refl w
  (refine callsV_of Tryz.func54 rfl KR KR ?_; rw [Tryz.results54])
  (repeat' first
    | ((with_reducible refine at_row ?_); refine row1_a fun _ _ _ _ _ _ _ => ?_)
    | with_reducible first | (first | apply alloc_k | apply row_k); intro _ _ _ _ _ _ | (first | apply fork | apply forkp) <;> intro _ | refine forke (fun _ => ?_) fun _ _ => ?_ | refine tail_k fun _ _ _ => ?_ | refine ext_k fun _ _ _ => ?_ | refine need_a ?_ | refine st_agg KR rfl ON fun _ _ _ _ => ?_ | refine wpd_q_a ?_
    | simp (maxDischargeDepth := 3) only [↓X, ↓Y, ↓Q, S1, ↓reduceIte, Nat.reduceEqDiff, Nat.reduceAdd, Int.reduceLT, Int.reduceLE, Int.reduceNeg, Int.reduceBEq, Int.reduceBNe, Int.reduceEq, Nat.reduceLeDiff, Nat.reduceMul, Nat.reduceLT, *, stepV, stepC, replicaV, replOf]
    | simp (singlePass := true) (maxDischargeDepth := 99) only [*, S2, Nat.reduceLT, stepV, stepC, replicaV, replOf])
theorem rules2 (hB : B ≤ w.heap.size) (hx0 : WorldR w B hv rv x) : Ret Tryz.prog 112 #[.agg #[hv, rv], stepV st] w (.bool (hasB x.replicas (replOf st))) := by
  have hn : Now w := trivial
  have hx : Ext w w := Ext.refl w
  have hx' := hx0.sk hB
  have hX := hx'.2.2.2.2
  (refine callsV_of Tryz.func112 rfl KR KR ?_; rw [Tryz.results112])
  (repeat' first
    | ((with_reducible refine at_row ?_); refine row1_a fun _ _ _ _ _ _ _ => ?_)
    | with_reducible first | (first | apply alloc_k | apply row_k); intro _ _ _ _ _ _ | (first | apply fork | apply forkp) <;> intro _ | refine forke (fun _ => ?_) fun _ _ => ?_ | refine tail_k fun _ _ _ => ?_ | refine ext_k fun _ _ _ => ?_ | refine need_a ?_ | refine st_agg KR rfl ON fun _ _ _ _ => ?_ | refine wpd_q_a ?_
    | ((with_reducible refine at_q 54 ?_); refine qret_k (fun _ _ _ => stepReplica) ?_)
    | ((with_reducible refine at_q 100 ?_); refine qret_k (fun _ _ _ => worldHas (r := replOf st) (B := B) FR (hX _ FR)) ?_)
    | simp (maxDischargeDepth := 3) only [↓X, ↓Y, ↓Q, S1, ↓reduceIte, Nat.reduceEqDiff, Nat.reduceAdd, Int.reduceLT, Int.reduceLE, Int.reduceNeg, Int.reduceBEq, Int.reduceBNe, Int.reduceEq, Nat.reduceLeDiff, Nat.reduceMul, Nat.reduceLT, *, stepV, stepC]
    | simp (singlePass := true) (maxDischargeDepth := 99) only [*, S2, Nat.reduceLT, stepV, stepC])
theorem rules3 (hB : B ≤ w.heap.size) (hx0 : WorldR w B hv rv x) (hh : 0 ≤ st.host ∧ st.host < x.hosts.length) : Ret Tryz.prog 113 #[.agg #[hv, rv], stepV st] w (.bool ((hostAt x st.host).phase == 0)) := by
  have hn : Now w := trivial
  have hx : Ext w w := Ext.refl w
  have hx' := hx0.sk hB
  have hX := hx'.2.2.2.2
  obtain ⟨ph, hph⟩ : ∃ p, Hid ((hostAt x st.host).phase = p) := ⟨_, rfl⟩
  have hin := fun w' B' lv (h1 : Bl B w w') (h2 : B ≤ w'.heap.size) (h3 : B' ≤ w'.heap.size) (h4 : Sl w' B' none 1 lv ([0].map phV)) => stepIn (st := st) (ps := [0]) h2 h3 (hX w' h1) h4 hh
  rw [hph.out] at hin ⊢
  have e : (([0] : List Int).any fun a => decide (a = ph)) = (ph == 0) := by rw [Bool.eq_iff_iff]; simp; omega
  rw [e] at hin
  clear e
  replace hin : Hid _ := hin
  (refine callsV_of Tryz.func113 rfl KR KR ?_; rw [Tryz.results113])
  (repeat' first
    | ((with_reducible refine at_row ?_); refine row1_a fun _ _ _ _ _ _ _ => ?_)
    | with_reducible first | (first | apply alloc_k | apply row_k); intro _ _ _ _ _ _ | (first | apply fork | apply forkp) <;> intro _ | refine forke (fun _ => ?_) fun _ _ => ?_ | refine tail_k fun _ _ _ => ?_ | refine ext_k fun _ _ _ => ?_ | refine need_a ?_ | refine st_agg KR rfl ON fun _ _ _ _ => ?_ | refine wpd_q_a ?_
    | ((with_reducible refine at_f 111 ?_); refine ret_k (hin.out _ _ _ FR FR (Nat.le_refl _) (by ((try simp only [phV, List.map_cons, List.map_nil, natV, intV]); simp (singlePass := true) (maxDischargeDepth := 99) only [*, Nat.le_refl, not_false_eq_true, and_self, natV, intV, List.map_cons, List.map_nil, List.length_cons, List.length_nil, Nat.reduceAdd, Nat.reduceLeDiff]))) fun _ _ _ => ?_)
    | simp (maxDischargeDepth := 3) only [↓X, ↓Y, ↓Q, S1, ↓reduceIte, Nat.reduceEqDiff, Nat.reduceAdd, Int.reduceLT, Int.reduceLE, Int.reduceNeg, Int.reduceBEq, Int.reduceBNe, Int.reduceEq, Nat.reduceLeDiff, Nat.reduceMul, Nat.reduceLT, *, stepV, stepC]
    | simp (singlePass := true) (maxDischargeDepth := 99) only [*, S2, Nat.reduceLT, stepV, stepC])
theorem rules6 (hB : B ≤ w.heap.size) (hx0 : WorldR w B hv rv x) (hh : 0 ≤ st.host ∧ st.host < x.hosts.length) : Ret Tryz.prog 117 #[.agg #[hv, rv], stepV st] w (.bool ((hostAt x st.host).phase == 1 || (hostAt x st.host).phase == 2 || (hostAt x st.host).phase == 3)) := by
  have hn : Now w := trivial
  have hx : Ext w w := Ext.refl w
  have hx' := hx0.sk hB
  have hX := hx'.2.2.2.2
  obtain ⟨ph, hph⟩ : ∃ p, Hid ((hostAt x st.host).phase = p) := ⟨_, rfl⟩
  have hin := fun w' B' lv (h1 : Bl B w w') (h2 : B ≤ w'.heap.size) (h3 : B' ≤ w'.heap.size) (h4 : Sl w' B' none 1 lv ([1, 2, 3].map phV)) => stepIn (st := st) (ps := [1, 2, 3]) h2 h3 (hX w' h1) h4 hh
  rw [hph.out] at hin ⊢
  have e : (([1, 2, 3] : List Int).any fun a => decide (a = ph)) = (ph == 1 || ph == 2 || ph == 3) := by rw [Bool.eq_iff_iff]; simp; omega
  rw [e] at hin
  clear e
  replace hin : Hid _ := hin
  (refine callsV_of Tryz.func117 rfl KR KR ?_; rw [Tryz.results117])
  (repeat' first
    | ((with_reducible refine at_row ?_); refine row1_a fun _ _ _ _ _ _ _ => ?_)
    | with_reducible first | (first | apply alloc_k | apply row_k); intro _ _ _ _ _ _ | (first | apply fork | apply forkp) <;> intro _ | refine forke (fun _ => ?_) fun _ _ => ?_ | refine tail_k fun _ _ _ => ?_ | refine ext_k fun _ _ _ => ?_ | refine need_a ?_ | refine st_agg KR rfl ON fun _ _ _ _ => ?_ | refine wpd_q_a ?_
    | ((with_reducible refine at_f 111 ?_); refine ret_k (hin.out _ _ _ FR FR (Nat.le_refl _) (by ((try simp only [phV, List.map_cons, List.map_nil, natV, intV]); simp (singlePass := true) (maxDischargeDepth := 99) only [*, Nat.le_refl, not_false_eq_true, and_self, natV, intV, List.map_cons, List.map_nil, List.length_cons, List.length_nil, Nat.reduceAdd, Nat.reduceLeDiff]))) fun _ _ _ => ?_)
    | simp (maxDischargeDepth := 3) only [↓X, ↓Y, ↓Q, S1, ↓reduceIte, Nat.reduceEqDiff, Nat.reduceAdd, Int.reduceLT, Int.reduceLE, Int.reduceNeg, Int.reduceBEq, Int.reduceBNe, Int.reduceEq, Nat.reduceLeDiff, Nat.reduceMul, Nat.reduceLT, *, stepV, stepC]
    | simp (singlePass := true) (maxDischargeDepth := 99) only [*, S2, Nat.reduceLT, stepV, stepC])
theorem rules7 (hB : B ≤ w.heap.size) (hx0 : WorldR w B hv rv x) (hh : 0 ≤ st.host ∧ st.host < x.hosts.length) : Ret Tryz.prog 118 #[.agg #[hv, rv], stepV st] w (.bool ((hostAt x st.host).phase == 2)) := by
  have hn : Now w := trivial
  have hx : Ext w w := Ext.refl w
  have hx' := hx0.sk hB
  have hX := hx'.2.2.2.2
  obtain ⟨ph, hph⟩ : ∃ p, Hid ((hostAt x st.host).phase = p) := ⟨_, rfl⟩
  have hin := fun w' B' lv (h1 : Bl B w w') (h2 : B ≤ w'.heap.size) (h3 : B' ≤ w'.heap.size) (h4 : Sl w' B' none 1 lv ([2].map phV)) => stepIn (st := st) (ps := [2]) h2 h3 (hX w' h1) h4 hh
  rw [hph.out] at hin ⊢
  have e : (([2] : List Int).any fun a => decide (a = ph)) = (ph == 2) := by rw [Bool.eq_iff_iff]; simp; omega
  rw [e] at hin
  clear e
  replace hin : Hid _ := hin
  (refine callsV_of Tryz.func118 rfl KR KR ?_; rw [Tryz.results118])
  (repeat' first
    | ((with_reducible refine at_row ?_); refine row1_a fun _ _ _ _ _ _ _ => ?_)
    | with_reducible first | (first | apply alloc_k | apply row_k); intro _ _ _ _ _ _ | (first | apply fork | apply forkp) <;> intro _ | refine forke (fun _ => ?_) fun _ _ => ?_ | refine tail_k fun _ _ _ => ?_ | refine ext_k fun _ _ _ => ?_ | refine need_a ?_ | refine st_agg KR rfl ON fun _ _ _ _ => ?_ | refine wpd_q_a ?_
    | ((with_reducible refine at_f 111 ?_); refine ret_k (hin.out _ _ _ FR FR (Nat.le_refl _) (by ((try simp only [phV, List.map_cons, List.map_nil, natV, intV]); simp (singlePass := true) (maxDischargeDepth := 99) only [*, Nat.le_refl, not_false_eq_true, and_self, natV, intV, List.map_cons, List.map_nil, List.length_cons, List.length_nil, Nat.reduceAdd, Nat.reduceLeDiff]))) fun _ _ _ => ?_)
    | simp (maxDischargeDepth := 3) only [↓X, ↓Y, ↓Q, S1, ↓reduceIte, Nat.reduceEqDiff, Nat.reduceAdd, Int.reduceLT, Int.reduceLE, Int.reduceNeg, Int.reduceBEq, Int.reduceBNe, Int.reduceEq, Nat.reduceLeDiff, Nat.reduceMul, Nat.reduceLT, *, stepV, stepC]
    | simp (singlePass := true) (maxDischargeDepth := 99) only [*, S2, Nat.reduceLT, stepV, stepC])
theorem rules4 (hB : B ≤ w.heap.size) (hx0 : WorldR w B hv rv x) (hh : 0 ≤ st.host ∧ st.host < x.hosts.length) : Ret Tryz.prog 114 #[.agg #[hv, rv], stepV st] w (.bool ((hostAt x st.host).phase == 1 && !runsB x st.host)) := by
  have hn : Now w := trivial
  have hx : Ext w w := Ext.refl w
  have hx' := hx0.sk hB
  have hX := hx'.2.2.2.2
  obtain ⟨ph, hph⟩ : ∃ p, Hid ((hostAt x st.host).phase = p) := ⟨_, rfl⟩
  have hin := fun w' B' lv (h1 : Bl B w w') (h2 : B ≤ w'.heap.size) (h3 : B' ≤ w'.heap.size) (h4 : Sl w' B' none 1 lv ([1].map phV)) => stepIn (st := st) (ps := [1]) h2 h3 (hX w' h1) h4 hh
  rw [hph.out] at hin ⊢
  have e : (([1] : List Int).any fun a => decide (a = ph)) = (ph == 1) := by rw [Bool.eq_iff_iff]; simp; omega
  rw [e] at hin
  clear e
  replace hin : Hid _ := hin
  generalize (ph == 1) = c at *
  (refine callsV_of Tryz.func114 rfl KR KR ?_; rw [Tryz.results114])
  cases c
  · (repeat' first
    | ((with_reducible refine at_row ?_); refine row1_a fun _ _ _ _ _ _ _ => ?_)
    | with_reducible first | (first | apply alloc_k | apply row_k); intro _ _ _ _ _ _ | (first | apply fork | apply forkp) <;> intro _ | refine forke (fun _ => ?_) fun _ _ => ?_ | refine tail_k fun _ _ _ => ?_ | refine ext_k fun _ _ _ => ?_ | refine need_a ?_ | refine st_agg KR rfl ON fun _ _ _ _ => ?_ | refine wpd_q_a ?_
    | ((with_reducible refine at_f 111 ?_); refine ret_k (hin.out _ _ _ FR FR (Nat.le_refl _) (by ((try simp only [phV, List.map_cons, List.map_nil, natV, intV]); simp (singlePass := true) (maxDischargeDepth := 99) only [*, Nat.le_refl, not_false_eq_true, and_self, natV, intV, List.map_cons, List.map_nil, List.length_cons, List.length_nil, Nat.reduceAdd, Nat.reduceLeDiff]))) fun _ _ _ => ?_)
    | ((with_reducible refine at_f 115 ?_); refine ret_k (stepFree (st := st) (B := B) FR (hX _ FR)) fun _ _ _ => ?_)
    | simp (maxDischargeDepth := 3) only [↓X, ↓Y, ↓Q, S1, ↓reduceIte, Nat.reduceEqDiff, Nat.reduceAdd, Int.reduceLT, Int.reduceLE, Int.reduceNeg, Int.reduceBEq, Int.reduceBNe, Int.reduceEq, Nat.reduceLeDiff, Nat.reduceMul, Nat.reduceLT, *, stepV, stepC]
    | simp (singlePass := true) (maxDischargeDepth := 99) only [*, S2, Nat.reduceLT, stepV, stepC])
  · (repeat' first
    | ((with_reducible refine at_row ?_); refine row1_a fun _ _ _ _ _ _ _ => ?_)
    | with_reducible first | (first | apply alloc_k | apply row_k); intro _ _ _ _ _ _ | (first | apply fork | apply forkp) <;> intro _ | refine forke (fun _ => ?_) fun _ _ => ?_ | refine tail_k fun _ _ _ => ?_ | refine ext_k fun _ _ _ => ?_ | refine need_a ?_ | refine st_agg KR rfl ON fun _ _ _ _ => ?_ | refine wpd_q_a ?_
    | ((with_reducible refine at_f 111 ?_); refine ret_k (hin.out _ _ _ FR FR (Nat.le_refl _) (by ((try simp only [phV, List.map_cons, List.map_nil, natV, intV]); simp (singlePass := true) (maxDischargeDepth := 99) only [*, Nat.le_refl, not_false_eq_true, and_self, natV, intV, List.map_cons, List.map_nil, List.length_cons, List.length_nil, Nat.reduceAdd, Nat.reduceLeDiff]))) fun _ _ _ => ?_)
    | ((with_reducible refine at_f 115 ?_); refine ret_k (stepFree (st := st) (B := B) FR (hX _ FR)) fun _ _ _ => ?_)
    | simp (maxDischargeDepth := 3) only [↓X, ↓Y, ↓Q, S1, ↓reduceIte, Nat.reduceEqDiff, Nat.reduceAdd, Int.reduceLT, Int.reduceLE, Int.reduceNeg, Int.reduceBEq, Int.reduceBNe, Int.reduceEq, Nat.reduceLeDiff, Nat.reduceMul, Nat.reduceLT, *, stepV, stepC]
    | simp (singlePass := true) (maxDischargeDepth := 99) only [*, S2, Nat.reduceLT, stepV, stepC])
theorem rules5 (hB : B ≤ w.heap.size) (hx0 : WorldR w B hv rv x) (hh : 0 ≤ st.host ∧ st.host < x.hosts.length) : Ret Tryz.prog 116 #[.agg #[hv, rv], stepV st] w (.bool ((hostAt x st.host).phase == 2 && !runsB x st.host)) := by
  have hn : Now w := trivial
  have hx : Ext w w := Ext.refl w
  have hx' := hx0.sk hB
  have hX := hx'.2.2.2.2
  obtain ⟨ph, hph⟩ : ∃ p, Hid ((hostAt x st.host).phase = p) := ⟨_, rfl⟩
  have hin := fun w' B' lv (h1 : Bl B w w') (h2 : B ≤ w'.heap.size) (h3 : B' ≤ w'.heap.size) (h4 : Sl w' B' none 1 lv ([2].map phV)) => stepIn (st := st) (ps := [2]) h2 h3 (hX w' h1) h4 hh
  rw [hph.out] at hin ⊢
  have e : (([2] : List Int).any fun a => decide (a = ph)) = (ph == 2) := by rw [Bool.eq_iff_iff]; simp; omega
  rw [e] at hin
  clear e
  replace hin : Hid _ := hin
  generalize (ph == 2) = c at *
  (refine callsV_of Tryz.func116 rfl KR KR ?_; rw [Tryz.results116])
  cases c
  · (repeat' first
    | ((with_reducible refine at_row ?_); refine row1_a fun _ _ _ _ _ _ _ => ?_)
    | with_reducible first | (first | apply alloc_k | apply row_k); intro _ _ _ _ _ _ | (first | apply fork | apply forkp) <;> intro _ | refine forke (fun _ => ?_) fun _ _ => ?_ | refine tail_k fun _ _ _ => ?_ | refine ext_k fun _ _ _ => ?_ | refine need_a ?_ | refine st_agg KR rfl ON fun _ _ _ _ => ?_ | refine wpd_q_a ?_
    | ((with_reducible refine at_f 111 ?_); refine ret_k (hin.out _ _ _ FR FR (Nat.le_refl _) (by ((try simp only [phV, List.map_cons, List.map_nil, natV, intV]); simp (singlePass := true) (maxDischargeDepth := 99) only [*, Nat.le_refl, not_false_eq_true, and_self, natV, intV, List.map_cons, List.map_nil, List.length_cons, List.length_nil, Nat.reduceAdd, Nat.reduceLeDiff]))) fun _ _ _ => ?_)
    | ((with_reducible refine at_f 115 ?_); refine ret_k (stepFree (st := st) (B := B) FR (hX _ FR)) fun _ _ _ => ?_)
    | simp (maxDischargeDepth := 3) only [↓X, ↓Y, ↓Q, S1, ↓reduceIte, Nat.reduceEqDiff, Nat.reduceAdd, Int.reduceLT, Int.reduceLE, Int.reduceNeg, Int.reduceBEq, Int.reduceBNe, Int.reduceEq, Nat.reduceLeDiff, Nat.reduceMul, Nat.reduceLT, *, stepV, stepC]
    | simp (singlePass := true) (maxDischargeDepth := 99) only [*, S2, Nat.reduceLT, stepV, stepC])
  · (repeat' first
    | ((with_reducible refine at_row ?_); refine row1_a fun _ _ _ _ _ _ _ => ?_)
    | with_reducible first | (first | apply alloc_k | apply row_k); intro _ _ _ _ _ _ | (first | apply fork | apply forkp) <;> intro _ | refine forke (fun _ => ?_) fun _ _ => ?_ | refine tail_k fun _ _ _ => ?_ | refine ext_k fun _ _ _ => ?_ | refine need_a ?_ | refine st_agg KR rfl ON fun _ _ _ _ => ?_ | refine wpd_q_a ?_
    | ((with_reducible refine at_f 111 ?_); refine ret_k (hin.out _ _ _ FR FR (Nat.le_refl _) (by ((try simp only [phV, List.map_cons, List.map_nil, natV, intV]); simp (singlePass := true) (maxDischargeDepth := 99) only [*, Nat.le_refl, not_false_eq_true, and_self, natV, intV, List.map_cons, List.map_nil, List.length_cons, List.length_nil, Nat.reduceAdd, Nat.reduceLeDiff]))) fun _ _ _ => ?_)
    | ((with_reducible refine at_f 115 ?_); refine ret_k (stepFree (st := st) (B := B) FR (hX _ FR)) fun _ _ _ => ?_)
    | simp (maxDischargeDepth := 3) only [↓X, ↓Y, ↓Q, S1, ↓reduceIte, Nat.reduceEqDiff, Nat.reduceAdd, Int.reduceLT, Int.reduceLE, Int.reduceNeg, Int.reduceBEq, Int.reduceBNe, Int.reduceEq, Nat.reduceLeDiff, Nat.reduceMul, Nat.reduceLT, *, stepV, stepC]
    | simp (singlePass := true) (maxDischargeDepth := 99) only [*, S2, Nat.reduceLT, stepV, stepC])
theorem rules1 (hB : B ≤ w.heap.size) (hx0 : WorldR w B hv rv x) (hh : 0 ≤ st.host ∧ st.host < x.hosts.length) : Ret Tryz.prog 110 #[.agg #[hv, rv], stepV st] w (.bool ((hostAt x st.host).phase == 0 && !hasB x.replicas (replOf st) && decide (x.replicas.length < 24))) := by
  have hn : Now w := trivial
  have hx : Ext w w := Ext.refl w
  have hx' := hx0.sk hB
  have hX := hx'.2.2.2.2
  obtain ⟨ph, hph⟩ : ∃ p, Hid ((hostAt x st.host).phase = p) := ⟨_, rfl⟩
  have hin := fun w' B' lv (h1 : Bl B w w') (h2 : B ≤ w'.heap.size) (h3 : B' ≤ w'.heap.size) (h4 : Sl w' B' none 1 lv ([0].map phV)) => stepIn (st := st) (ps := [0]) h2 h3 (hX w' h1) h4 hh
  rw [hph.out] at hin ⊢
  have e : (([0] : List Int).any fun a => decide (a = ph)) = (ph == 0) := by rw [Bool.eq_iff_iff]; simp; omega
  rw [e] at hin
  clear e hph hh
  have hha := fun w' (h1 : Bl B w w') (h2 : B ≤ w'.heap.size) => worldHas (r := replOf st) h2 (hX w' h1)
  generalize (ph == 0) = c at *
  generalize hasB x.replicas (replOf st) = h at *
  replace hin : Hid _ := hin
  replace hha : Hid _ := hha
  have h24 : decide ((x.replicas.length : Int) < 24) = decide (x.replicas.length < 24) := by rw [Bool.eq_iff_iff]; simp; omega
  (refine callsV_of Tryz.func110 rfl KR KR ?_; rw [Tryz.results110])
  (repeat' first
    | ((with_reducible refine wpd_at 1 ?_); refine wpd_hold ?_)
    | ((with_reducible refine at_row ?_); refine row1_a fun _ _ _ _ _ _ _ => ?_)
    | with_reducible first | (first | apply alloc_k | apply row_k); intro _ _ _ _ _ _ | (first | apply fork | apply forkp) <;> intro _ | refine forke (fun _ => ?_) fun _ _ => ?_ | refine tail_k fun _ _ _ => ?_ | refine ext_k fun _ _ _ => ?_ | refine need_a ?_ | refine st_agg KR rfl ON fun _ _ _ _ => ?_ | refine wpd_q_a ?_
    | simp (maxDischargeDepth := 3) only [↓X, ↓Y, ↓Q, S1, ↓reduceIte, Nat.reduceEqDiff, Nat.reduceAdd, Int.reduceLT, Int.reduceLE, Int.reduceNeg, Int.reduceBEq, Int.reduceBNe, Int.reduceEq, Nat.reduceLeDiff, Nat.reduceMul, Nat.reduceLT, *, stepV, stepC]
    | simp (singlePass := true) (maxDischargeDepth := 99) only [*, S2, Nat.reduceLT, stepV, stepC])
  rename_i b2 v2 u2 k2 t2 q2 b3 w3 n3 k3 s3 q3
  cases c
  · clear hha
    unfold wpdH
    refine wpd_rel 17 (fun iI v w9 => match iI with
      | 0 => v = .agg #[hv, rv]
      | 1 => v = stepV st
      | 2 => ∃ b, v = .slice (some ⟨b, 0, none⟩) 1 1 ∧ Blk w9 b 74 [.int .u8 0] ∧ w3.heap.size ≤ b
      | 3 => v = .bool false
      | 4 => v = .bool false
      | 5 => v = undef
      | 6 => v = undef
      | 7 => v = undef
      | 8 => v = undef
      | 9 => v = undef
      | 10 => v = .bool false
      | 11 => v = .bool false
      | 12 => v = undef
      | 13 => v = undef
      | 14 => v = undef
      | 15 => v = undef
      | 16 => v = .bool false
      | _ => False) KR KR KR ?_ ?_ ?_
    · intro iI v w1 w2 hR hx9
      match iI, hR with
      | 0, h => exact h
      | 1, h => exact h
      | 2, ⟨b, e, h1, h2⟩ => exact ⟨b, e, h1.ext hx9, h2⟩
      | 3, h => exact h
      | 4, h => exact h
      | 5, h => exact h
      | 6, h => exact h
      | 7, h => exact h
      | 8, h => exact h
      | 9, h => exact h
      | 10, h => exact h
      | 11, h => exact h
      | 12, h => exact h
      | 13, h => exact h
      | 14, h => exact h
      | 15, h => exact h
      | 16, h => exact h
    · intro iI oO hi ho gF w9 hx9 hdep hag
      have s9 := hx9.st
      have n9 : Now w9 := trivial
      have r9 := Ext.refl w9
      have z9 := hx9.size
      rcases iI with _|_|_|_|_|_|_|_|_|_|_|_|_|_|_|_|_|iI
      have e := Option.some.inj ho
      subst e
      have a2 := hag.at 2 KR
      simp only [S5, ↓reduceIte, Nat.reduceEqDiff, initF, *] at a2
      clear hag hdep ho
      refine relStep_off rfl ?_
      rotate_left
      have e := Option.some.inj ho
      subst e
      have a3 := hag.at 3 KR
      simp only [S5, ↓reduceIte, Nat.reduceEqDiff, initF, *] at a3
      clear hag hdep ho
      refine relStep_off rfl ?_
      rotate_left
      · have e := Option.some.inj ho
        subst e
        clear hag hdep ho
        refine relStep_off rfl ?_
        (repeat' first
    | ((with_reducible refine at_row ?_); refine row1_a fun _ _ _ _ _ _ _ => ?_)
    | with_reducible first | (first | apply alloc_k | apply row_k); intro _ _ _ _ _ _ | (first | apply fork | apply forkp) <;> intro _ | refine forke (fun _ => ?_) fun _ _ => ?_ | refine tail_k fun _ _ _ => ?_ | refine ext_k fun _ _ _ => ?_ | refine need_a ?_ | refine st_agg KR rfl ON fun _ _ _ _ => ?_ | refine wpd_q_a ?_
    | ((with_reducible refine at_f 111 ?_); refine ret_k (hin.out _ _ _ FR FR (Nat.le_refl _) (row_sl hb2 rfl (by simp))) fun _ _ _ => ?_)
    | ((with_reducible refine at_f 54 ?_); refine ret_k (stepReplica) fun _ _ _ => ?_)
    | simp (maxDischargeDepth := 3) only [↓X, ↓Y, ↓Q, S1, ↓reduceIte, Nat.reduceEqDiff, Nat.reduceAdd, Int.reduceLT, Int.reduceLE, Int.reduceNeg, Int.reduceBEq, Int.reduceBNe, Int.reduceEq, Nat.reduceLeDiff, Nat.reduceMul, Nat.reduceLT, *, stepV, stepC]
    | simp (singlePass := true) (maxDischargeDepth := 99) only [*, S2, Nat.reduceLT, stepV, stepC])
        first
          | (rename_i b10 w10 n10 k10 s10 q10; exact ⟨_, rfl, k10.2.1 _ k10.2.2.1, FR⟩)
          | (rename_i b10 w10 n10 k10 s10 q10 l10; exact ⟨_, rfl, k10.2.1 _ k10.2.2.1, FR⟩)
      have e := Option.some.inj ho
      subst e
      have d0 : (gF 5) = .agg #[hv, rv] := hdep ⟨0, .data⟩ (by simp) rfl _ _ rfl rfl
      have d1 : (gF 6) = stepV st := hdep ⟨1, .data⟩ (by simp) rfl _ _ rfl rfl
      have d2 : ∃ b, (gF 7) = .slice (some ⟨b, 0, none⟩) 1 1 ∧ Blk w9 b 74 [.int .u8 0] ∧ w3.heap.size ≤ b := hdep ⟨2, .data⟩ (by simp) rfl _ _ rfl rfl
      obtain ⟨b2, e2, hb2, q2⟩ := d2
      have k2 := hb2.bk
      have nw2 := Nw.of q2
      clear hag hdep ho
      refine relStep_off rfl ?_
      rotate_left
      have e := Option.some.inj ho
      subst e
      have d3 : (gF 8) = .bool false := hdep ⟨3, .data⟩ (by simp) rfl _ _ rfl rfl
      clear hag hdep ho
      refine relStep_off rfl ?_
      rotate_left
      · have e := Option.some.inj ho
        subst e
        have a2 := hag.at 2 KR
        simp only [S5, ↓reduceIte, Nat.reduceEqDiff, initF, *] at a2
        have d4 : (gF 9) = .bool false := hdep ⟨4, .guard⟩ (by simp) rfl _ _ rfl rfl
        clear hag hdep ho
        exact relStep_skip (j := 4) (want := true) (t := 9) rfl rfl (by rw [d4]; simp [boolOf, undef]) ⟨Ext.refl _, rfl⟩
      · have e := Option.some.inj ho
        subst e
        have a3 := hag.at 3 KR
        simp only [S5, ↓reduceIte, Nat.reduceEqDiff, initF, *] at a3
        have d4 : (gF 9) = .bool false := hdep ⟨4, .guard⟩ (by simp) rfl _ _ rfl rfl
        clear hag hdep ho
        exact relStep_skip (j := 4) (want := true) (t := 9) rfl rfl (by rw [d4]; simp [boolOf, undef]) ⟨Ext.refl _, rfl⟩
      · have e := Option.some.inj ho
        subst e
        have d6 : (gF 11) = undef := hdep ⟨6, .data⟩ (by simp) rfl _ _ rfl rfl
        have d4 : (gF 9) = .bool false := hdep ⟨4, .guard⟩ (by simp) rfl _ _ rfl rfl
        clear hag hdep ho
        exact relStep_skip (j := 4) (want := true) (t := 9) rfl rfl (by rw [d4]; simp [boolOf, undef]) ⟨Ext.refl _, rfl⟩
      · have e := Option.some.inj ho
        subst e
        have d5 : (gF 10) = undef := hdep ⟨5, .data⟩ (by simp) rfl _ _ rfl rfl
        have d7 : (gF 12) = undef := hdep ⟨7, .data⟩ (by simp) rfl _ _ rfl rfl
        have d4 : (gF 9) = .bool false := hdep ⟨4, .guard⟩ (by simp) rfl _ _ rfl rfl
        clear hag hdep ho
        exact relStep_skip (j := 4) (want := true) (t := 9) rfl rfl (by rw [d4]; simp [boolOf, undef]) ⟨Ext.refl _, rfl⟩
      · have e := Option.some.inj ho
        subst e
        have d8 : (gF 13) = undef := hdep ⟨8, .data⟩ (by simp) rfl _ _ rfl rfl
        have d4 : (gF 9) = .bool false := hdep ⟨4, .guard⟩ (by simp) rfl _ _ rfl rfl
        clear hag hdep ho
        exact relStep_skip (j := 4) (want := true) (t := 9) rfl rfl (by rw [d4]; simp [boolOf, undef]) ⟨Ext.refl _, rfl⟩
      have e := Option.some.inj ho
      subst e
      have d4 : (gF 9) = .bool false := hdep ⟨4, .data⟩ (by simp) rfl _ _ rfl rfl
      have d9 : (gF 14) = undef := hdep ⟨9, .data⟩ (by simp) rfl _ _ rfl rfl
      clear hag hdep ho
      refine relStep_off rfl ?_
      rotate_left
      have e := Option.some.inj ho
      subst e
      have d10 : (gF 15) = .bool false := hdep ⟨10, .data⟩ (by simp) rfl _ _ rfl rfl
      clear hag hdep ho
      refine relStep_off rfl ?_
      rotate_left
      · have e := Option.some.inj ho
        subst e
        have a2 := hag.at 2 KR
        simp only [S5, ↓reduceIte, Nat.reduceEqDiff, initF, *] at a2
        have d11 : (gF 16) = .bool false := hdep ⟨11, .guard⟩ (by simp) rfl _ _ rfl rfl
        clear hag hdep ho
        exact relStep_skip (j := 11) (want := true) (t := 16) rfl rfl (by rw [d11]; simp [boolOf, undef]) ⟨Ext.refl _, rfl⟩
      · have e := Option.some.inj ho
        subst e
        have d12 : (gF 17) = undef := hdep ⟨12, .data⟩ (by simp) rfl _ _ rfl rfl
        have d11 : (gF 16) = .bool false := hdep ⟨11, .guard⟩ (by simp) rfl _ _ rfl rfl
        clear hag hdep ho
        exact relStep_skip (j := 11) (want := true) (t := 16) rfl rfl (by rw [d11]; simp [boolOf, undef]) ⟨Ext.refl _, rfl⟩
      · have e := Option.some.inj ho
        subst e
        have d13 : (gF 18) = undef := hdep ⟨13, .data⟩ (by simp) rfl _ _ rfl rfl
        have d11 : (gF 16) = .bool false := hdep ⟨11, .guard⟩ (by simp) rfl _ _ rfl rfl
        clear hag hdep ho
        exact relStep_skip (j := 11) (want := true) (t := 16) rfl rfl (by rw [d11]; simp [boolOf, undef]) ⟨Ext.refl _, rfl⟩
      · have e := Option.some.inj ho
        subst e
        have d14 : (gF 19) = undef := hdep ⟨14, .data⟩ (by simp) rfl _ _ rfl rfl
        have d11 : (gF 16) = .bool false := hdep ⟨11, .guard⟩ (by simp) rfl _ _ rfl rfl
        clear hag hdep ho
        exact relStep_skip (j := 11) (want := true) (t := 16) rfl rfl (by rw [d11]; simp [boolOf, undef]) ⟨Ext.refl _, rfl⟩
      have e := Option.some.inj ho
      subst e
      have d11 : (gF 16) = .bool false := hdep ⟨11, .data⟩ (by simp) rfl _ _ rfl rfl
      have d15 : (gF 20) = undef := hdep ⟨15, .data⟩ (by simp) rfl _ _ rfl rfl
      clear hag hdep ho
      refine relStep_off rfl ?_
      rotate_left
      · omega
      all_goals (repeat' first
    | ((with_reducible refine at_row ?_); refine row1_a fun _ _ _ _ _ _ _ => ?_)
    | with_reducible first | (first | apply alloc_k | apply row_k); intro _ _ _ _ _ _ | (first | apply fork | apply forkp) <;> intro _ | refine forke (fun _ => ?_) fun _ _ => ?_ | refine tail_k fun _ _ _ => ?_ | refine ext_k fun _ _ _ => ?_ | refine need_a ?_ | refine st_agg KR rfl ON fun _ _ _ _ => ?_ | refine wpd_q_a ?_
    | ((with_reducible refine at_f 111 ?_); refine ret_k (hin.out _ _ _ FR FR (Nat.le_refl _) (row_sl hb2 rfl (by simp))) fun _ _ _ => ?_)
    | ((with_reducible refine at_f 54 ?_); refine ret_k (stepReplica) fun _ _ _ => ?_)
    | simp (maxDischargeDepth := 3) only [↓X, ↓Y, ↓Q, S1, ↓reduceIte, Nat.reduceEqDiff, Nat.reduceAdd, Int.reduceLT, Int.reduceLE, Int.reduceNeg, Int.reduceBEq, Int.reduceBNe, Int.reduceEq, Nat.reduceLeDiff, Nat.reduceMul, Nat.reduceLT, *, stepV, stepC]
    | simp (singlePass := true) (maxDischargeDepth := 99) only [*, S2, Nat.reduceLT, stepV, stepC])
    · intro g9 w9 hx9 hR hag
      have s9 := hx9.st
      have n9 : Now w9 := trivial
      have r9 := Ext.refl w9
      have z9 := hx9.size
      have d16 : (g9 21) = .bool false := hR 16 _ _ (by decide) rfl rfl
      clear hag hR
      simp only [List.drop_succ_cons, List.drop_zero]
      (repeat' first
    | ((with_reducible refine at_row ?_); refine row1_a fun _ _ _ _ _ _ _ => ?_)
    | with_reducible first | (first | apply alloc_k | apply row_k); intro _ _ _ _ _ _ | (first | apply fork | apply forkp) <;> intro _ | refine forke (fun _ => ?_) fun _ _ => ?_ | refine tail_k fun _ _ _ => ?_ | refine ext_k fun _ _ _ => ?_ | refine need_a ?_ | refine st_agg KR rfl ON fun _ _ _ _ => ?_ | refine wpd_q_a ?_
    | simp (maxDischargeDepth := 3) only [↓X, ↓Y, ↓Q, S1, ↓reduceIte, Nat.reduceEqDiff, Nat.reduceAdd, Int.reduceLT, Int.reduceLE, Int.reduceNeg, Int.reduceBEq, Int.reduceBNe, Int.reduceEq, Nat.reduceLeDiff, Nat.reduceMul, Nat.reduceLT, *]
    | simp (singlePass := true) (maxDischargeDepth := 99) only [*, S2, Nat.reduceLT])
  · cases h
    · skip
      unfold wpdH
      refine wpd_rel 17 (fun iI v w9 => match iI with
        | 0 => v = .agg #[hv, rv]
        | 1 => v = stepV st
        | 2 => ∃ b, v = .slice (some ⟨b, 0, none⟩) 1 1 ∧ Blk w9 b 74 [.int .u8 0] ∧ w3.heap.size ≤ b
        | 3 => v = .bool true
        | 4 => v = .bool true
        | 5 => v = .agg #[hv, rv]
        | 6 => v = stepV st
        | 7 => v = replicaV (replOf st)
        | 8 => v = .bool false
        | 9 => v = .bool true
        | 10 => v = .bool true
        | 11 => v = .bool true
        | 12 => v = .pointer (some ⟨b2, 1, none⟩)
        | 13 => v = rv
        | 14 => v = natV x.replicas.length
        | 15 => v = .bool (decide (x.replicas.length < 24))
        | 16 => v = .bool (decide (x.replicas.length < 24))
        | _ => False) KR KR KR ?_ ?_ ?_
      · intro iI v w1 w2 hR hx9
        match iI, hR with
        | 0, h => exact h
        | 1, h => exact h
        | 2, ⟨b, e, h1, h2⟩ => exact ⟨b, e, h1.ext hx9, h2⟩
        | 3, h => exact h
        | 4, h => exact h
        | 5, h => exact h
        | 6, h => exact h
        | 7, h => exact h
        | 8, h => exact h
        | 9, h => exact h
        | 10, h => exact h
        | 11, h => exact h
        | 12, h => exact h
        | 13, h => exact h
        | 14, h => exact h
        | 15, h => exact h
        | 16, h => exact h
      · intro iI oO hi ho gF w9 hx9 hdep hag
        have s9 := hx9.st
        have n9 : Now w9 := trivial
        have r9 := Ext.refl w9
        have z9 := hx9.size
        rcases iI with _|_|_|_|_|_|_|_|_|_|_|_|_|_|_|_|_|iI
        have e := Option.some.inj ho
        subst e
        have a2 := hag.at 2 KR
        simp only [S5, ↓reduceIte, Nat.reduceEqDiff, initF, *] at a2
        clear hag hdep ho
        refine relStep_off rfl ?_
        rotate_left
        have e := Option.some.inj ho
        subst e
        have a3 := hag.at 3 KR
        simp only [S5, ↓reduceIte, Nat.reduceEqDiff, initF, *] at a3
        clear hag hdep ho
        refine relStep_off rfl ?_
        rotate_left
        · have e := Option.some.inj ho
          subst e
          clear hag hdep ho
          refine relStep_off rfl ?_
          (repeat' first
    | ((with_reducible refine at_row ?_); refine row1_a fun _ _ _ _ _ _ _ => ?_)
    | with_reducible first | (first | apply alloc_k | apply row_k); intro _ _ _ _ _ _ | (first | apply fork | apply forkp) <;> intro _ | refine forke (fun _ => ?_) fun _ _ => ?_ | refine tail_k fun _ _ _ => ?_ | refine ext_k fun _ _ _ => ?_ | refine need_a ?_ | refine st_agg KR rfl ON fun _ _ _ _ => ?_ | refine wpd_q_a ?_
    | ((with_reducible refine at_f 111 ?_); refine ret_k (hin.out _ _ _ FR FR (Nat.le_refl _) (row_sl hb2 rfl (by simp))) fun _ _ _ => ?_)
    | ((with_reducible refine at_f 54 ?_); refine ret_k (stepReplica) fun _ _ _ => ?_)
    | ((with_reducible refine at_f 100 ?_); refine ret_k (hha.out _ FR FR) fun _ _ _ => ?_)
    | simp (maxDischargeDepth := 3) only [↓X, ↓Y, ↓Q, S1, ↓reduceIte, Nat.reduceEqDiff, Nat.reduceAdd, Int.reduceLT, Int.reduceLE, Int.reduceNeg, Int.reduceBEq, Int.reduceBNe, Int.reduceEq, Nat.reduceLeDiff, Nat.reduceMul, Nat.reduceLT, *, stepV, stepC]
    | simp (singlePass := true) (maxDischargeDepth := 99) only [*, S2, Nat.reduceLT, stepV, stepC])
          first
            | (rename_i b10 w10 n10 k10 s10 q10; exact ⟨_, rfl, k10.2.1 _ k10.2.2.1, FR⟩)
            | (rename_i b10 w10 n10 k10 s10 q10 l10; exact ⟨_, rfl, k10.2.1 _ k10.2.2.1, FR⟩)
        have e := Option.some.inj ho
        subst e
        have d0 : (gF 5) = .agg #[hv, rv] := hdep ⟨0, .data⟩ (by simp) rfl _ _ rfl rfl
        have d1 : (gF 6) = stepV st := hdep ⟨1, .data⟩ (by simp) rfl _ _ rfl rfl
        have d2 : ∃ b, (gF 7) = .slice (some ⟨b, 0, none⟩) 1 1 ∧ Blk w9 b 74 [.int .u8 0] ∧ w3.heap.size ≤ b := hdep ⟨2, .data⟩ (by simp) rfl _ _ rfl rfl
        obtain ⟨b2, e2, hb2, q2⟩ := d2
        have k2 := hb2.bk
        have nw2 := Nw.of q2
        clear hag hdep ho
        refine relStep_off rfl ?_
        rotate_left
        have e := Option.some.inj ho
        subst e
        have d3 : (gF 8) = .bool true := hdep ⟨3, .data⟩ (by simp) rfl _ _ rfl rfl
        clear hag hdep ho
        refine relStep_off rfl ?_
        rotate_left
        have e := Option.some.inj ho
        subst e
        have a2 := hag.at 2 KR
        simp only [S5, ↓reduceIte, Nat.reduceEqDiff, initF, *] at a2
        have d4 : (gF 9) = .bool true := hdep ⟨4, .guard⟩ (by simp) rfl _ _ rfl rfl
        clear hag hdep ho
        refine relStep_on (j := 4) (want := true) (t := 9) rfl rfl (by rw [d4]; rfl) ?_
        rotate_left
        have e := Option.some.inj ho
        subst e
        have a3 := hag.at 3 KR
        simp only [S5, ↓reduceIte, Nat.reduceEqDiff, initF, *] at a3
        have d4 : (gF 9) = .bool true := hdep ⟨4, .guard⟩ (by simp) rfl _ _ rfl rfl
        clear hag hdep ho
        refine relStep_on (j := 4) (want := true) (t := 9) rfl rfl (by rw [d4]; rfl) ?_
        rotate_left
        have e := Option.some.inj ho
        subst e
        have d6 : (gF 11) = stepV st := hdep ⟨6, .data⟩ (by simp) rfl _ _ rfl rfl
        have d4 : (gF 9) = .bool true := hdep ⟨4, .guard⟩ (by simp) rfl _ _ rfl rfl
        clear hag hdep ho
        refine relStep_on (j := 4) (want := true) (t := 9) rfl rfl (by rw [d4]; rfl) ?_
        rotate_left
        have e := Option.some.inj ho
        subst e
        have d5 : (gF 10) = .agg #[hv, rv] := hdep ⟨5, .data⟩ (by simp) rfl _ _ rfl rfl
        have d7 : (gF 12) = replicaV (replOf st) := hdep ⟨7, .data⟩ (by simp) rfl _ _ rfl rfl
        have d4 : (gF 9) = .bool true := hdep ⟨4, .guard⟩ (by simp) rfl _ _ rfl rfl
        clear hag hdep ho
        refine relStep_on (j := 4) (want := true) (t := 9) rfl rfl (by rw [d4]; rfl) ?_
        rotate_left
        have e := Option.some.inj ho
        subst e
        have d8 : (gF 13) = .bool false := hdep ⟨8, .data⟩ (by simp) rfl _ _ rfl rfl
        have d4 : (gF 9) = .bool true := hdep ⟨4, .guard⟩ (by simp) rfl _ _ rfl rfl
        clear hag hdep ho
        refine relStep_on (j := 4) (want := true) (t := 9) rfl rfl (by rw [d4]; rfl) ?_
        rotate_left
        have e := Option.some.inj ho
        subst e
        have d4 : (gF 9) = .bool true := hdep ⟨4, .data⟩ (by simp) rfl _ _ rfl rfl
        have d9 : (gF 14) = .bool true := hdep ⟨9, .data⟩ (by simp) rfl _ _ rfl rfl
        clear hag hdep ho
        refine relStep_off rfl ?_
        rotate_left
        have e := Option.some.inj ho
        subst e
        have d10 : (gF 15) = .bool true := hdep ⟨10, .data⟩ (by simp) rfl _ _ rfl rfl
        clear hag hdep ho
        refine relStep_off rfl ?_
        rotate_left
        have e := Option.some.inj ho
        subst e
        have a2 := hag.at 2 KR
        simp only [S5, ↓reduceIte, Nat.reduceEqDiff, initF, *] at a2
        have d11 : (gF 16) = .bool true := hdep ⟨11, .guard⟩ (by simp) rfl _ _ rfl rfl
        clear hag hdep ho
        refine relStep_on (j := 11) (want := true) (t := 16) rfl rfl (by rw [d11]; rfl) ?_
        rotate_left
        have e := Option.some.inj ho
        subst e
        have d12 : (gF 17) = .pointer (some ⟨b2, 1, none⟩) := hdep ⟨12, .data⟩ (by simp) rfl _ _ rfl rfl
        have d11 : (gF 16) = .bool true := hdep ⟨11, .guard⟩ (by simp) rfl _ _ rfl rfl
        clear hag hdep ho
        refine relStep_on (j := 11) (want := true) (t := 16) rfl rfl (by rw [d11]; rfl) ?_
        rotate_left
        have e := Option.some.inj ho
        subst e
        have d13 : (gF 18) = rv := hdep ⟨13, .data⟩ (by simp) rfl _ _ rfl rfl
        have d11 : (gF 16) = .bool true := hdep ⟨11, .guard⟩ (by simp) rfl _ _ rfl rfl
        clear hag hdep ho
        refine relStep_on (j := 11) (want := true) (t := 16) rfl rfl (by rw [d11]; rfl) ?_
        rotate_left
        have e := Option.some.inj ho
        subst e
        have d14 : (gF 19) = natV x.replicas.length := hdep ⟨14, .data⟩ (by simp) rfl _ _ rfl rfl
        have d11 : (gF 16) = .bool true := hdep ⟨11, .guard⟩ (by simp) rfl _ _ rfl rfl
        clear hag hdep ho
        refine relStep_on (j := 11) (want := true) (t := 16) rfl rfl (by rw [d11]; rfl) ?_
        rotate_left
        have e := Option.some.inj ho
        subst e
        have d11 : (gF 16) = .bool true := hdep ⟨11, .data⟩ (by simp) rfl _ _ rfl rfl
        have d15 : (gF 20) = .bool (decide (x.replicas.length < 24)) := hdep ⟨15, .data⟩ (by simp) rfl _ _ rfl rfl
        clear hag hdep ho
        refine relStep_off rfl ?_
        rotate_left
        · omega
        all_goals (repeat' first
    | ((with_reducible refine at_row ?_); refine row1_a fun _ _ _ _ _ _ _ => ?_)
    | with_reducible first | (first | apply alloc_k | apply row_k); intro _ _ _ _ _ _ | (first | apply fork | apply forkp) <;> intro _ | refine forke (fun _ => ?_) fun _ _ => ?_ | refine tail_k fun _ _ _ => ?_ | refine ext_k fun _ _ _ => ?_ | refine need_a ?_ | refine st_agg KR rfl ON fun _ _ _ _ => ?_ | refine wpd_q_a ?_
    | ((with_reducible refine at_f 111 ?_); refine ret_k (hin.out _ _ _ FR FR (Nat.le_refl _) (row_sl hb2 rfl (by simp))) fun _ _ _ => ?_)
    | ((with_reducible refine at_f 54 ?_); refine ret_k (stepReplica) fun _ _ _ => ?_)
    | ((with_reducible refine at_f 100 ?_); refine ret_k (hha.out _ FR FR) fun _ _ _ => ?_)
    | simp (maxDischargeDepth := 3) only [↓X, ↓Y, ↓Q, S1, ↓reduceIte, Nat.reduceEqDiff, Nat.reduceAdd, Int.reduceLT, Int.reduceLE, Int.reduceNeg, Int.reduceBEq, Int.reduceBNe, Int.reduceEq, Nat.reduceLeDiff, Nat.reduceMul, Nat.reduceLT, *, stepV, stepC]
    | simp (singlePass := true) (maxDischargeDepth := 99) only [*, S2, Nat.reduceLT, stepV, stepC])
      · intro g9 w9 hx9 hR hag
        have s9 := hx9.st
        have n9 : Now w9 := trivial
        have r9 := Ext.refl w9
        have z9 := hx9.size
        have d16 : (g9 21) = .bool (decide (x.replicas.length < 24)) := hR 16 _ _ (by decide) rfl rfl
        clear hag hR
        simp only [List.drop_succ_cons, List.drop_zero]
        (repeat' first
    | ((with_reducible refine at_row ?_); refine row1_a fun _ _ _ _ _ _ _ => ?_)
    | with_reducible first | (first | apply alloc_k | apply row_k); intro _ _ _ _ _ _ | (first | apply fork | apply forkp) <;> intro _ | refine forke (fun _ => ?_) fun _ _ => ?_ | refine tail_k fun _ _ _ => ?_ | refine ext_k fun _ _ _ => ?_ | refine need_a ?_ | refine st_agg KR rfl ON fun _ _ _ _ => ?_ | refine wpd_q_a ?_
    | simp (maxDischargeDepth := 3) only [↓X, ↓Y, ↓Q, S1, ↓reduceIte, Nat.reduceEqDiff, Nat.reduceAdd, Int.reduceLT, Int.reduceLE, Int.reduceNeg, Int.reduceBEq, Int.reduceBNe, Int.reduceEq, Nat.reduceLeDiff, Nat.reduceMul, Nat.reduceLT, *]
    | simp (singlePass := true) (maxDischargeDepth := 99) only [*, S2, Nat.reduceLT])
    · skip
      unfold wpdH
      refine wpd_rel 17 (fun iI v w9 => match iI with
        | 0 => v = .agg #[hv, rv]
        | 1 => v = stepV st
        | 2 => ∃ b, v = .slice (some ⟨b, 0, none⟩) 1 1 ∧ Blk w9 b 74 [.int .u8 0] ∧ w3.heap.size ≤ b
        | 3 => v = .bool true
        | 4 => v = .bool true
        | 5 => v = .agg #[hv, rv]
        | 6 => v = stepV st
        | 7 => v = replicaV (replOf st)
        | 8 => v = .bool true
        | 9 => v = .bool false
        | 10 => v = .bool false
        | 11 => v = .bool false
        | 12 => v = undef
        | 13 => v = undef
        | 14 => v = undef
        | 15 => v = undef
        | 16 => v = .bool false
        | _ => False) KR KR KR ?_ ?_ ?_
      · intro iI v w1 w2 hR hx9
        match iI, hR with
        | 0, h => exact h
        | 1, h => exact h
        | 2, ⟨b, e, h1, h2⟩ => exact ⟨b, e, h1.ext hx9, h2⟩
        | 3, h => exact h
        | 4, h => exact h
        | 5, h => exact h
        | 6, h => exact h
        | 7, h => exact h
        | 8, h => exact h
        | 9, h => exact h
        | 10, h => exact h
        | 11, h => exact h
        | 12, h => exact h
        | 13, h => exact h
        | 14, h => exact h
        | 15, h => exact h
        | 16, h => exact h
      · intro iI oO hi ho gF w9 hx9 hdep hag
        have s9 := hx9.st
        have n9 : Now w9 := trivial
        have r9 := Ext.refl w9
        have z9 := hx9.size
        rcases iI with _|_|_|_|_|_|_|_|_|_|_|_|_|_|_|_|_|iI
        have e := Option.some.inj ho
        subst e
        have a2 := hag.at 2 KR
        simp only [S5, ↓reduceIte, Nat.reduceEqDiff, initF, *] at a2
        clear hag hdep ho
        refine relStep_off rfl ?_
        rotate_left
        have e := Option.some.inj ho
        subst e
        have a3 := hag.at 3 KR
        simp only [S5, ↓reduceIte, Nat.reduceEqDiff, initF, *] at a3
        clear hag hdep ho
        refine relStep_off rfl ?_
        rotate_left
        · have e := Option.some.inj ho
          subst e
          clear hag hdep ho
          refine relStep_off rfl ?_
          (repeat' first
    | ((with_reducible refine at_row ?_); refine row1_a fun _ _ _ _ _ _ _ => ?_)
    | with_reducible first | (first | apply alloc_k | apply row_k); intro _ _ _ _ _ _ | (first | apply fork | apply forkp) <;> intro _ | refine forke (fun _ => ?_) fun _ _ => ?_ | refine tail_k fun _ _ _ => ?_ | refine ext_k fun _ _ _ => ?_ | refine need_a ?_ | refine st_agg KR rfl ON fun _ _ _ _ => ?_ | refine wpd_q_a ?_
    | ((with_reducible refine at_f 111 ?_); refine ret_k (hin.out _ _ _ FR FR (Nat.le_refl _) (row_sl hb2 rfl (by simp))) fun _ _ _ => ?_)
    | ((with_reducible refine at_f 54 ?_); refine ret_k (stepReplica) fun _ _ _ => ?_)
    | ((with_reducible refine at_f 100 ?_); refine ret_k (hha.out _ FR FR) fun _ _ _ => ?_)
    | simp (maxDischargeDepth := 3) only [↓X, ↓Y, ↓Q, S1, ↓reduceIte, Nat.reduceEqDiff, Nat.reduceAdd, Int.reduceLT, Int.reduceLE, Int.reduceNeg, Int.reduceBEq, Int.reduceBNe, Int.reduceEq, Nat.reduceLeDiff, Nat.reduceMul, Nat.reduceLT, *, stepV, stepC]
    | simp (singlePass := true) (maxDischargeDepth := 99) only [*, S2, Nat.reduceLT, stepV, stepC])
          first
            | (rename_i b10 w10 n10 k10 s10 q10; exact ⟨_, rfl, k10.2.1 _ k10.2.2.1, FR⟩)
            | (rename_i b10 w10 n10 k10 s10 q10 l10; exact ⟨_, rfl, k10.2.1 _ k10.2.2.1, FR⟩)
        have e := Option.some.inj ho
        subst e
        have d0 : (gF 5) = .agg #[hv, rv] := hdep ⟨0, .data⟩ (by simp) rfl _ _ rfl rfl
        have d1 : (gF 6) = stepV st := hdep ⟨1, .data⟩ (by simp) rfl _ _ rfl rfl
        have d2 : ∃ b, (gF 7) = .slice (some ⟨b, 0, none⟩) 1 1 ∧ Blk w9 b 74 [.int .u8 0] ∧ w3.heap.size ≤ b := hdep ⟨2, .data⟩ (by simp) rfl _ _ rfl rfl
        obtain ⟨b2, e2, hb2, q2⟩ := d2
        have k2 := hb2.bk
        have nw2 := Nw.of q2
        clear hag hdep ho
        refine relStep_off rfl ?_
        rotate_left
        have e := Option.some.inj ho
        subst e
        have d3 : (gF 8) = .bool true := hdep ⟨3, .data⟩ (by simp) rfl _ _ rfl rfl
        clear hag hdep ho
        refine relStep_off rfl ?_
        rotate_left
        have e := Option.some.inj ho
        subst e
        have a2 := hag.at 2 KR
        simp only [S5, ↓reduceIte, Nat.reduceEqDiff, initF, *] at a2
        have d4 : (gF 9) = .bool true := hdep ⟨4, .guard⟩ (by simp) rfl _ _ rfl rfl
        clear hag hdep ho
        refine relStep_on (j := 4) (want := true) (t := 9) rfl rfl (by rw [d4]; rfl) ?_
        rotate_left
        have e := Option.some.inj ho
        subst e
        have a3 := hag.at 3 KR
        simp only [S5, ↓reduceIte, Nat.reduceEqDiff, initF, *] at a3
        have d4 : (gF 9) = .bool true := hdep ⟨4, .guard⟩ (by simp) rfl _ _ rfl rfl
        clear hag hdep ho
        refine relStep_on (j := 4) (want := true) (t := 9) rfl rfl (by rw [d4]; rfl) ?_
        rotate_left
        have e := Option.some.inj ho
        subst e
        have d6 : (gF 11) = stepV st := hdep ⟨6, .data⟩ (by simp) rfl _ _ rfl rfl
        have d4 : (gF 9) = .bool true := hdep ⟨4, .guard⟩ (by simp) rfl _ _ rfl rfl
        clear hag hdep ho
        refine relStep_on (j := 4) (want := true) (t := 9) rfl rfl (by rw [d4]; rfl) ?_
        rotate_left
        have e := Option.some.inj ho
        subst e
        have d5 : (gF 10) = .agg #[hv, rv] := hdep ⟨5, .data⟩ (by simp) rfl _ _ rfl rfl
        have d7 : (gF 12) = replicaV (replOf st) := hdep ⟨7, .data⟩ (by simp) rfl _ _ rfl rfl
        have d4 : (gF 9) = .bool true := hdep ⟨4, .guard⟩ (by simp) rfl _ _ rfl rfl
        clear hag hdep ho
        refine relStep_on (j := 4) (want := true) (t := 9) rfl rfl (by rw [d4]; rfl) ?_
        rotate_left
        have e := Option.some.inj ho
        subst e
        have d8 : (gF 13) = .bool true := hdep ⟨8, .data⟩ (by simp) rfl _ _ rfl rfl
        have d4 : (gF 9) = .bool true := hdep ⟨4, .guard⟩ (by simp) rfl _ _ rfl rfl
        clear hag hdep ho
        refine relStep_on (j := 4) (want := true) (t := 9) rfl rfl (by rw [d4]; rfl) ?_
        rotate_left
        have e := Option.some.inj ho
        subst e
        have d4 : (gF 9) = .bool true := hdep ⟨4, .data⟩ (by simp) rfl _ _ rfl rfl
        have d9 : (gF 14) = .bool false := hdep ⟨9, .data⟩ (by simp) rfl _ _ rfl rfl
        clear hag hdep ho
        refine relStep_off rfl ?_
        rotate_left
        have e := Option.some.inj ho
        subst e
        have d10 : (gF 15) = .bool false := hdep ⟨10, .data⟩ (by simp) rfl _ _ rfl rfl
        clear hag hdep ho
        refine relStep_off rfl ?_
        rotate_left
        · have e := Option.some.inj ho
          subst e
          have a2 := hag.at 2 KR
          simp only [S5, ↓reduceIte, Nat.reduceEqDiff, initF, *] at a2
          have d11 : (gF 16) = .bool false := hdep ⟨11, .guard⟩ (by simp) rfl _ _ rfl rfl
          clear hag hdep ho
          exact relStep_skip (j := 11) (want := true) (t := 16) rfl rfl (by rw [d11]; simp [boolOf, undef]) ⟨Ext.refl _, rfl⟩
        · have e := Option.some.inj ho
          subst e
          have d12 : (gF 17) = undef := hdep ⟨12, .data⟩ (by simp) rfl _ _ rfl rfl
          have d11 : (gF 16) = .bool false := hdep ⟨11, .guard⟩ (by simp) rfl _ _ rfl rfl
          clear hag hdep ho
          exact relStep_skip (j := 11) (want := true) (t := 16) rfl rfl (by rw [d11]; simp [boolOf, undef]) ⟨Ext.refl _, rfl⟩
        · have e := Option.some.inj ho
          subst e
          have d13 : (gF 18) = undef := hdep ⟨13, .data⟩ (by simp) rfl _ _ rfl rfl
          have d11 : (gF 16) = .bool false := hdep ⟨11, .guard⟩ (by simp) rfl _ _ rfl rfl
          clear hag hdep ho
          exact relStep_skip (j := 11) (want := true) (t := 16) rfl rfl (by rw [d11]; simp [boolOf, undef]) ⟨Ext.refl _, rfl⟩
        · have e := Option.some.inj ho
          subst e
          have d14 : (gF 19) = undef := hdep ⟨14, .data⟩ (by simp) rfl _ _ rfl rfl
          have d11 : (gF 16) = .bool false := hdep ⟨11, .guard⟩ (by simp) rfl _ _ rfl rfl
          clear hag hdep ho
          exact relStep_skip (j := 11) (want := true) (t := 16) rfl rfl (by rw [d11]; simp [boolOf, undef]) ⟨Ext.refl _, rfl⟩
        have e := Option.some.inj ho
        subst e
        have d11 : (gF 16) = .bool false := hdep ⟨11, .data⟩ (by simp) rfl _ _ rfl rfl
        have d15 : (gF 20) = undef := hdep ⟨15, .data⟩ (by simp) rfl _ _ rfl rfl
        clear hag hdep ho
        refine relStep_off rfl ?_
        rotate_left
        · omega
        all_goals (repeat' first
    | ((with_reducible refine at_row ?_); refine row1_a fun _ _ _ _ _ _ _ => ?_)
    | with_reducible first | (first | apply alloc_k | apply row_k); intro _ _ _ _ _ _ | (first | apply fork | apply forkp) <;> intro _ | refine forke (fun _ => ?_) fun _ _ => ?_ | refine tail_k fun _ _ _ => ?_ | refine ext_k fun _ _ _ => ?_ | refine need_a ?_ | refine st_agg KR rfl ON fun _ _ _ _ => ?_ | refine wpd_q_a ?_
    | ((with_reducible refine at_f 111 ?_); refine ret_k (hin.out _ _ _ FR FR (Nat.le_refl _) (row_sl hb2 rfl (by simp))) fun _ _ _ => ?_)
    | ((with_reducible refine at_f 54 ?_); refine ret_k (stepReplica) fun _ _ _ => ?_)
    | ((with_reducible refine at_f 100 ?_); refine ret_k (hha.out _ FR FR) fun _ _ _ => ?_)
    | simp (maxDischargeDepth := 3) only [↓X, ↓Y, ↓Q, S1, ↓reduceIte, Nat.reduceEqDiff, Nat.reduceAdd, Int.reduceLT, Int.reduceLE, Int.reduceNeg, Int.reduceBEq, Int.reduceBNe, Int.reduceEq, Nat.reduceLeDiff, Nat.reduceMul, Nat.reduceLT, *, stepV, stepC]
    | simp (singlePass := true) (maxDischargeDepth := 99) only [*, S2, Nat.reduceLT, stepV, stepC])
      · intro g9 w9 hx9 hR hag
        have s9 := hx9.st
        have n9 : Now w9 := trivial
        have r9 := Ext.refl w9
        have z9 := hx9.size
        have d16 : (g9 21) = .bool false := hR 16 _ _ (by decide) rfl rfl
        clear hag hR
        simp only [List.drop_succ_cons, List.drop_zero]
        (repeat' first
    | ((with_reducible refine at_row ?_); refine row1_a fun _ _ _ _ _ _ _ => ?_)
    | with_reducible first | (first | apply alloc_k | apply row_k); intro _ _ _ _ _ _ | (first | apply fork | apply forkp) <;> intro _ | refine forke (fun _ => ?_) fun _ _ => ?_ | refine tail_k fun _ _ _ => ?_ | refine ext_k fun _ _ _ => ?_ | refine need_a ?_ | refine st_agg KR rfl ON fun _ _ _ _ => ?_ | refine wpd_q_a ?_
    | simp (maxDischargeDepth := 3) only [↓X, ↓Y, ↓Q, S1, ↓reduceIte, Nat.reduceEqDiff, Nat.reduceAdd, Int.reduceLT, Int.reduceLE, Int.reduceNeg, Int.reduceBEq, Int.reduceBNe, Int.reduceEq, Nat.reduceLeDiff, Nat.reduceMul, Nat.reduceLT, *]
    | simp (singlePass := true) (maxDischargeDepth := 99) only [*, S2, Nat.reduceLT])
end
end Go.Proofs.YtmcdgepfhpakiaaGreat
