
/- The layer drift: what an effect does to a replica. -/
import Derived.Test.YtmcdgepfhpakiaaDrift6
namespace Go.Proofs.Ytmcdgepfhpakiaa
set_option linter.unusedSimpArgs false
set_option linter.unusedVariables false
open Go Go.RowKit
set_option maxRecDepth 100000
set_option linter.unusedSectionVars false
set_option maxHeartbeats 2000000
section
variable {w : World} {B : Nat} {hv rv : Value} {x : WorldD} {d : DriftD}
theorem driftEff2 : Ret Try.prog 32 #[driftV d] w (replicaV ⟨d.service, d.host⟩) := by
  have hn : Now w := trivial
  have hx : Ext w w := Ext.refl w
  (refine callsV_of Try.func32 rfl KR KR ?_; rw [Try.results32])
  (repeat' first
    | ((with_reducible refine at_row ?_); refine row1_a fun _ _ _ _ _ _ _ => ?_)
    | with_reducible first | (first | apply alloc_k | apply row_k); intro _ _ _ _ _ _ | (first | apply fork | apply forkp) <;> intro _ | refine forke (fun _ => ?_) fun _ _ => ?_ | refine tail_k fun _ _ _ => ?_ | refine ext_k fun _ _ _ => ?_ | refine need_a ?_ | refine st_agg KR rfl ON fun _ _ _ _ => ?_ | refine wpd_q_a ?_
    | simp (maxDischargeDepth := 3) only [↓X, ↓Y, ↓Q, S1, ↓reduceIte, Nat.reduceEqDiff, Nat.reduceAdd, Int.reduceLT, Int.reduceLE, Int.reduceNeg, Int.reduceBEq, Int.reduceBNe, Int.reduceEq, Nat.reduceLeDiff, Nat.reduceMul, Nat.reduceLT, *, driftV, driftC, replicaV]
    | simp (singlePass := true) (maxDischargeDepth := 99) only [*, S2, Nat.reduceLT, driftV, driftC, replicaV])
theorem driftEff5 {b3 : Nat} (hB : B ≤ w.heap.size) (hx0 : WorldR w B hv rv x) (hl1 : x.hosts.length ≤ 1000000) (hl2 : x.replicas.length ≤ 1000000) (h3 : Blk w b3 tEff3 effC3) (hk : d.kind = 1) :
    CallsV Try.prog 37 #[.agg #[hv, rv], driftV d, .pointer (some ⟨b3, 0, none⟩)] w fun v w' => Ext w w' ∧ ∃ u, v = .tuple #[u, intV (oneE x d)] ∧ OwnW w.heap.size u w' (oneR x d) := by
  have hn : Now w := trivial
  have hx : Ext w w := Ext.refl w
  have hx' := hx0.sk hB
  have hX := hx'.2.2.2.2
  have hl1 : Hid _ := hl1
  have hl2 : Hid _ := hl2
  have k3 := h3.bk
  have hcal : callable Try.prog 32 = true := by kernel_rfl
  have hk3 : ¬ d.kind = 3 := by omega
  have hk4 : ¬ d.kind = 4 := by omega
  have e1 : oneE x d = stopE x ⟨d.service, d.host⟩ := by simp [oneE, hk]
  have e2 : oneR x d = stopW x ⟨d.service, d.host⟩ := by
    unfold oneR
    rw [e1]
    unfold stopW
    by_cases h : stopE x ⟨d.service, d.host⟩ = 0 <;> simp [h, oneW, hk, stopW]
  rw [e1, e2]
  clear e1 e2 hk hk3 hk4
  have hrep : ∀ w', Ret Try.prog 32 #[driftV d] w' (replicaV ⟨d.service, d.host⟩) := fun _ => driftEff2
  have hE : Hid (stopE x ⟨d.service, d.host⟩ = stopE x ⟨d.service, d.host⟩) := rfl
  generalize hE0 : stopE x ⟨d.service, d.host⟩ = E at hE
  generalize hW0 : stopW x ⟨d.service, d.host⟩ = W
  replace hE0 : Hid _ := hE0
  replace hW0 : Hid _ := hW0
  clear hE
  (refine callsV_of Try.func37 rfl KR KR ?_; rw [Try.results37])
  (repeat' first
    | ((with_reducible refine wpd_at 1 ?_); refine wpd_hold ?_)
    | ((with_reducible refine at_row ?_); refine row1_a fun _ _ _ _ _ _ _ => ?_)
    | with_reducible first | (first | apply alloc_k | apply row_k); intro _ _ _ _ _ _ | (first | apply fork | apply forkp) <;> intro _ | refine forke (fun _ => ?_) fun _ _ => ?_ | refine tail_k fun _ _ _ => ?_ | refine ext_k fun _ _ _ => ?_ | refine need_a ?_ | refine st_agg KR rfl ON fun _ _ _ _ => ?_ | refine wpd_q_a ?_
    | simp (maxDischargeDepth := 3) only [↓X, ↓Y, ↓Q, S1, ↓reduceIte, Nat.reduceEqDiff, Nat.reduceAdd, Int.reduceLT, Int.reduceLE, Int.reduceNeg, Int.reduceBEq, Int.reduceBNe, Int.reduceEq, Nat.reduceLeDiff, Nat.reduceMul, Nat.reduceLT, *, driftV, driftC, effC3]
    | simp (singlePass := true) (maxDischargeDepth := 99) only [*, S2, Nat.reduceLT, driftV, driftC, effC3])
  rename_i b2 w2 n2 k2 s2 q2 b4 w4 n4 k4 s4 q4 b5 w5 n5 k5 s5 q5
  have z5 : w.heap.size ≤ w5.heap.size := FR
  have r5 := Ext.refl w5
  unfold wpdH
  refine wpd_rel 7 (fun iI v w9 => match iI with
    | 0 => v = .agg #[hv, rv]
    | 1 => v = .func (.func 32) #[] #[]
    | 2 => v = driftV d
    | 3 => v = replicaV ⟨d.service, d.host⟩
    | 4 => ∃ u0, v = .tuple #[u0, intV E] ∧ OwnW w5.heap.size u0 w9 W
    | 5 => OwnW w5.heap.size v w9 W
    | 6 => v = intV E
    | _ => False) KR KR KR ?_ ?_ ?_
  · intro iI v w1 w2 hR hx9
    match iI, hR with
    | 0, h => exact h
    | 1, h => exact h
    | 2, h => exact h
    | 3, h => exact h
    | 4, h => exact (let ⟨u0, e, o⟩ := h; ⟨u0, e, o.ext hx9⟩)
    | 5, h => exact OwnW.ext h hx9
    | 6, h => exact h
  · intro iI oO hi ho gF w9 hx9 hdep hag
    have s9 := hx9.st
    have n9 : Now w9 := trivial
    have r9 := Ext.refl w9
    have z9 := hx9.size
    rcases iI with _|_|_|_|_|_|_|iI
    · have e := Option.some.inj ho
      subst e
      have a3 := hag.at 3 KR
      simp only [S5, ↓reduceIte, Nat.reduceEqDiff, initF, *] at a3
      clear hag hdep ho
      refine relStep_off rfl ?_
      (repeat' first
    | ((with_reducible refine at_row ?_); refine row1_a fun _ _ _ _ _ _ _ => ?_)
    | with_reducible first | (first | apply alloc_k | apply row_k); intro _ _ _ _ _ _ | (first | apply fork | apply forkp) <;> intro _ | refine forke (fun _ => ?_) fun _ _ => ?_ | refine tail_k fun _ _ _ => ?_ | refine ext_k fun _ _ _ => ?_ | refine need_a ?_ | refine st_agg KR rfl ON fun _ _ _ _ => ?_ | refine wpd_q_a ?_
    | ((with_reducible refine at_f 32 ?_); refine ret_k (hrep _) fun _ _ _ => ?_)
    | simp (maxDischargeDepth := 3) only [↓X, ↓Y, ↓Q, S1, ↓reduceIte, Nat.reduceEqDiff, Nat.reduceAdd, Int.reduceLT, Int.reduceLE, Int.reduceNeg, Int.reduceBEq, Int.reduceBNe, Int.reduceEq, Nat.reduceLeDiff, Nat.reduceMul, Nat.reduceLT, *, driftV, driftC, effC3]
    | simp (singlePass := true) (maxDischargeDepth := 99) only [*, S2, Nat.reduceLT, driftV, driftC, effC3])
    · have e := Option.some.inj ho
      subst e
      have a2 := hag.at 2 KR
      simp only [S5, ↓reduceIte, Nat.reduceEqDiff, initF, *] at a2
      clear hag hdep ho
      refine relStep_off rfl ?_
      (repeat' first
    | ((with_reducible refine at_row ?_); refine row1_a fun _ _ _ _ _ _ _ => ?_)
    | with_reducible first | (first | apply alloc_k | apply row_k); intro _ _ _ _ _ _ | (first | apply fork | apply forkp) <;> intro _ | refine forke (fun _ => ?_) fun _ _ => ?_ | refine tail_k fun _ _ _ => ?_ | refine ext_k fun _ _ _ => ?_ | refine need_a ?_ | refine st_agg KR rfl ON fun _ _ _ _ => ?_ | refine wpd_q_a ?_
    | ((with_reducible refine at_f 32 ?_); refine ret_k (hrep _) fun _ _ _ => ?_)
    | simp (maxDischargeDepth := 3) only [↓X, ↓Y, ↓Q, S1, ↓reduceIte, Nat.reduceEqDiff, Nat.reduceAdd, Int.reduceLT, Int.reduceLE, Int.reduceNeg, Int.reduceBEq, Int.reduceBNe, Int.reduceEq, Nat.reduceLeDiff, Nat.reduceMul, Nat.reduceLT, *, driftV, driftC, effC3]
    | simp (singlePass := true) (maxDischargeDepth := 99) only [*, S2, Nat.reduceLT, driftV, driftC, effC3])
    · have e := Option.some.inj ho
      subst e
      have a4 := hag.at 4 KR
      simp only [S5, ↓reduceIte, Nat.reduceEqDiff, initF, *] at a4
      clear hag hdep ho
      refine relStep_off rfl ?_
      (repeat' first
    | ((with_reducible refine at_row ?_); refine row1_a fun _ _ _ _ _ _ _ => ?_)
    | with_reducible first | (first | apply alloc_k | apply row_k); intro _ _ _ _ _ _ | (first | apply fork | apply forkp) <;> intro _ | refine forke (fun _ => ?_) fun _ _ => ?_ | refine tail_k fun _ _ _ => ?_ | refine ext_k fun _ _ _ => ?_ | refine need_a ?_ | refine st_agg KR rfl ON fun _ _ _ _ => ?_ | refine wpd_q_a ?_
    | ((with_reducible refine at_f 32 ?_); refine ret_k (hrep _) fun _ _ _ => ?_)
    | simp (maxDischargeDepth := 3) only [↓X, ↓Y, ↓Q, S1, ↓reduceIte, Nat.reduceEqDiff, Nat.reduceAdd, Int.reduceLT, Int.reduceLE, Int.reduceNeg, Int.reduceBEq, Int.reduceBNe, Int.reduceEq, Nat.reduceLeDiff, Nat.reduceMul, Nat.reduceLT, *, driftV, driftC, effC3]
    | simp (singlePass := true) (maxDischargeDepth := 99) only [*, S2, Nat.reduceLT, driftV, driftC, effC3])
    · have e := Option.some.inj ho
      subst e
      have d1 : (gF 8) = .func (.func 32) #[] #[] := hdep ⟨1, .data⟩ (by simp) rfl _ _ rfl rfl
      have d2 : (gF 9) = driftV d := hdep ⟨2, .data⟩ (by simp) rfl _ _ rfl rfl
      clear hag hdep ho
      refine relStep_off rfl ?_
      (repeat' first
    | ((with_reducible refine at_row ?_); refine row1_a fun _ _ _ _ _ _ _ => ?_)
    | with_reducible first | (first | apply alloc_k | apply row_k); intro _ _ _ _ _ _ | (first | apply fork | apply forkp) <;> intro _ | refine forke (fun _ => ?_) fun _ _ => ?_ | refine tail_k fun _ _ _ => ?_ | refine ext_k fun _ _ _ => ?_ | refine need_a ?_ | refine st_agg KR rfl ON fun _ _ _ _ => ?_ | refine wpd_q_a ?_
    | ((with_reducible refine at_f 32 ?_); refine ret_k (hrep _) fun _ _ _ => ?_)
    | simp (maxDischargeDepth := 3) only [↓X, ↓Y, ↓Q, S1, ↓reduceIte, Nat.reduceEqDiff, Nat.reduceAdd, Int.reduceLT, Int.reduceLE, Int.reduceNeg, Int.reduceBEq, Int.reduceBNe, Int.reduceEq, Nat.reduceLeDiff, Nat.reduceMul, Nat.reduceLT, *, driftV, driftC, effC3]
    | simp (singlePass := true) (maxDischargeDepth := 99) only [*, S2, Nat.reduceLT, driftV, driftC, effC3])
    · have e := Option.some.inj ho
      subst e
      have d0 : (gF 7) = .agg #[hv, rv] := hdep ⟨0, .data⟩ (by simp) rfl _ _ rfl rfl
      have d3 : (gF 10) = replicaV ⟨d.service, d.host⟩ := hdep ⟨3, .data⟩ (by simp) rfl _ _ rfl rfl
      clear hag hdep ho
      refine relStep_off rfl ?_
      (repeat' first
    | ((with_reducible refine at_row ?_); refine row1_a fun _ _ _ _ _ _ _ => ?_)
    | with_reducible first | (first | apply alloc_k | apply row_k); intro _ _ _ _ _ _ | (first | apply fork | apply forkp) <;> intro _ | refine forke (fun _ => ?_) fun _ _ => ?_ | refine tail_k fun _ _ _ => ?_ | refine ext_k fun _ _ _ => ?_ | refine need_a ?_ | refine st_agg KR rfl ON fun _ _ _ _ => ?_ | refine wpd_q_a ?_
    | ((with_reducible refine at_f 32 ?_); refine ret_k (hrep _) fun _ _ _ => ?_)
    | simp (maxDischargeDepth := 3) only [↓X, ↓Y, ↓Q, S1, ↓reduceIte, Nat.reduceEqDiff, Nat.reduceAdd, Int.reduceLT, Int.reduceLE, Int.reduceNeg, Int.reduceBEq, Int.reduceBNe, Int.reduceEq, Nat.reduceLeDiff, Nat.reduceMul, Nat.reduceLT, *, driftV, driftC, effC3]
    | simp (singlePass := true) (maxDischargeDepth := 99) only [*, S2, Nat.reduceLT, driftV, driftC, effC3])
      refine CallsV.mono (worldStop (r := ⟨d.service, d.host⟩) (B := B) FR (hX _ FR) hl1.out hl2.out) fun v w10 hh => ⟨hh.1, ?_⟩
      obtain ⟨_, u0, rfl, ho⟩ := hh
      exact ⟨u0, by rw [hE0.out]; rfl, by rw [← hW0.out]; exact ho.more z9⟩
    · have e := Option.some.inj ho
      subst e
      have d4 : ∃ u0, (gF 11) = .tuple #[u0, intV E] ∧ OwnW w5.heap.size u0 w9 W := hdep ⟨4, .data⟩ (by simp) rfl _ _ rfl rfl
      obtain ⟨u3, e3, o3⟩ := d4
      clear hag hdep ho
      refine relStep_off rfl ?_
      (repeat' first
    | ((with_reducible refine at_row ?_); refine row1_a fun _ _ _ _ _ _ _ => ?_)
    | with_reducible first | (first | apply alloc_k | apply row_k); intro _ _ _ _ _ _ | (first | apply fork | apply forkp) <;> intro _ | refine forke (fun _ => ?_) fun _ _ => ?_ | refine tail_k fun _ _ _ => ?_ | refine ext_k fun _ _ _ => ?_ | refine need_a ?_ | refine st_agg KR rfl ON fun _ _ _ _ => ?_ | refine wpd_q_a ?_
    | ((with_reducible refine at_f 32 ?_); refine ret_k (hrep _) fun _ _ _ => ?_)
    | simp (maxDischargeDepth := 3) only [↓X, ↓Y, ↓Q, S1, ↓reduceIte, Nat.reduceEqDiff, Nat.reduceAdd, Int.reduceLT, Int.reduceLE, Int.reduceNeg, Int.reduceBEq, Int.reduceBNe, Int.reduceEq, Nat.reduceLeDiff, Nat.reduceMul, Nat.reduceLT, *, driftV, driftC, effC3]
    | simp (singlePass := true) (maxDischargeDepth := 99) only [*, S2, Nat.reduceLT, driftV, driftC, effC3])
      all_goals exact o3
    · have e := Option.some.inj ho
      subst e
      have d4 : ∃ u0, (gF 11) = .tuple #[u0, intV E] ∧ OwnW w5.heap.size u0 w9 W := hdep ⟨4, .data⟩ (by simp) rfl _ _ rfl rfl
      obtain ⟨u3, e3, o3⟩ := d4
      clear hag hdep ho
      refine relStep_off rfl ?_
      (repeat' first
    | ((with_reducible refine at_row ?_); refine row1_a fun _ _ _ _ _ _ _ => ?_)
    | with_reducible first | (first | apply alloc_k | apply row_k); intro _ _ _ _ _ _ | (first | apply fork | apply forkp) <;> intro _ | refine forke (fun _ => ?_) fun _ _ => ?_ | refine tail_k fun _ _ _ => ?_ | refine ext_k fun _ _ _ => ?_ | refine need_a ?_ | refine st_agg KR rfl ON fun _ _ _ _ => ?_ | refine wpd_q_a ?_
    | ((with_reducible refine at_f 32 ?_); refine ret_k (hrep _) fun _ _ _ => ?_)
    | simp (maxDischargeDepth := 3) only [↓X, ↓Y, ↓Q, S1, ↓reduceIte, Nat.reduceEqDiff, Nat.reduceAdd, Int.reduceLT, Int.reduceLE, Int.reduceNeg, Int.reduceBEq, Int.reduceBNe, Int.reduceEq, Nat.reduceLeDiff, Nat.reduceMul, Nat.reduceLT, *, driftV, driftC, effC3]
    | simp (singlePass := true) (maxDischargeDepth := 99) only [*, S2, Nat.reduceLT, driftV, driftC, effC3])
    · omega
  · intro g9 w9 hx9 hR hag
    have s9 := hx9.st
    have n9 : Now w9 := trivial
    have r9 := Ext.refl w9
    have z9 := hx9.size
    have d5 : OwnW w5.heap.size (g9 12) w9 W := hR 5 _ _ (by decide) rfl rfl
    obtain ⟨h6, r6, e6, oh6, or6⟩ := d5
    have H6 := oh6.o
    have R6 := or6.o
    have a1 := oh6.one
    have a2 := or6.one
    clear oh6 or6
    have d6 : (g9 13) = intV E := hR 6 _ _ (by decide) rfl rfl
    have a5 := hag.at 5 KR
    have a25 := hag.at 25 KR
    simp only [S5, ↓reduceIte, Nat.reduceEqDiff, initF, *] at a5 a25
    clear hag hR
    simp only [List.drop_succ_cons, List.drop_zero]
    (repeat' first
    | ((with_reducible refine at_row ?_); refine row1_a fun _ _ _ _ _ _ _ => ?_)
    | with_reducible first | (first | apply alloc_k | apply row_k); intro _ _ _ _ _ _ | (first | apply fork | apply forkp) <;> intro _ | refine forke (fun _ => ?_) fun _ _ => ?_ | refine tail_k fun _ _ _ => ?_ | refine ext_k fun _ _ _ => ?_ | refine need_a ?_ | refine st_agg KR rfl ON fun _ _ _ _ => ?_ | refine wpd_q_a ?_
    | simp (maxDischargeDepth := 3) only [↓X, ↓Y, ↓Q, S1, ↓reduceIte, Nat.reduceEqDiff, Nat.reduceAdd, Int.reduceLT, Int.reduceLE, Int.reduceNeg, Int.reduceBEq, Int.reduceBNe, Int.reduceEq, Nat.reduceLeDiff, Nat.reduceMul, Nat.reduceLT, *]
    | simp (singlePass := true) (maxDischargeDepth := 99) only [*, S2, Nat.reduceLT])
    exact ⟨_, rfl, _, _, rfl, (H6.1 _ FR).more z5, (R6.1 _ FR).more z5⟩
theorem driftEff6 {b3 : Nat} (hB : B ≤ w.heap.size) (hx0 : WorldR w B hv rv x) (hl1 : x.hosts.length ≤ 1000000) (hl2 : x.replicas.length ≤ 1000000) (h3 : Blk w b3 tEff3 effC3) (hk : d.kind = 2) :
    CallsV Try.prog 39 #[.agg #[hv, rv], driftV d, .pointer (some ⟨b3, 0, none⟩)] w fun v w' => Ext w w' ∧ ∃ u, v = .tuple #[u, intV (oneE x d)] ∧ OwnW w.heap.size u w' (oneR x d) := by
  have hn : Now w := trivial
  have hx : Ext w w := Ext.refl w
  have hx' := hx0.sk hB
  have hX := hx'.2.2.2.2
  have hl1 : Hid _ := hl1
  have hl2 : Hid _ := hl2
  have k3 := h3.bk
  have hcal : callable Try.prog 32 = true := by kernel_rfl
  have hk3 : ¬ d.kind = 3 := by omega
  have hk4 : ¬ d.kind = 4 := by omega
  have e1 : oneE x d = startE x ⟨d.service, d.host⟩ := by simp [oneE, hk]
  have e2 : oneR x d = startW x ⟨d.service, d.host⟩ := by
    unfold oneR
    rw [e1]
    unfold startW
    by_cases h : startE x ⟨d.service, d.host⟩ = 0 <;> simp [h, oneW, hk, startW]
  rw [e1, e2]
  clear e1 e2 hk hk3 hk4
  have hrep : ∀ w', Ret Try.prog 32 #[driftV d] w' (replicaV ⟨d.service, d.host⟩) := fun _ => driftEff2
  have hE : Hid (startE x ⟨d.service, d.host⟩ = startE x ⟨d.service, d.host⟩) := rfl
  generalize hE0 : startE x ⟨d.service, d.host⟩ = E at hE
  generalize hW0 : startW x ⟨d.service, d.host⟩ = W
  replace hE0 : Hid _ := hE0
  replace hW0 : Hid _ := hW0
  clear hE
  (refine callsV_of Try.func39 rfl KR KR ?_; rw [Try.results39])
  (repeat' first
    | ((with_reducible refine wpd_at 1 ?_); refine wpd_hold ?_)
    | ((with_reducible refine at_row ?_); refine row1_a fun _ _ _ _ _ _ _ => ?_)
    | with_reducible first | (first | apply alloc_k | apply row_k); intro _ _ _ _ _ _ | (first | apply fork | apply forkp) <;> intro _ | refine forke (fun _ => ?_) fun _ _ => ?_ | refine tail_k fun _ _ _ => ?_ | refine ext_k fun _ _ _ => ?_ | refine need_a ?_ | refine st_agg KR rfl ON fun _ _ _ _ => ?_ | refine wpd_q_a ?_
    | simp (maxDischargeDepth := 3) only [↓X, ↓Y, ↓Q, S1, ↓reduceIte, Nat.reduceEqDiff, Nat.reduceAdd, Int.reduceLT, Int.reduceLE, Int.reduceNeg, Int.reduceBEq, Int.reduceBNe, Int.reduceEq, Nat.reduceLeDiff, Nat.reduceMul, Nat.reduceLT, *, driftV, driftC, effC3]
    | simp (singlePass := true) (maxDischargeDepth := 99) only [*, S2, Nat.reduceLT, driftV, driftC, effC3])
  rename_i b2 w2 n2 k2 s2 q2 b4 w4 n4 k4 s4 q4 b5 w5 n5 k5 s5 q5
  have z5 : w.heap.size ≤ w5.heap.size := FR
  have r5 := Ext.refl w5
  unfold wpdH
  refine wpd_rel 7 (fun iI v w9 => match iI with
    | 0 => v = .agg #[hv, rv]
    | 1 => v = .func (.func 32) #[] #[]
    | 2 => v = driftV d
    | 3 => v = replicaV ⟨d.service, d.host⟩
    | 4 => ∃ u0, v = .tuple #[u0, intV E] ∧ OwnW w5.heap.size u0 w9 W
    | 5 => OwnW w5.heap.size v w9 W
    | 6 => v = intV E
    | _ => False) KR KR KR ?_ ?_ ?_
  · intro iI v w1 w2 hR hx9
    match iI, hR with
    | 0, h => exact h
    | 1, h => exact h
    | 2, h => exact h
    | 3, h => exact h
    | 4, h => exact (let ⟨u0, e, o⟩ := h; ⟨u0, e, o.ext hx9⟩)
    | 5, h => exact OwnW.ext h hx9
    | 6, h => exact h
  · intro iI oO hi ho gF w9 hx9 hdep hag
    have s9 := hx9.st
    have n9 : Now w9 := trivial
    have r9 := Ext.refl w9
    have z9 := hx9.size
    rcases iI with _|_|_|_|_|_|_|iI
    · have e := Option.some.inj ho
      subst e
      have a3 := hag.at 3 KR
      simp only [S5, ↓reduceIte, Nat.reduceEqDiff, initF, *] at a3
      clear hag hdep ho
      refine relStep_off rfl ?_
      (repeat' first
    | ((with_reducible refine at_row ?_); refine row1_a fun _ _ _ _ _ _ _ => ?_)
    | with_reducible first | (first | apply alloc_k | apply row_k); intro _ _ _ _ _ _ | (first | apply fork | apply forkp) <;> intro _ | refine forke (fun _ => ?_) fun _ _ => ?_ | refine tail_k fun _ _ _ => ?_ | refine ext_k fun _ _ _ => ?_ | refine need_a ?_ | refine st_agg KR rfl ON fun _ _ _ _ => ?_ | refine wpd_q_a ?_
    | ((with_reducible refine at_f 32 ?_); refine ret_k (hrep _) fun _ _ _ => ?_)
    | simp (maxDischargeDepth := 3) only [↓X, ↓Y, ↓Q, S1, ↓reduceIte, Nat.reduceEqDiff, Nat.reduceAdd, Int.reduceLT, Int.reduceLE, Int.reduceNeg, Int.reduceBEq, Int.reduceBNe, Int.reduceEq, Nat.reduceLeDiff, Nat.reduceMul, Nat.reduceLT, *, driftV, driftC, effC3]
    | simp (singlePass := true) (maxDischargeDepth := 99) only [*, S2, Nat.reduceLT, driftV, driftC, effC3])
    · have e := Option.some.inj ho
      subst e
      have a2 := hag.at 2 KR
      simp only [S5, ↓reduceIte, Nat.reduceEqDiff, initF, *] at a2
      clear hag hdep ho
      refine relStep_off rfl ?_
      (repeat' first
    | ((with_reducible refine at_row ?_); refine row1_a fun _ _ _ _ _ _ _ => ?_)
    | with_reducible first | (first | apply alloc_k | apply row_k); intro _ _ _ _ _ _ | (first | apply fork | apply forkp) <;> intro _ | refine forke (fun _ => ?_) fun _ _ => ?_ | refine tail_k fun _ _ _ => ?_ | refine ext_k fun _ _ _ => ?_ | refine need_a ?_ | refine st_agg KR rfl ON fun _ _ _ _ => ?_ | refine wpd_q_a ?_
    | ((with_reducible refine at_f 32 ?_); refine ret_k (hrep _) fun _ _ _ => ?_)
    | simp (maxDischargeDepth := 3) only [↓X, ↓Y, ↓Q, S1, ↓reduceIte, Nat.reduceEqDiff, Nat.reduceAdd, Int.reduceLT, Int.reduceLE, Int.reduceNeg, Int.reduceBEq, Int.reduceBNe, Int.reduceEq, Nat.reduceLeDiff, Nat.reduceMul, Nat.reduceLT, *, driftV, driftC, effC3]
    | simp (singlePass := true) (maxDischargeDepth := 99) only [*, S2, Nat.reduceLT, driftV, driftC, effC3])
    · have e := Option.some.inj ho
      subst e
      have a4 := hag.at 4 KR
      simp only [S5, ↓reduceIte, Nat.reduceEqDiff, initF, *] at a4
      clear hag hdep ho
      refine relStep_off rfl ?_
      (repeat' first
    | ((with_reducible refine at_row ?_); refine row1_a fun _ _ _ _ _ _ _ => ?_)
    | with_reducible first | (first | apply alloc_k | apply row_k); intro _ _ _ _ _ _ | (first | apply fork | apply forkp) <;> intro _ | refine forke (fun _ => ?_) fun _ _ => ?_ | refine tail_k fun _ _ _ => ?_ | refine ext_k fun _ _ _ => ?_ | refine need_a ?_ | refine st_agg KR rfl ON fun _ _ _ _ => ?_ | refine wpd_q_a ?_
    | ((with_reducible refine at_f 32 ?_); refine ret_k (hrep _) fun _ _ _ => ?_)
    | simp (maxDischargeDepth := 3) only [↓X, ↓Y, ↓Q, S1, ↓reduceIte, Nat.reduceEqDiff, Nat.reduceAdd, Int.reduceLT, Int.reduceLE, Int.reduceNeg, Int.reduceBEq, Int.reduceBNe, Int.reduceEq, Nat.reduceLeDiff, Nat.reduceMul, Nat.reduceLT, *, driftV, driftC, effC3]
    | simp (singlePass := true) (maxDischargeDepth := 99) only [*, S2, Nat.reduceLT, driftV, driftC, effC3])
    · have e := Option.some.inj ho
      subst e
      have d1 : (gF 8) = .func (.func 32) #[] #[] := hdep ⟨1, .data⟩ (by simp) rfl _ _ rfl rfl
      have d2 : (gF 9) = driftV d := hdep ⟨2, .data⟩ (by simp) rfl _ _ rfl rfl
      clear hag hdep ho
      refine relStep_off rfl ?_
      (repeat' first
    | ((with_reducible refine at_row ?_); refine row1_a fun _ _ _ _ _ _ _ => ?_)
    | with_reducible first | (first | apply alloc_k | apply row_k); intro _ _ _ _ _ _ | (first | apply fork | apply forkp) <;> intro _ | refine forke (fun _ => ?_) fun _ _ => ?_ | refine tail_k fun _ _ _ => ?_ | refine ext_k fun _ _ _ => ?_ | refine need_a ?_ | refine st_agg KR rfl ON fun _ _ _ _ => ?_ | refine wpd_q_a ?_
    | ((with_reducible refine at_f 32 ?_); refine ret_k (hrep _) fun _ _ _ => ?_)
    | simp (maxDischargeDepth := 3) only [↓X, ↓Y, ↓Q, S1, ↓reduceIte, Nat.reduceEqDiff, Nat.reduceAdd, Int.reduceLT, Int.reduceLE, Int.reduceNeg, Int.reduceBEq, Int.reduceBNe, Int.reduceEq, Nat.reduceLeDiff, Nat.reduceMul, Nat.reduceLT, *, driftV, driftC, effC3]
    | simp (singlePass := true) (maxDischargeDepth := 99) only [*, S2, Nat.reduceLT, driftV, driftC, effC3])
    · have e := Option.some.inj ho
      subst e
      have d0 : (gF 7) = .agg #[hv, rv] := hdep ⟨0, .data⟩ (by simp) rfl _ _ rfl rfl
      have d3 : (gF 10) = replicaV ⟨d.service, d.host⟩ := hdep ⟨3, .data⟩ (by simp) rfl _ _ rfl rfl
      clear hag hdep ho
      refine relStep_off rfl ?_
      (repeat' first
    | ((with_reducible refine at_row ?_); refine row1_a fun _ _ _ _ _ _ _ => ?_)
    | with_reducible first | (first | apply alloc_k | apply row_k); intro _ _ _ _ _ _ | (first | apply fork | apply forkp) <;> intro _ | refine forke (fun _ => ?_) fun _ _ => ?_ | refine tail_k fun _ _ _ => ?_ | refine ext_k fun _ _ _ => ?_ | refine need_a ?_ | refine st_agg KR rfl ON fun _ _ _ _ => ?_ | refine wpd_q_a ?_
    | ((with_reducible refine at_f 32 ?_); refine ret_k (hrep _) fun _ _ _ => ?_)
    | simp (maxDischargeDepth := 3) only [↓X, ↓Y, ↓Q, S1, ↓reduceIte, Nat.reduceEqDiff, Nat.reduceAdd, Int.reduceLT, Int.reduceLE, Int.reduceNeg, Int.reduceBEq, Int.reduceBNe, Int.reduceEq, Nat.reduceLeDiff, Nat.reduceMul, Nat.reduceLT, *, driftV, driftC, effC3]
    | simp (singlePass := true) (maxDischargeDepth := 99) only [*, S2, Nat.reduceLT, driftV, driftC, effC3])
      refine CallsV.mono (worldStart (r := ⟨d.service, d.host⟩) (B := B) FR (hX _ FR) hl1.out hl2.out) fun v w10 hh => ⟨hh.1, ?_⟩
      obtain ⟨_, u0, rfl, ho⟩ := hh
      exact ⟨u0, by rw [hE0.out]; rfl, by rw [← hW0.out]; exact ho.more z9⟩
    · have e := Option.some.inj ho
      subst e
      have d4 : ∃ u0, (gF 11) = .tuple #[u0, intV E] ∧ OwnW w5.heap.size u0 w9 W := hdep ⟨4, .data⟩ (by simp) rfl _ _ rfl rfl
      obtain ⟨u3, e3, o3⟩ := d4
      clear hag hdep ho
      refine relStep_off rfl ?_
      (repeat' first
    | ((with_reducible refine at_row ?_); refine row1_a fun _ _ _ _ _ _ _ => ?_)
    | with_reducible first | (first | apply alloc_k | apply row_k); intro _ _ _ _ _ _ | (first | apply fork | apply forkp) <;> intro _ | refine forke (fun _ => ?_) fun _ _ => ?_ | refine tail_k fun _ _ _ => ?_ | refine ext_k fun _ _ _ => ?_ | refine need_a ?_ | refine st_agg KR rfl ON fun _ _ _ _ => ?_ | refine wpd_q_a ?_
    | ((with_reducible refine at_f 32 ?_); refine ret_k (hrep _) fun _ _ _ => ?_)
    | simp (maxDischargeDepth := 3) only [↓X, ↓Y, ↓Q, S1, ↓reduceIte, Nat.reduceEqDiff, Nat.reduceAdd, Int.reduceLT, Int.reduceLE, Int.reduceNeg, Int.reduceBEq, Int.reduceBNe, Int.reduceEq, Nat.reduceLeDiff, Nat.reduceMul, Nat.reduceLT, *, driftV, driftC, effC3]
    | simp (singlePass := true) (maxDischargeDepth := 99) only [*, S2, Nat.reduceLT, driftV, driftC, effC3])
      all_goals exact o3
    · have e := Option.some.inj ho
      subst e
      have d4 : ∃ u0, (gF 11) = .tuple #[u0, intV E] ∧ OwnW w5.heap.size u0 w9 W := hdep ⟨4, .data⟩ (by simp) rfl _ _ rfl rfl
      obtain ⟨u3, e3, o3⟩ := d4
      clear hag hdep ho
      refine relStep_off rfl ?_
      (repeat' first
    | ((with_reducible refine at_row ?_); refine row1_a fun _ _ _ _ _ _ _ => ?_)
    | with_reducible first | (first | apply alloc_k | apply row_k); intro _ _ _ _ _ _ | (first | apply fork | apply forkp) <;> intro _ | refine forke (fun _ => ?_) fun _ _ => ?_ | refine tail_k fun _ _ _ => ?_ | refine ext_k fun _ _ _ => ?_ | refine need_a ?_ | refine st_agg KR rfl ON fun _ _ _ _ => ?_ | refine wpd_q_a ?_
    | ((with_reducible refine at_f 32 ?_); refine ret_k (hrep _) fun _ _ _ => ?_)
    | simp (maxDischargeDepth := 3) only [↓X, ↓Y, ↓Q, S1, ↓reduceIte, Nat.reduceEqDiff, Nat.reduceAdd, Int.reduceLT, Int.reduceLE, Int.reduceNeg, Int.reduceBEq, Int.reduceBNe, Int.reduceEq, Nat.reduceLeDiff, Nat.reduceMul, Nat.reduceLT, *, driftV, driftC, effC3]
    | simp (singlePass := true) (maxDischargeDepth := 99) only [*, S2, Nat.reduceLT, driftV, driftC, effC3])
    · omega
  · intro g9 w9 hx9 hR hag
    have s9 := hx9.st
    have n9 : Now w9 := trivial
    have r9 := Ext.refl w9
    have z9 := hx9.size
    have d5 : OwnW w5.heap.size (g9 12) w9 W := hR 5 _ _ (by decide) rfl rfl
    obtain ⟨h6, r6, e6, oh6, or6⟩ := d5
    have H6 := oh6.o
    have R6 := or6.o
    have a1 := oh6.one
    have a2 := or6.one
    clear oh6 or6
    have d6 : (g9 13) = intV E := hR 6 _ _ (by decide) rfl rfl
    have a5 := hag.at 5 KR
    have a25 := hag.at 25 KR
    simp only [S5, ↓reduceIte, Nat.reduceEqDiff, initF, *] at a5 a25
    clear hag hR
    simp only [List.drop_succ_cons, List.drop_zero]
    (repeat' first
    | ((with_reducible refine at_row ?_); refine row1_a fun _ _ _ _ _ _ _ => ?_)
    | with_reducible first | (first | apply alloc_k | apply row_k); intro _ _ _ _ _ _ | (first | apply fork | apply forkp) <;> intro _ | refine forke (fun _ => ?_) fun _ _ => ?_ | refine tail_k fun _ _ _ => ?_ | refine ext_k fun _ _ _ => ?_ | refine need_a ?_ | refine st_agg KR rfl ON fun _ _ _ _ => ?_ | refine wpd_q_a ?_
    | simp (maxDischargeDepth := 3) only [↓X, ↓Y, ↓Q, S1, ↓reduceIte, Nat.reduceEqDiff, Nat.reduceAdd, Int.reduceLT, Int.reduceLE, Int.reduceNeg, Int.reduceBEq, Int.reduceBNe, Int.reduceEq, Nat.reduceLeDiff, Nat.reduceMul, Nat.reduceLT, *]
    | simp (singlePass := true) (maxDischargeDepth := 99) only [*, S2, Nat.reduceLT])
    exact ⟨_, rfl, _, _, rfl, (H6.1 _ FR).more z5, (R6.1 _ FR).more z5⟩
end
end Go.Proofs.Ytmcdgepfhpakiaa
