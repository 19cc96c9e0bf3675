
/- The laws of the layer drift: DriftKnown. -/
import Derived.Test.YtmcdgepfhpakiaaLaw30c
import Derived.Test.YtmcdgepfhpakiaaBack30
namespace Go.Proofs.Ytmcdgepfhpakiaa
set_option linter.unusedSimpArgs false
set_option linter.unusedVariables false
open Go Go.RowKit
set_option maxRecDepth 100000
set_option linter.unusedSectionVars false
set_option maxHeartbeats 2000000
theorem kn_self : diffE pairA pairA = 0 ∧ (if diffOk pairA pairA = true then diffL pairA pairA else []) = [] := by decide
theorem kn_err : diffE pairA ⟨[⟨0, 0⟩], []⟩ = 1 := by decide
theorem kn_back : backL pairL = [⟨1, 1, 0, 0, 0⟩, ⟨2, 0, 0, 0, 0⟩, ⟨3, 1, 0, 1, 0⟩] := by decide
theorem kn_p0 : patchR pairA [⟨1, 1, 0, 0, 0⟩] = (7, noW) := by decide
theorem kn_p1 : patchR pairA [⟨2, 0, 0, 0, 0⟩] = (6, noW) := by decide
theorem kn_p2 : patchR pairA [⟨3, 1, 0, 1, 0⟩] = (8, noW) := by decide
theorem kn_p3 : patchR pairA [⟨3, 2, 0, 0, 0⟩] = (1, noW) := by decide
theorem kn_p4 : patchR pairA [⟨3, 1, 0, 0, 256⟩] = (1, noW) := by decide
theorem kn_p5 : patchR pairA [⟨0, 0, 0, 0, 0⟩] = (1, noW) := by decide
section
variable {w : World}
theorem lawDriftKnown : Ret Try.prog 6 #[] w (.bool true) := by
  have hn : Now w := trivial
  have hx : Ext w w := Ext.refl w
  (refine callsV_of Try.func6 rfl KR KR ?_; rw [Try.results6])
  (repeat' first
    | ((with_reducible refine at_row ?_); refine row1_a fun _ _ _ _ _ _ _ => ?_)
    | with_reducible first | (first | apply alloc_k | apply row_k); intro _ _ _ _ _ _ | (first | apply fork | apply forkp) <;> intro _ | refine forke (fun _ => ?_) fun _ _ => ?_ | refine tail_k fun _ _ _ => ?_ | refine ext_k fun _ _ _ => ?_ | refine need_a ?_ | refine st_agg KR rfl ON fun _ _ _ _ => ?_ | refine wpd_q_a ?_
    | simp (maxDischargeDepth := 3) only [↓X, ↓Y, ↓Q, S1, ↓reduceIte, Nat.reduceEqDiff, Nat.reduceAdd, Int.reduceLT, Int.reduceLE, Int.reduceNeg, Int.reduceBEq, Int.reduceBNe, Int.reduceEq, Nat.reduceLeDiff, Nat.reduceMul, Nat.reduceLT, *]
    | simp (singlePass := true) (maxDischargeDepth := 99) only [*, S2, Nat.reduceLT])
  refine call_k pair30 ?_
  rintro _ w1 n1 s1 ⟨h1, r1, h2, r2, rfl, ⟨oh1, or1⟩, oh2, or2⟩
  have H1 := oh1.o
  have R1 := or1.o
  have H2 := oh2.o
  have R2 := or2.o
  have z1 : w.heap.size ≤ w1.heap.size := FR
  clear oh1 or1 oh2 or2
  (repeat' first
    | ((with_reducible refine at_row ?_); refine row1_a fun _ _ _ _ _ _ _ => ?_)
    | with_reducible first | (first | apply alloc_k | apply row_k); intro _ _ _ _ _ _ | (first | apply fork | apply forkp) <;> intro _ | refine forke (fun _ => ?_) fun _ _ => ?_ | refine tail_k fun _ _ _ => ?_ | refine ext_k fun _ _ _ => ?_ | refine need_a ?_ | refine st_agg KR rfl ON fun _ _ _ _ => ?_ | refine wpd_q_a ?_
    | simp (maxDischargeDepth := 3) only [↓X, ↓Y, ↓Q, S1, ↓reduceIte, Nat.reduceEqDiff, Nat.reduceAdd, Int.reduceLT, Int.reduceLE, Int.reduceNeg, Int.reduceBEq, Int.reduceBNe, Int.reduceEq, Nat.reduceLeDiff, Nat.reduceMul, Nat.reduceLT, *]
    | simp (singlePass := true) (maxDischargeDepth := 99) only [*, S2, Nat.reduceLT])
  refine call_k (driftDiff (a := pairA) (b := pairB) (Nat.le_refl _) (world_own (x := pairA) (H1.1 _ FR) (R1.1 _ FR)) (world_own (x := pairB) (H2.1 _ FR) (R2.1 _ FR)) (by decide) (by decide) (by decide) pair_phase.1 pair_phase.2) ?_
  rintro _ w3 n3 s3 ⟨v3, rfl, o3⟩
  rw [pair_diff.1]
  rw [pair_diff.2] at o3
  have O3 := o3.o
  clear o3
  (repeat' first
    | ((with_reducible refine at_row ?_); refine row1_a fun _ _ _ _ _ _ _ => ?_)
    | with_reducible first | (first | apply alloc_k | apply row_k); intro _ _ _ _ _ _ | (first | apply fork | apply forkp) <;> intro _ | refine forke (fun _ => ?_) fun _ _ => ?_ | refine tail_k fun _ _ _ => ?_ | refine ext_k fun _ _ _ => ?_ | refine need_a ?_ | refine st_agg KR rfl ON fun _ _ _ _ => ?_ | refine wpd_q_a ?_
    | simp (maxDischargeDepth := 3) only [↓X, ↓Y, ↓Q, S1, ↓reduceIte, Nat.reduceEqDiff, Nat.reduceAdd, Int.reduceLT, Int.reduceLE, Int.reduceNeg, Int.reduceBEq, Int.reduceBNe, Int.reduceEq, Nat.reduceLeDiff, Nat.reduceMul, Nat.reduceLT, *]
    | simp (singlePass := true) (maxDischargeDepth := 99) only [*, S2, Nat.reduceLT])
  refine call_k (driftDiff (a := pairA) (b := pairA) (Nat.le_refl _) (world_own (x := pairA) (H1.1 _ FR) (R1.1 _ FR)) (world_own (x := pairA) (H1.1 _ FR) (R1.1 _ FR)) (by decide) (by decide) (by decide) pair_phase.1 pair_phase.1) ?_
  rintro _ w4 n4 s4 ⟨v4, rfl, o4⟩
  rw [kn_self.1]
  rw [kn_self.2] at o4
  have O4 := o4.o
  have l4 : lenN v4 = 0 := (o4.slN (f := driftC)).len
  clear o4
  (repeat' first
    | ((with_reducible refine wpd_at 4 ?_); refine wpd_hold ?_)
    | ((with_reducible refine at_row ?_); refine row1_a fun _ _ _ _ _ _ _ => ?_)
    | with_reducible first | (first | apply alloc_k | apply row_k); intro _ _ _ _ _ _ | (first | apply fork | apply forkp) <;> intro _ | refine forke (fun _ => ?_) fun _ _ => ?_ | refine tail_k fun _ _ _ => ?_ | refine ext_k fun _ _ _ => ?_ | refine need_a ?_ | refine st_agg KR rfl ON fun _ _ _ _ => ?_ | refine wpd_q_a ?_
    | simp (maxDischargeDepth := 3) only [↓X, ↓Y, ↓Q, S1, ↓reduceIte, Nat.reduceEqDiff, Nat.reduceAdd, Int.reduceLT, Int.reduceLE, Int.reduceNeg, Int.reduceBEq, Int.reduceBNe, Int.reduceEq, Nat.reduceLeDiff, Nat.reduceMul, Nat.reduceLT, *]
    | simp (singlePass := true) (maxDischargeDepth := 99) only [*, S2, Nat.reduceLT])
  rename_i bA wA nA kA sA qA bB wB nB kB sB qB wC nC kC sC wD nD kD sD
  have r4 := Ext.refl w4
  unfold wpdH
  refine wpd_rel 8 (fun iI v w9 => match iI with
    | 0 => v = .agg #[h1, r1]
    | 1 => OwnH w9 w4.heap.size v [⟨0, 0⟩]
    | 2 => ∃ h, v = .agg #[h, .slice none 0 0] ∧ OwnH w9 w4.heap.size h [⟨0, 0⟩]
    | 3 => ∃ u, v = .tuple #[u, intV 1]
    | 4 => ∃ u, v = .tuple #[u, intV 1]
    | 5 => True
    | 6 => v = intV 1
    | 7 => True
    | _ => False) KR KR KR ?_ ?_ ?_
  · intro iI v w1 w2 hR hx9
    match iI, hR with
    | 0, h => exact h
    | 1, h => exact Own.ext h hx9
    | 2, h => exact (let ⟨u, e, o⟩ := h; ⟨u, e, o.ext hx9⟩)
    | 3, h => exact h
    | 4, h => exact h
    | 5, h => exact trivial
    | 6, h => exact h
    | 7, h => exact trivial
  · intro iI oO hi ho gF w9 hx9 hdep hag
    have s9 := hx9.st
    have n9 : Now w9 := trivial
    have r9 := Ext.refl w9
    have z9 := hx9.size
    rcases iI with _|_|_|_|_|_|_|_|iI
    · have e := Option.some.inj ho
      subst e
      have a1 := hag.at 1 KR
      simp only [S5, ↓reduceIte, Nat.reduceEqDiff, initF, *] at a1
      clear hag hdep ho
      refine relStep_off rfl ?_
      (repeat' first
    | ((with_reducible refine at_row ?_); refine row1_a fun _ _ _ _ _ _ _ => ?_)
    | with_reducible first | (first | apply alloc_k | apply row_k); intro _ _ _ _ _ _ | (first | apply fork | apply forkp) <;> intro _ | refine forke (fun _ => ?_) fun _ _ => ?_ | refine tail_k fun _ _ _ => ?_ | refine ext_k fun _ _ _ => ?_ | refine need_a ?_ | refine st_agg KR rfl ON fun _ _ _ _ => ?_ | refine wpd_q_a ?_
    | simp (maxDischargeDepth := 3) only [↓X, ↓Y, ↓Q, S1, ↓reduceIte, Nat.reduceEqDiff, Nat.reduceAdd, Int.reduceLT, Int.reduceLE, Int.reduceNeg, Int.reduceBEq, Int.reduceBNe, Int.reduceEq, Nat.reduceLeDiff, Nat.reduceMul, Nat.reduceLT, *, driftC]
    | simp (singlePass := true) (maxDischargeDepth := 99) only [*, S2, Nat.reduceLT, driftC])
    · have e := Option.some.inj ho
      subst e
      clear hag hdep ho
      refine relStep_off rfl ?_
      (repeat' first
    | ((with_reducible refine at_row ?_); refine row1_a fun _ _ _ _ _ _ _ => ?_)
    | with_reducible first | (first | apply alloc_k | apply row_k); intro _ _ _ _ _ _ | (first | apply fork | apply forkp) <;> intro _ | refine forke (fun _ => ?_) fun _ _ => ?_ | refine tail_k fun _ _ _ => ?_ | refine ext_k fun _ _ _ => ?_ | refine need_a ?_ | refine st_agg KR rfl ON fun _ _ _ _ => ?_ | refine wpd_q_a ?_
    | simp (maxDischargeDepth := 3) only [↓X, ↓Y, ↓Q, S1, ↓reduceIte, Nat.reduceEqDiff, Nat.reduceAdd, Int.reduceLT, Int.reduceLE, Int.reduceNeg, Int.reduceBEq, Int.reduceBNe, Int.reduceEq, Nat.reduceLeDiff, Nat.reduceMul, Nat.reduceLT, *, driftC]
    | simp (singlePass := true) (maxDischargeDepth := 99) only [*, S2, Nat.reduceLT, driftC])
      refine mk_own_k (n := 1) (z := .agg #[.int .u8 0, .int .i64 0]) rfl (by decide) (by decide) (by decide) fun b10 w10 n10 hb10 s10 nw10 => ?_
      have hx10 : Ext w9 w10 := FR
      exact ⟨hx10, Own.ofBlkN (by simp) hb10 (by intro c hc; simp only [List.map_cons, List.map_nil, List.mem_cons, List.not_mem_nil, or_false] at hc; rcases hc with rfl; rfl) (by have h : w9.heap.size ≤ b10 := FR; omega) (by simp)⟩
    · have e := Option.some.inj ho
      subst e
      have d1 : OwnH w9 w4.heap.size (gF 41) [⟨0, 0⟩] := hdep ⟨1, .data⟩ (by simp) rfl _ _ rfl rfl
      have O1' := d1.o
      clear hag hdep ho
      refine relStep_off rfl ?_
      (repeat' first
    | ((with_reducible refine at_row ?_); refine row1_a fun _ _ _ _ _ _ _ => ?_)
    | with_reducible first | (first | apply alloc_k | apply row_k); intro _ _ _ _ _ _ | (first | apply fork | apply forkp) <;> intro _ | refine forke (fun _ => ?_) fun _ _ => ?_ | refine tail_k fun _ _ _ => ?_ | refine ext_k fun _ _ _ => ?_ | refine need_a ?_ | refine st_agg KR rfl ON fun _ _ _ _ => ?_ | refine wpd_q_a ?_
    | simp (maxDischargeDepth := 3) only [↓X, ↓Y, ↓Q, S1, ↓reduceIte, Nat.reduceEqDiff, Nat.reduceAdd, Int.reduceLT, Int.reduceLE, Int.reduceNeg, Int.reduceBEq, Int.reduceBNe, Int.reduceEq, Nat.reduceLeDiff, Nat.reduceMul, Nat.reduceLT, *, driftC]
    | simp (singlePass := true) (maxDischargeDepth := 99) only [*, S2, Nat.reduceLT, driftC])
      exact ⟨_, rfl, d1⟩
    · have e := Option.some.inj ho
      subst e
      have d0 : (gF 40) = .agg #[h1, r1] := hdep ⟨0, .data⟩ (by simp) rfl _ _ rfl rfl
      have d2 : ∃ h, (gF 42) = .agg #[h, .slice none 0 0] ∧ OwnH w9 w4.heap.size h [⟨0, 0⟩] := hdep ⟨2, .data⟩ (by simp) rfl _ _ rfl rfl
      obtain ⟨h2', e2, o2⟩ := d2
      clear hag hdep ho
      refine relStep_off rfl ?_
      (repeat' first
    | ((with_reducible refine at_row ?_); refine row1_a fun _ _ _ _ _ _ _ => ?_)
    | with_reducible first | (first | apply alloc_k | apply row_k); intro _ _ _ _ _ _ | (first | apply fork | apply forkp) <;> intro _ | refine forke (fun _ => ?_) fun _ _ => ?_ | refine tail_k fun _ _ _ => ?_ | refine ext_k fun _ _ _ => ?_ | refine need_a ?_ | refine st_agg KR rfl ON fun _ _ _ _ => ?_ | refine wpd_q_a ?_
    | simp (maxDischargeDepth := 3) only [↓X, ↓Y, ↓Q, S1, ↓reduceIte, Nat.reduceEqDiff, Nat.reduceAdd, Int.reduceLT, Int.reduceLE, Int.reduceNeg, Int.reduceBEq, Int.reduceBNe, Int.reduceEq, Nat.reduceLeDiff, Nat.reduceMul, Nat.reduceLT, *, driftC]
    | simp (singlePass := true) (maxDischargeDepth := 99) only [*, S2, Nat.reduceLT, driftC])
      refine CallsV.mono (driftDiff (a := pairA) (b := ⟨[⟨0, 0⟩], []⟩) (Nat.le_refl _) (world_own (x := pairA) (H1.1 _ FR) (R1.1 _ FR)) ⟨Own.slN (f := stateC) o2, Sl.nil _ _ _ _⟩ (by decide) (by decide) (by decide) pair_phase.1 (by decide)) fun v w10 hh => ⟨hh.1, ?_⟩
      obtain ⟨_, u0, rfl, _⟩ := hh
      exact ⟨u0, (by rw [kn_err]; rfl)⟩
    · have e := Option.some.inj ho
      subst e
      have d3 : ∃ u, (gF 43) = .tuple #[u, intV 1] := hdep ⟨3, .data⟩ (by simp) rfl _ _ rfl rfl
      obtain ⟨u3, e3⟩ := d3
      clear hag hdep ho
      refine relStep_off rfl ?_
      (repeat' first
    | ((with_reducible refine at_row ?_); refine row1_a fun _ _ _ _ _ _ _ => ?_)
    | with_reducible first | (first | apply alloc_k | apply row_k); intro _ _ _ _ _ _ | (first | apply fork | apply forkp) <;> intro _ | refine forke (fun _ => ?_) fun _ _ => ?_ | refine tail_k fun _ _ _ => ?_ | refine ext_k fun _ _ _ => ?_ | refine need_a ?_ | refine st_agg KR rfl ON fun _ _ _ _ => ?_ | refine wpd_q_a ?_
    | simp (maxDischargeDepth := 3) only [↓X, ↓Y, ↓Q, S1, ↓reduceIte, Nat.reduceEqDiff, Nat.reduceAdd, Int.reduceLT, Int.reduceLE, Int.reduceNeg, Int.reduceBEq, Int.reduceBNe, Int.reduceEq, Nat.reduceLeDiff, Nat.reduceMul, Nat.reduceLT, *, driftC]
    | simp (singlePass := true) (maxDischargeDepth := 99) only [*, S2, Nat.reduceLT, driftC])
      exact ⟨u3, rfl⟩
    · have e := Option.some.inj ho
      subst e
      have d4 : ∃ u, (gF 39) = .tuple #[u, intV 1] := hdep ⟨4, .data⟩ (by simp) rfl _ _ rfl rfl
      obtain ⟨u4, e4⟩ := d4
      clear hag hdep ho
      refine relStep_off rfl ?_
      (repeat' first
    | ((with_reducible refine at_row ?_); refine row1_a fun _ _ _ _ _ _ _ => ?_)
    | with_reducible first | (first | apply alloc_k | apply row_k); intro _ _ _ _ _ _ | (first | apply fork | apply forkp) <;> intro _ | refine forke (fun _ => ?_) fun _ _ => ?_ | refine tail_k fun _ _ _ => ?_ | refine ext_k fun _ _ _ => ?_ | refine need_a ?_ | refine st_agg KR rfl ON fun _ _ _ _ => ?_ | refine wpd_q_a ?_
    | simp (maxDischargeDepth := 3) only [↓X, ↓Y, ↓Q, S1, ↓reduceIte, Nat.reduceEqDiff, Nat.reduceAdd, Int.reduceLT, Int.reduceLE, Int.reduceNeg, Int.reduceBEq, Int.reduceBNe, Int.reduceEq, Nat.reduceLeDiff, Nat.reduceMul, Nat.reduceLT, *, driftC]
    | simp (singlePass := true) (maxDischargeDepth := 99) only [*, S2, Nat.reduceLT, driftC])
      all_goals exact trivial
    · have e := Option.some.inj ho
      subst e
      have d4 : ∃ u, (gF 39) = .tuple #[u, intV 1] := hdep ⟨4, .data⟩ (by simp) rfl _ _ rfl rfl
      obtain ⟨u4, e4⟩ := d4
      clear hag hdep ho
      refine relStep_off rfl ?_
      (repeat' first
    | ((with_reducible refine at_row ?_); refine row1_a fun _ _ _ _ _ _ _ => ?_)
    | with_reducible first | (first | apply alloc_k | apply row_k); intro _ _ _ _ _ _ | (first | apply fork | apply forkp) <;> intro _ | refine forke (fun _ => ?_) fun _ _ => ?_ | refine tail_k fun _ _ _ => ?_ | refine ext_k fun _ _ _ => ?_ | refine need_a ?_ | refine st_agg KR rfl ON fun _ _ _ _ => ?_ | refine wpd_q_a ?_
    | simp (maxDischargeDepth := 3) only [↓X, ↓Y, ↓Q, S1, ↓reduceIte, Nat.reduceEqDiff, Nat.reduceAdd, Int.reduceLT, Int.reduceLE, Int.reduceNeg, Int.reduceBEq, Int.reduceBNe, Int.reduceEq, Nat.reduceLeDiff, Nat.reduceMul, Nat.reduceLT, *, driftC]
    | simp (singlePass := true) (maxDischargeDepth := 99) only [*, S2, Nat.reduceLT, driftC])
    · have e := Option.some.inj ho
      subst e
      have d5 : True := hdep ⟨5, .data⟩ (by simp) rfl _ _ rfl rfl
      skip
      clear hag hdep ho
      refine relStep_off rfl ?_
      (repeat' first
    | ((with_reducible refine at_row ?_); refine row1_a fun _ _ _ _ _ _ _ => ?_)
    | with_reducible first | (first | apply alloc_k | apply row_k); intro _ _ _ _ _ _ | (first | apply fork | apply forkp) <;> intro _ | refine forke (fun _ => ?_) fun _ _ => ?_ | refine tail_k fun _ _ _ => ?_ | refine ext_k fun _ _ _ => ?_ | refine need_a ?_ | refine st_agg KR rfl ON fun _ _ _ _ => ?_ | refine wpd_q_a ?_
    | simp (maxDischargeDepth := 3) only [↓X, ↓Y, ↓Q, S1, ↓reduceIte, Nat.reduceEqDiff, Nat.reduceAdd, Int.reduceLT, Int.reduceLE, Int.reduceNeg, Int.reduceBEq, Int.reduceBNe, Int.reduceEq, Nat.reduceLeDiff, Nat.reduceMul, Nat.reduceLT, *, driftC]
    | simp (singlePass := true) (maxDischargeDepth := 99) only [*, S2, Nat.reduceLT, driftC])
      all_goals exact trivial
    · omega
  · intro g9 w9 hx9 hR hag
    have s9 := hx9.st
    have n9 : Now w9 := trivial
    have r9 := Ext.refl w9
    have z9 := hx9.size
    have d6 : (g9 45) = intV 1 := hR 6 _ _ (by decide) rfl rfl
    have a1 := hag.at 1 KR
    have a3 := hag.at 3 KR
    have a5 := hag.at 5 KR
    have a6 := hag.at 6 KR
    simp only [S5, ↓reduceIte, Nat.reduceEqDiff, initF, *] at a1 a3 a5 a6
    clear hag hR
    simp only [List.drop_succ_cons, List.drop_zero]
    (repeat' first
    | ((with_reducible refine at_row ?_); refine row1_a fun _ _ _ _ _ _ _ => ?_)
    | with_reducible first | (first | apply alloc_k | apply row_k); intro _ _ _ _ _ _ | (first | apply fork | apply forkp) <;> intro _ | refine forke (fun _ => ?_) fun _ _ => ?_ | refine tail_k fun _ _ _ => ?_ | refine ext_k fun _ _ _ => ?_ | refine need_a ?_ | refine st_agg KR rfl ON fun _ _ _ _ => ?_ | refine wpd_q_a ?_
    | simp (maxDischargeDepth := 3) only [↓X, ↓Y, ↓Q, S1, ↓reduceIte, Nat.reduceEqDiff, Nat.reduceAdd, Int.reduceLT, Int.reduceLE, Int.reduceNeg, Int.reduceBEq, Int.reduceBNe, Int.reduceEq, Nat.reduceLeDiff, Nat.reduceMul, Nat.reduceLT, *]
    | simp (singlePass := true) (maxDischargeDepth := 99) only [*, S2, Nat.reduceLT])
    refine call_k (driftBack (l := pairL) (Nat.le_refl _) ((O3.1 _ FR).slN (f := driftC)) (by decide)) ?_
    rintro v5 w5 n5 s5 o5
    rw [kn_back] at o5
    have O5 := o5.o
    clear o5
    (repeat' first
    | ((with_reducible refine at_row ?_); refine row1_a fun _ _ _ _ _ _ _ => ?_)
    | with_reducible first | (first | apply alloc_k | apply row_k); intro _ _ _ _ _ _ | (first | apply fork | apply forkp) <;> intro _ | refine forke (fun _ => ?_) fun _ _ => ?_ | refine tail_k fun _ _ _ => ?_ | refine ext_k fun _ _ _ => ?_ | refine need_a ?_ | refine st_agg KR rfl ON fun _ _ _ _ => ?_ | refine wpd_q_a ?_
    | simp (maxDischargeDepth := 3) only [↓X, ↓Y, ↓Q, S1, ↓reduceIte, Nat.reduceEqDiff, Nat.reduceAdd, Int.reduceLT, Int.reduceLE, Int.reduceNeg, Int.reduceBEq, Int.reduceBNe, Int.reduceEq, Nat.reduceLeDiff, Nat.reduceMul, Nat.reduceLT, *]
    | simp (singlePass := true) (maxDischargeDepth := 99) only [*, S2, Nat.reduceLT])
    rename_i bG wG nG kG sG qG
    have hG : OwnD wG 0 (.slice (some ⟨bG, 0, none⟩) 3 3) [⟨1, 1, 0, 0, 0⟩, ⟨2, 0, 0, 0, 0⟩, ⟨3, 1, 0, 1, 0⟩] := drift_row rfl (kG.2.1 _ FR) (by decide)
    refine ret_k (ref30Same (l := [⟨1, 1, 0, 0, 0⟩, ⟨2, 0, 0, 0, 0⟩, ⟨3, 1, 0, 1, 0⟩]) (q := [⟨1, 1, 0, 0, 0⟩, ⟨2, 0, 0, 0, 0⟩, ⟨3, 1, 0, 1, 0⟩]) (Nat.le_refl _) ((O5.1 _ FR).slN (f := driftC)) (hG.slN (f := driftC))) ?_
    intro w6 n6 s6
    rw [decide_eq_true rfl]
    clear hG
    (repeat' first
    | ((with_reducible refine at_row ?_); refine row1_a fun _ _ _ _ _ _ _ => ?_)
    | with_reducible first | (first | apply alloc_k | apply row_k); intro _ _ _ _ _ _ | (first | apply fork | apply forkp) <;> intro _ | refine forke (fun _ => ?_) fun _ _ => ?_ | refine tail_k fun _ _ _ => ?_ | refine ext_k fun _ _ _ => ?_ | refine need_a ?_ | refine st_agg KR rfl ON fun _ _ _ _ => ?_ | refine wpd_q_a ?_
    | simp (maxDischargeDepth := 3) only [↓X, ↓Y, ↓Q, S1, ↓reduceIte, Nat.reduceEqDiff, Nat.reduceAdd, Int.reduceLT, Int.reduceLE, Int.reduceNeg, Int.reduceBEq, Int.reduceBNe, Int.reduceEq, Nat.reduceLeDiff, Nat.reduceMul, Nat.reduceLT, *]
    | simp (singlePass := true) (maxDischargeDepth := 99) only [*, S2, Nat.reduceLT])
    rename_i bp0 wp0 np0 kp0 sp0 qp0
    have hp0 : OwnD wp0 0 (.slice (some ⟨bp0, 0, none⟩) 1 1) [⟨1, 1, 0, 0, 0⟩] := drift_row rfl (kp0.2.1 _ FR) (by decide)
    refine call_k (driftPatch (x := pairA) (l := [⟨1, 1, 0, 0, 0⟩]) (Nat.le_refl _) (world_own (x := pairA) (H1.1 _ FR) (R1.1 _ FR)) (hp0.slN (f := driftC)) (by decide) (by decide) pair_phase.1 (by decide)) ?_
    rintro _ wq0 nq0 sq0 ⟨_, rfl, hq0, rq0, rfl, oq0, ot0⟩
    rw [kn_p0]
    have a0 := oq0.one
    have c0 := ot0.one
    clear oq0 ot0 hp0
    (repeat' first
    | ((with_reducible refine at_row ?_); refine row1_a fun _ _ _ _ _ _ _ => ?_)
    | with_reducible first | (first | apply alloc_k | apply row_k); intro _ _ _ _ _ _ | (first | apply fork | apply forkp) <;> intro _ | refine forke (fun _ => ?_) fun _ _ => ?_ | refine tail_k fun _ _ _ => ?_ | refine ext_k fun _ _ _ => ?_ | refine need_a ?_ | refine st_agg KR rfl ON fun _ _ _ _ => ?_ | refine wpd_q_a ?_
    | simp (maxDischargeDepth := 3) only [↓X, ↓Y, ↓Q, S1, ↓reduceIte, Nat.reduceEqDiff, Nat.reduceAdd, Int.reduceLT, Int.reduceLE, Int.reduceNeg, Int.reduceBEq, Int.reduceBNe, Int.reduceEq, Nat.reduceLeDiff, Nat.reduceMul, Nat.reduceLT, *]
    | simp (singlePass := true) (maxDischargeDepth := 99) only [*, S2, Nat.reduceLT])
    rename_i bp1 wp1 np1 kp1 sp1 qp1
    have hp1 : OwnD wp1 0 (.slice (some ⟨bp1, 0, none⟩) 1 1) [⟨2, 0, 0, 0, 0⟩] := drift_row rfl (kp1.2.1 _ FR) (by decide)
    refine call_k (driftPatch (x := pairA) (l := [⟨2, 0, 0, 0, 0⟩]) (Nat.le_refl _) (world_own (x := pairA) (H1.1 _ FR) (R1.1 _ FR)) (hp1.slN (f := driftC)) (by decide) (by decide) pair_phase.1 (by decide)) ?_
    rintro _ wq1 nq1 sq1 ⟨_, rfl, hq1, rq1, rfl, oq1, ot1⟩
    rw [kn_p1]
    have a1 := oq1.one
    have c1 := ot1.one
    clear oq1 ot1 hp1
    (repeat' first
    | ((with_reducible refine at_row ?_); refine row1_a fun _ _ _ _ _ _ _ => ?_)
    | with_reducible first | (first | apply alloc_k | apply row_k); intro _ _ _ _ _ _ | (first | apply fork | apply forkp) <;> intro _ | refine forke (fun _ => ?_) fun _ _ => ?_ | refine tail_k fun _ _ _ => ?_ | refine ext_k fun _ _ _ => ?_ | refine need_a ?_ | refine st_agg KR rfl ON fun _ _ _ _ => ?_ | refine wpd_q_a ?_
    | simp (maxDischargeDepth := 3) only [↓X, ↓Y, ↓Q, S1, ↓reduceIte, Nat.reduceEqDiff, Nat.reduceAdd, Int.reduceLT, Int.reduceLE, Int.reduceNeg, Int.reduceBEq, Int.reduceBNe, Int.reduceEq, Nat.reduceLeDiff, Nat.reduceMul, Nat.reduceLT, *]
    | simp (singlePass := true) (maxDischargeDepth := 99) only [*, S2, Nat.reduceLT])
    rename_i bp2 wp2 np2 kp2 sp2 qp2
    have hp2 : OwnD wp2 0 (.slice (some ⟨bp2, 0, none⟩) 1 1) [⟨3, 1, 0, 1, 0⟩] := drift_row rfl (kp2.2.1 _ FR) (by decide)
    refine call_k (driftPatch (x := pairA) (l := [⟨3, 1, 0, 1, 0⟩]) (Nat.le_refl _) (world_own (x := pairA) (H1.1 _ FR) (R1.1 _ FR)) (hp2.slN (f := driftC)) (by decide) (by decide) pair_phase.1 (by decide)) ?_
    rintro _ wq2 nq2 sq2 ⟨_, rfl, hq2, rq2, rfl, oq2, ot2⟩
    rw [kn_p2]
    have a2 := oq2.one
    have c2 := ot2.one
    clear oq2 ot2 hp2
    (repeat' first
    | ((with_reducible refine at_row ?_); refine row1_a fun _ _ _ _ _ _ _ => ?_)
    | with_reducible first | (first | apply alloc_k | apply row_k); intro _ _ _ _ _ _ | (first | apply fork | apply forkp) <;> intro _ | refine forke (fun _ => ?_) fun _ _ => ?_ | refine tail_k fun _ _ _ => ?_ | refine ext_k fun _ _ _ => ?_ | refine need_a ?_ | refine st_agg KR rfl ON fun _ _ _ _ => ?_ | refine wpd_q_a ?_
    | simp (maxDischargeDepth := 3) only [↓X, ↓Y, ↓Q, S1, ↓reduceIte, Nat.reduceEqDiff, Nat.reduceAdd, Int.reduceLT, Int.reduceLE, Int.reduceNeg, Int.reduceBEq, Int.reduceBNe, Int.reduceEq, Nat.reduceLeDiff, Nat.reduceMul, Nat.reduceLT, *]
    | simp (singlePass := true) (maxDischargeDepth := 99) only [*, S2, Nat.reduceLT])
    rename_i bp3 wp3 np3 kp3 sp3 qp3
    have hp3 : OwnD wp3 0 (.slice (some ⟨bp3, 0, none⟩) 1 1) [⟨3, 2, 0, 0, 0⟩] := drift_row rfl (kp3.2.1 _ FR) (by decide)
    refine call_k (driftPatch (x := pairA) (l := [⟨3, 2, 0, 0, 0⟩]) (Nat.le_refl _) (world_own (x := pairA) (H1.1 _ FR) (R1.1 _ FR)) (hp3.slN (f := driftC)) (by decide) (by decide) pair_phase.1 (by decide)) ?_
    rintro _ wq3 nq3 sq3 ⟨_, rfl, hq3, rq3, rfl, oq3, ot3⟩
    rw [kn_p3]
    have a3 := oq3.one
    have c3 := ot3.one
    clear oq3 ot3 hp3
    (repeat' first
    | ((with_reducible refine at_row ?_); refine row1_a fun _ _ _ _ _ _ _ => ?_)
    | with_reducible first | (first | apply alloc_k | apply row_k); intro _ _ _ _ _ _ | (first | apply fork | apply forkp) <;> intro _ | refine forke (fun _ => ?_) fun _ _ => ?_ | refine tail_k fun _ _ _ => ?_ | refine ext_k fun _ _ _ => ?_ | refine need_a ?_ | refine st_agg KR rfl ON fun _ _ _ _ => ?_ | refine wpd_q_a ?_
    | simp (maxDischargeDepth := 3) only [↓X, ↓Y, ↓Q, S1, ↓reduceIte, Nat.reduceEqDiff, Nat.reduceAdd, Int.reduceLT, Int.reduceLE, Int.reduceNeg, Int.reduceBEq, Int.reduceBNe, Int.reduceEq, Nat.reduceLeDiff, Nat.reduceMul, Nat.reduceLT, *]
    | simp (singlePass := true) (maxDischargeDepth := 99) only [*, S2, Nat.reduceLT])
    rename_i bp4 wp4 np4 kp4 sp4 qp4
    have hp4 : OwnD wp4 0 (.slice (some ⟨bp4, 0, none⟩) 1 1) [⟨3, 1, 0, 0, 256⟩] := drift_row rfl (kp4.2.1 _ FR) (by decide)
    refine call_k (driftPatch (x := pairA) (l := [⟨3, 1, 0, 0, 256⟩]) (Nat.le_refl _) (world_own (x := pairA) (H1.1 _ FR) (R1.1 _ FR)) (hp4.slN (f := driftC)) (by decide) (by decide) pair_phase.1 (by decide)) ?_
    rintro _ wq4 nq4 sq4 ⟨_, rfl, hq4, rq4, rfl, oq4, ot4⟩
    rw [kn_p4]
    have a4 := oq4.one
    have c4 := ot4.one
    clear oq4 ot4 hp4
    (repeat' first
    | ((with_reducible refine at_row ?_); refine row1_a fun _ _ _ _ _ _ _ => ?_)
    | with_reducible first | (first | apply alloc_k | apply row_k); intro _ _ _ _ _ _ | (first | apply fork | apply forkp) <;> intro _ | refine forke (fun _ => ?_) fun _ _ => ?_ | refine tail_k fun _ _ _ => ?_ | refine ext_k fun _ _ _ => ?_ | refine need_a ?_ | refine st_agg KR rfl ON fun _ _ _ _ => ?_ | refine wpd_q_a ?_
    | simp (maxDischargeDepth := 3) only [↓X, ↓Y, ↓Q, S1, ↓reduceIte, Nat.reduceEqDiff, Nat.reduceAdd, Int.reduceLT, Int.reduceLE, Int.reduceNeg, Int.reduceBEq, Int.reduceBNe, Int.reduceEq, Nat.reduceLeDiff, Nat.reduceMul, Nat.reduceLT, *]
    | simp (singlePass := true) (maxDischargeDepth := 99) only [*, S2, Nat.reduceLT])
    rename_i bp5 wp5 np5 kp5 sp5 qp5
    have hp5 : OwnD wp5 0 (.slice (some ⟨bp5, 0, none⟩) 1 1) [⟨0, 0, 0, 0, 0⟩] := drift_row rfl (kp5.2.1 _ FR) (by decide)
    refine call_k (driftPatch (x := pairA) (l := [⟨0, 0, 0, 0, 0⟩]) (Nat.le_refl _) (world_own (x := pairA) (H1.1 _ FR) (R1.1 _ FR)) (hp5.slN (f := driftC)) (by decide) (by decide) pair_phase.1 (by decide)) ?_
    rintro _ wq5 nq5 sq5 ⟨_, rfl, hq5, rq5, rfl, oq5, ot5⟩
    rw [kn_p5]
    have a5 := oq5.one
    have c5 := ot5.one
    clear oq5 ot5 hp5
    (repeat' first
    | ((with_reducible refine at_row ?_); refine row1_a fun _ _ _ _ _ _ _ => ?_)
    | with_reducible first | (first | apply alloc_k | apply row_k); intro _ _ _ _ _ _ | (first | apply fork | apply forkp) <;> intro _ | refine forke (fun _ => ?_) fun _ _ => ?_ | refine tail_k fun _ _ _ => ?_ | refine ext_k fun _ _ _ => ?_ | refine need_a ?_ | refine st_agg KR rfl ON fun _ _ _ _ => ?_ | refine wpd_q_a ?_
    | ((with_reducible refine at_f 8 ?_); refine ret_k (lives30) fun _ _ _ => ?_)
    | simp (maxDischargeDepth := 3) only [↓X, ↓Y, ↓Q, S1, ↓reduceIte, Nat.reduceEqDiff, Nat.reduceAdd, Int.reduceLT, Int.reduceLE, Int.reduceNeg, Int.reduceBEq, Int.reduceBNe, Int.reduceEq, Nat.reduceLeDiff, Nat.reduceMul, Nat.reduceLT, *]
    | simp (singlePass := true) (maxDischargeDepth := 99) only [*, S2, Nat.reduceLT])
end
end Go.Proofs.Ytmcdgepfhpakiaa
