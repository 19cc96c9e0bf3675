
/- The laws of the layer drift: DriftDiffs. -/
import Derived.Test.YtmcdgepfhpakiaaLaw30c
import Derived.Test.YtmcdgepfhpakiaaRef30b
namespace Go.Proofs.Ytmcdgepfhpakiaa
set_option linter.unusedSimpArgs false
set_option linter.unusedVariables false
open Go Go.RowKit
set_option maxRecDepth 100000
set_option linter.unusedSectionVars false
set_option maxHeartbeats 2000000
theorem few30_len {x : WorldD} (h : few30B x = true) : x.hosts.length ≤ 40 ∧ x.replicas.length ≤ 60 := by
  simpa [few30B] using h
section
variable {w : World} {B : Nat} {hv rv hv' rv' : Value} {x y : WorldD}
theorem lawDriftDiffs (hB : B ≤ w.heap.size) (hx0 : WorldR w B hv rv x) (hy0 : WorldR w B hv' rv' y) (hpx : ∀ s ∈ x.hosts, 0 ≤ s.phase ∧ s.phase ≤ 255) (hpy : ∀ s ∈ y.hosts, 0 ≤ s.phase ∧ s.phase ≤ 255) : Ret Try.prog 3 #[.agg #[hv, rv], .agg #[hv', rv']] w (.bool true) := by
  have hn : Now w := trivial
  have hx : Ext w w := Ext.refl w
  have hx' := hx0.sk hB
  have hX := hx'.2.2.2.2
  have hy' := hy0.sk hB
  have hY := hy'.2.2.2.2
  cases hfx : few30B x
  · (refine callsV_of Try.func3 rfl KR KR ?_; rw [Try.results3])
    (repeat' first
    | ((with_reducible refine at_row ?_); refine row1_a fun _ _ _ _ _ _ _ => ?_)
    | with_reducible first | (first | apply alloc_k | apply row_k); intro _ _ _ _ _ _ | (first | apply fork | apply forkp) <;> intro _ | refine forke (fun _ => ?_) fun _ _ => ?_ | refine tail_k fun _ _ _ => ?_ | refine ext_k fun _ _ _ => ?_ | refine need_a ?_ | refine st_agg KR rfl ON fun _ _ _ _ => ?_ | refine wpd_q_a ?_
    | ((with_reducible refine at_f 7 ?_); refine ret_k (few30 (B := B) (x := x) FR (hX _ FR)) fun _ _ _ => ?_)
    | ((with_reducible refine at_f 7 ?_); refine ret_k (few30 (B := B) (x := y) FR (hY _ FR)) fun _ _ _ => ?_)
    | ((with_reducible refine at_f 8 ?_); refine ret_k (lives30) fun _ _ _ => ?_)
    | simp (maxDischargeDepth := 3) only [↓X, ↓Y, ↓Q, S1, ↓reduceIte, Nat.reduceEqDiff, Nat.reduceAdd, Int.reduceLT, Int.reduceLE, Int.reduceNeg, Int.reduceBEq, Int.reduceBNe, Int.reduceEq, Nat.reduceLeDiff, Nat.reduceMul, Nat.reduceLT, *]
    | simp (singlePass := true) (maxDischargeDepth := 99) only [*, S2, Nat.reduceLT])
  · have hlx := few30_len hfx
    replace hlx : Hid _ := hlx
    cases hfy : few30B y
    · (refine callsV_of Try.func3 rfl KR KR ?_; rw [Try.results3])
      (repeat' first
    | ((with_reducible refine at_row ?_); refine row1_a fun _ _ _ _ _ _ _ => ?_)
    | with_reducible first | (first | apply alloc_k | apply row_k); intro _ _ _ _ _ _ | (first | apply fork | apply forkp) <;> intro _ | refine forke (fun _ => ?_) fun _ _ => ?_ | refine tail_k fun _ _ _ => ?_ | refine ext_k fun _ _ _ => ?_ | refine need_a ?_ | refine st_agg KR rfl ON fun _ _ _ _ => ?_ | refine wpd_q_a ?_
    | ((with_reducible refine at_f 7 ?_); refine ret_k (few30 (B := B) (x := x) FR (hX _ FR)) fun _ _ _ => ?_)
    | ((with_reducible refine at_f 7 ?_); refine ret_k (few30 (B := B) (x := y) FR (hY _ FR)) fun _ _ _ => ?_)
    | ((with_reducible refine at_f 8 ?_); refine ret_k (lives30) fun _ _ _ => ?_)
    | simp (maxDischargeDepth := 3) only [↓X, ↓Y, ↓Q, S1, ↓reduceIte, Nat.reduceEqDiff, Nat.reduceAdd, Int.reduceLT, Int.reduceLE, Int.reduceNeg, Int.reduceBEq, Int.reduceBNe, Int.reduceEq, Nat.reduceLeDiff, Nat.reduceMul, Nat.reduceLT, *]
    | simp (singlePass := true) (maxDischargeDepth := 99) only [*, S2, Nat.reduceLT])
    · have hly := few30_len hfy
      replace hly : Hid _ := hly
      (refine callsV_of Try.func3 rfl KR KR ?_; rw [Try.results3])
      (repeat' first
    | ((with_reducible refine at_row ?_); refine row1_a fun _ _ _ _ _ _ _ => ?_)
    | with_reducible first | (first | apply alloc_k | apply row_k); intro _ _ _ _ _ _ | (first | apply fork | apply forkp) <;> intro _ | refine forke (fun _ => ?_) fun _ _ => ?_ | refine tail_k fun _ _ _ => ?_ | refine ext_k fun _ _ _ => ?_ | refine need_a ?_ | refine st_agg KR rfl ON fun _ _ _ _ => ?_ | refine wpd_q_a ?_
    | ((with_reducible refine at_f 7 ?_); refine ret_k (few30 (B := B) (x := x) FR (hX _ FR)) fun _ _ _ => ?_)
    | ((with_reducible refine at_f 7 ?_); refine ret_k (few30 (B := B) (x := y) FR (hY _ FR)) fun _ _ _ => ?_)
    | simp (maxDischargeDepth := 3) only [↓X, ↓Y, ↓Q, S1, ↓reduceIte, Nat.reduceEqDiff, Nat.reduceAdd, Int.reduceLT, Int.reduceLE, Int.reduceNeg, Int.reduceBEq, Int.reduceBNe, Int.reduceEq, Nat.reduceLeDiff, Nat.reduceMul, Nat.reduceLT, *]
    | simp (singlePass := true) (maxDischargeDepth := 99) only [*, S2, Nat.reduceLT])
      have hL : (x.hosts.length ≤ 1000000 ∧ x.replicas.length ≤ 1000000) ∧ y.hosts.length ≤ 1000000 ∧ y.replicas.length ≤ 1000000 := by have h1 := hlx.out; have h2 := hly.out; omega
      replace hL : Hid _ := hL
      refine call_k (driftDiff (B := B) FR (hX _ FR) (hY _ FR) hL.out.1.1 hL.out.1.2 hL.out.2.2 hpx hpy) ?_
      rintro _ w1 n1 s1 ⟨v1, rfl, o1⟩
      generalize hE0 : diffE x y = E at *
      generalize hD0 : (if diffOk x y = true then diffL x y else []) = L at *
      replace hE0 : Hid _ := hE0
      replace hD0 : Hid _ := hD0
      have O1 := o1.o
      clear o1
      (repeat' first
    | ((with_reducible refine at_row ?_); refine row1_a fun _ _ _ _ _ _ _ => ?_)
    | with_reducible first | (first | apply alloc_k | apply row_k); intro _ _ _ _ _ _ | (first | apply fork | apply forkp) <;> intro _ | refine forke (fun _ => ?_) fun _ _ => ?_ | refine tail_k fun _ _ _ => ?_ | refine ext_k fun _ _ _ => ?_ | refine need_a ?_ | refine st_agg KR rfl ON fun _ _ _ _ => ?_ | refine wpd_q_a ?_
    | simp (maxDischargeDepth := 3) only [↓X, ↓Y, ↓Q, S1, ↓reduceIte, Nat.reduceEqDiff, Nat.reduceAdd, Int.reduceLT, Int.reduceLE, Int.reduceNeg, Int.reduceBEq, Int.reduceBNe, Int.reduceEq, Nat.reduceLeDiff, Nat.reduceMul, Nat.reduceLT, *]
    | simp (singlePass := true) (maxDischargeDepth := 99) only [*, S2, Nat.reduceLT])
      refine call_k (ref30Diff (B := B) FR (hX _ FR) (hY _ FR) hL.out.1.1 hL.out.1.2 hL.out.2.2 hpx hpy) ?_
      rintro _ w2 n2 s2 ⟨v2, rfl, o2⟩
      rw [hE0.out]
      rw [hD0.out] at o2
      have O2 := o2.o
      clear o2
      (repeat' first
    | ((with_reducible refine at_row ?_); refine row1_a fun _ _ _ _ _ _ _ => ?_)
    | with_reducible first | (first | apply alloc_k | apply row_k); intro _ _ _ _ _ _ | (first | apply fork | apply forkp) <;> intro _ | refine forke (fun _ => ?_) fun _ _ => ?_ | refine tail_k fun _ _ _ => ?_ | refine ext_k fun _ _ _ => ?_ | refine need_a ?_ | refine st_agg KR rfl ON fun _ _ _ _ => ?_ | refine wpd_q_a ?_
    | simp (maxDischargeDepth := 3) only [↓X, ↓Y, ↓Q, S1, ↓reduceIte, Nat.reduceEqDiff, Nat.reduceAdd, Int.reduceLT, Int.reduceLE, Int.reduceNeg, Int.reduceBEq, Int.reduceBNe, Int.reduceEq, Nat.reduceLeDiff, Nat.reduceMul, Nat.reduceLT, *]
    | simp (singlePass := true) (maxDischargeDepth := 99) only [*, S2, Nat.reduceLT])
      refine ret_k (ref30Same (l := L) (q := L) (Nat.le_refl _) ((O1.1 _ FR).slN (f := driftC)) ((O2.1 _ FR).slN (f := driftC))) ?_
      intro w3 n3 s3
      rw [decide_eq_true rfl]
      (repeat' first
    | ((with_reducible refine at_row ?_); refine row1_a fun _ _ _ _ _ _ _ => ?_)
    | with_reducible first | (first | apply alloc_k | apply row_k); intro _ _ _ _ _ _ | (first | apply fork | apply forkp) <;> intro _ | refine forke (fun _ => ?_) fun _ _ => ?_ | refine tail_k fun _ _ _ => ?_ | refine ext_k fun _ _ _ => ?_ | refine need_a ?_ | refine st_agg KR rfl ON fun _ _ _ _ => ?_ | refine wpd_q_a ?_
    | ((with_reducible refine at_f 8 ?_); refine ret_k (lives30) fun _ _ _ => ?_)
    | simp (maxDischargeDepth := 3) only [↓X, ↓Y, ↓Q, S1, ↓reduceIte, Nat.reduceEqDiff, Nat.reduceAdd, Int.reduceLT, Int.reduceLE, Int.reduceNeg, Int.reduceBEq, Int.reduceBNe, Int.reduceEq, Nat.reduceLeDiff, Nat.reduceMul, Nat.reduceLT, *]
    | simp (singlePass := true) (maxDischargeDepth := 99) only [*, S2, Nat.reduceLT])
end
end Go.Proofs.Ytmcdgepfhpakiaa
