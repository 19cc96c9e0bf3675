
/- The library's Clone, of hosts and of differences. -/
import Derived.Test.YtmcdgepfhpakiaaGreatDrift2
import Derived.Test.YtmcdgepfhpakiaaGreatCopy13
namespace Go.Proofs.YtmcdgepfhpakiaaGreat
set_option linter.unusedSimpArgs false
set_option linter.unusedVariables false
open Go Go.RowKit
set_option maxRecDepth 100000
set_option linter.unusedSectionVars false
set_option maxHeartbeats 1000000
section
variable {w : World} {B : Nat} {v : Value}
theorem slicesCloneH {l : List StateD} (hB : B ≤ w.heap.size) (hv : Sl w B (some 2) 2 v (l.map stateV)) (hlen : l.length ≤ 1000000) : CallsV Tryz.prog 37 #[v] w fun v w' => Ext w w' ∧ OwnH w' w.heap.size v l := by
  have hn : Now w := trivial
  have hx : Ext w w := Ext.refl w
  have hv' := hv.k hB
  (refine callsV_of Tryz.func37 rfl KR KR ?_; rw [Tryz.results37])
  (repeat' first
    | ((with_reducible refine at_row ?_); refine row1_a fun _ _ _ _ _ _ _ => ?_)
    | with_reducible first | (first | apply alloc_k | apply row_k); intro _ _ _ _ _ _ | (first | apply fork | apply forkp) <;> intro _ | refine forke (fun _ => ?_) fun _ _ => ?_ | refine tail_k fun _ _ _ => ?_ | refine ext_k fun _ _ _ => ?_ | refine need_a ?_ | refine st_agg KR rfl ON fun _ _ _ _ => ?_ | refine wpd_q_a ?_
    | simp (maxDischargeDepth := 3) only [↓X, ↓Y, ↓Q, S1, ↓reduceIte, Nat.reduceEqDiff, Nat.reduceAdd, Int.reduceLT, Int.reduceLE, Int.reduceNeg, Int.reduceBEq, Int.reduceBNe, Int.reduceEq, Nat.reduceLeDiff, Nat.reduceMul, Nat.reduceLT, *]
    | simp (singlePass := true) (maxDischargeDepth := 99) only [*, S2, Nat.reduceLT])
  · rw [nil_of hv (by assumption)]
    exact Own.nil _ _ _ _
  · rename_i w1 n1 k1 s1 nw1 sl1
    refine appendAll_k (e := 76) (sz := 2) (by_ := 16) (z := .agg #[.int .u8 0, .int .i64 0]) (B := w.heap.size) (l := ([] : List StateD)) (r := l) (c := stateC) KR KR rfl (by decide) (by decide) (Own.ofBlkN (by simp) (k1.2.1 _ FR) (by simp) FR (by simp)) (hv'.2.2.2.2.2.2.1 _ FR) (fun _ => rfl) stateC_one (by simp; omega) FR fun v2 w2 n2 s2 hown => ?_
    have o2 := hown.o
    (repeat' first
    | ((with_reducible refine at_row ?_); refine row1_a fun _ _ _ _ _ _ _ => ?_)
    | with_reducible first | (first | apply alloc_k | apply row_k); intro _ _ _ _ _ _ | (first | apply fork | apply forkp) <;> intro _ | refine forke (fun _ => ?_) fun _ _ => ?_ | refine tail_k fun _ _ _ => ?_ | refine ext_k fun _ _ _ => ?_ | refine need_a ?_ | refine st_agg KR rfl ON fun _ _ _ _ => ?_ | refine wpd_q_a ?_
    | simp (maxDischargeDepth := 3) only [↓X, ↓Y, ↓Q, S1, ↓reduceIte, Nat.reduceEqDiff, Nat.reduceAdd, Int.reduceLT, Int.reduceLE, Int.reduceNeg, Int.reduceBEq, Int.reduceBNe, Int.reduceEq, Nat.reduceLeDiff, Nat.reduceMul, Nat.reduceLT, *]
    | simp (singlePass := true) (maxDischargeDepth := 99) only [*, S2, Nat.reduceLT])
    exact o2.1 _ FR
end
end Go.Proofs.YtmcdgepfhpakiaaGreat
