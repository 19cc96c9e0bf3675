
/- The laws of the layer drift: few. -/
import Derived.Test.YtmcdgepfhpakiaaGreatDrift4
namespace Go.Proofs.YtmcdgepfhpakiaaGreat
set_option linter.unusedSimpArgs false
set_option linter.unusedVariables false
open Go Go.RowKit
set_option maxRecDepth 100000
set_option linter.unusedSectionVars false
set_option maxHeartbeats 2000000
def few30B (x : WorldD) : Bool := decide (x.hosts.length ≤ 40) && decide (x.replicas.length ≤ 60)
section
variable {w : World} {B : Nat} {hv rv : Value} {x : WorldD}
theorem few30 (hB : B ≤ w.heap.size) (hx0 : WorldR w B hv rv x) : Ret Tryz.prog 5 #[.agg #[hv, rv]] w (.bool (few30B x)) := by
  have hn : Now w := trivial
  have hx : Ext w w := Ext.refl w
  have hx' := hx0.sk hB
  (refine callsV_of Tryz.func5 rfl KR KR ?_; rw [Tryz.results5])
  (repeat' first
    | ((with_reducible refine at_row ?_); refine row1_a fun _ _ _ _ _ _ _ => ?_)
    | with_reducible first | (first | apply alloc_k | apply row_k); intro _ _ _ _ _ _ | (first | apply fork | apply forkp) <;> intro _ | refine forke (fun _ => ?_) fun _ _ => ?_ | refine tail_k fun _ _ _ => ?_ | refine ext_k fun _ _ _ => ?_ | refine need_a ?_ | refine st_agg KR rfl ON fun _ _ _ _ => ?_ | refine wpd_q_a ?_
    | simp (maxDischargeDepth := 3) only [↓X, ↓Y, ↓Q, S1, ↓reduceIte, Nat.reduceEqDiff, Nat.reduceAdd, Int.reduceLT, Int.reduceLE, Int.reduceNeg, Int.reduceBEq, Int.reduceBNe, Int.reduceEq, Nat.reduceLeDiff, Nat.reduceMul, Nat.reduceLT, *]
    | simp (singlePass := true) (maxDischargeDepth := 99) only [*, S2, Nat.reduceLT])
  all_goals
    have e1 : ((x.hosts.length : Int) ≤ 40) = (x.hosts.length ≤ 40) := by simp only [eq_iff_iff]; omega
    have e2 : ((x.replicas.length : Int) ≤ 60) = (x.replicas.length ≤ 60) := by simp only [eq_iff_iff]; omega
    simp_all [few30B]
    try omega
end
end Go.Proofs.YtmcdgepfhpakiaaGreat
