
/- The laws of the layer drift: DriftExplains. -/
import Derived.Test.YtmcdgepfhpakiaaGreatLaw30c
import Derived.Test.YtmcdgepfhpakiaaGreatRef30c
namespace Go.Proofs.YtmcdgepfhpakiaaGreat
set_option linter.unusedSimpArgs false
set_option linter.unusedVariables false
open Go Go.RowKit
set_option maxRecDepth 100000
set_option linter.unusedSectionVars false
set_option maxHeartbeats 2000000
def explE (ok : Bool) (o : Option (List Nat)) : Int := if ok = true then (if o.isSome = true then 0 else 7) else 1
def explL (ok : Bool) (o : Option (List Nat)) : List Nat := if ok = true then o.getD [] else []
theorem ExplR.sh {B : Nat} {w' : World} {v : Value} {ok : Bool} {o : Option (List Nat)} (h : ExplR B w' v ok o) : ∃ u, v = .tuple #[u, intV (explE ok o)] ∧ OwnN w' B u (explL ok o) := by
  unfold ExplR at h
  cases ok with
  | false =>
    rw [if_neg (by decide)] at h
    exact ⟨_, h, Own.nil _ _ _ _⟩
  | true =>
    rw [if_pos rfl] at h
    cases o with
    | none => exact ⟨_, h, Own.nil _ _ _ _⟩
    | some l =>
      obtain ⟨u, e, ho⟩ := h
      exact ⟨u, e, ho⟩
section
variable {w : World} {B : Nat} {u : SiteVs} {sd : SiteD} {wv : Value} {l : List SrvV} {hv rv hs' rs' sv : Value} {seen x : WorldD} {steps : List StepD}
theorem lawDriftExplains (hB : B ≤ w.heap.size) (hs : SiteR w B u sd) (hl : WishR w B wv l) (hx0 : WorldR w B hv rv x) (hst : Sl w B (some 4) 4 sv (steps.map stepV)) (hy0 : WorldR w B hs' rs' seen) : Ret Tryz.prog 3 #[.agg (siteC u sd).toArray, .agg #[wv], .agg #[hv, rv], sv, .agg #[hs', rs']] w (.bool true) := by
  have hn : Now w := trivial
  have hx : Ext w w := Ext.refl w
  have hsk := hs.sk hB
  have hlk := hl.sk hB
  have hx' := hx0.sk hB
  have hy' := hy0.sk hB
  have hS := hsk.2.2.2.2.2.2
  have hW := hlk.2.2
  have hX := hx'.2.2.2.2
  have hY := hy'.2.2.2.2
  have hq := hst.k hB
  have hQ := fun w' (h : Bl B w w') => hst.bl h
  have bB : Bl B w w := Bl.refl hB
  cases hfx : few30B x
  · (refine callsV_of Tryz.func3 rfl KR KR ?_; rw [Tryz.results3])
    (repeat' first
    | ((with_reducible refine at_row ?_); refine row1_a fun _ _ _ _ _ _ _ => ?_)
    | with_reducible first | (first | apply alloc_k | apply row_k); intro _ _ _ _ _ _ | (first | apply fork | apply forkp) <;> intro _ | refine forke (fun _ => ?_) fun _ _ => ?_ | refine tail_k fun _ _ _ => ?_ | refine ext_k fun _ _ _ => ?_ | refine need_a ?_ | refine st_agg KR rfl ON fun _ _ _ _ => ?_ | refine wpd_q_a ?_
    | ((with_reducible refine at_f 5 ?_); refine ret_k (few30 (B := B) (x := x) FR (hX _ FR)) fun _ _ _ => ?_)
    | ((with_reducible refine at_f 6 ?_); refine ret_k (lives30) fun _ _ _ => ?_)
    | simp (maxDischargeDepth := 3) only [↓X, ↓Y, ↓Q, S1, ↓reduceIte, Nat.reduceEqDiff, Nat.reduceAdd, Int.reduceLT, Int.reduceLE, Int.reduceNeg, Int.reduceBEq, Int.reduceBNe, Int.reduceEq, Nat.reduceLeDiff, Nat.reduceMul, Nat.reduceLT, *, siteC]
    | simp (singlePass := true) (maxDischargeDepth := 99) only [*, S2, Nat.reduceLT, siteC])
  cases hfy : few30B seen
  · (refine callsV_of Tryz.func3 rfl KR KR ?_; rw [Tryz.results3])
    (repeat' first
    | ((with_reducible refine at_row ?_); refine row1_a fun _ _ _ _ _ _ _ => ?_)
    | with_reducible first | (first | apply alloc_k | apply row_k); intro _ _ _ _ _ _ | (first | apply fork | apply forkp) <;> intro _ | refine forke (fun _ => ?_) fun _ _ => ?_ | refine tail_k fun _ _ _ => ?_ | refine ext_k fun _ _ _ => ?_ | refine need_a ?_ | refine st_agg KR rfl ON fun _ _ _ _ => ?_ | refine wpd_q_a ?_
    | ((with_reducible refine at_f 5 ?_); refine ret_k (few30 (B := B) (x := x) FR (hX _ FR)) fun _ _ _ => ?_)
    | ((with_reducible refine at_f 5 ?_); refine ret_k (few30 (B := B) (x := seen) FR (hY _ FR)) fun _ _ _ => ?_)
    | ((with_reducible refine at_f 6 ?_); refine ret_k (lives30) fun _ _ _ => ?_)
    | simp (maxDischargeDepth := 3) only [↓X, ↓Y, ↓Q, S1, ↓reduceIte, Nat.reduceEqDiff, Nat.reduceAdd, Int.reduceLT, Int.reduceLE, Int.reduceNeg, Int.reduceBEq, Int.reduceBNe, Int.reduceEq, Nat.reduceLeDiff, Nat.reduceMul, Nat.reduceLT, *, siteC]
    | simp (singlePass := true) (maxDischargeDepth := 99) only [*, S2, Nat.reduceLT, siteC])
  (refine callsV_of Tryz.func3 rfl KR KR ?_; rw [Tryz.results3])
  (repeat' first
    | ((with_reducible refine at_row ?_); refine row1_a fun _ _ _ _ _ _ _ => ?_)
    | with_reducible first | (first | apply alloc_k | apply row_k); intro _ _ _ _ _ _ | (first | apply fork | apply forkp) <;> intro _ | refine forke (fun _ => ?_) fun _ _ => ?_ | refine tail_k fun _ _ _ => ?_ | refine ext_k fun _ _ _ => ?_ | refine need_a ?_ | refine st_agg KR rfl ON fun _ _ _ _ => ?_ | refine wpd_q_a ?_
    | ((with_reducible refine at_f 5 ?_); refine ret_k (few30 (B := B) (x := x) FR (hX _ FR)) fun _ _ _ => ?_)
    | ((with_reducible refine at_f 5 ?_); refine ret_k (few30 (B := B) (x := seen) FR (hY _ FR)) fun _ _ _ => ?_)
    | ((with_reducible refine at_f 6 ?_); refine ret_k (lives30) fun _ _ _ => ?_)
    | simp (maxDischargeDepth := 3) only [↓X, ↓Y, ↓Q, S1, ↓reduceIte, Nat.reduceEqDiff, Nat.reduceAdd, Int.reduceLT, Int.reduceLE, Int.reduceNeg, Int.reduceBEq, Int.reduceBNe, Int.reduceEq, Nat.reduceLeDiff, Nat.reduceMul, Nat.reduceLT, *, siteC]
    | simp (singlePass := true) (maxDischargeDepth := 99) only [*, S2, Nat.reduceLT, siteC])
  all_goals
    refine call_k (driftExplain (B := B) FR (hS _ FR) (hW _ FR) (hX _ FR) (hQ _ FR) (hY _ FR)) ?_
    rintro _ w1 n1 s1 h1
    obtain ⟨v1, rfl, o1⟩ := h1.sh
    have a1 := o1.one
    have S1' := o1.sl1 (f := nV)
    have z1 : B ≤ w1.heap.size := FR
    have S1k := S1'.k (Nat.le_refl _)
    have b1 : Bl w1.heap.size w1 w1 := Bl.refl (Nat.le_refl _)
    clear h1 o1
    (repeat' first
    | ((with_reducible refine at_row ?_); refine row1_a fun _ _ _ _ _ _ _ => ?_)
    | with_reducible first | (first | apply alloc_k | apply row_k); intro _ _ _ _ _ _ | (first | apply fork | apply forkp) <;> intro _ | refine forke (fun _ => ?_) fun _ _ => ?_ | refine tail_k fun _ _ _ => ?_ | refine ext_k fun _ _ _ => ?_ | refine need_a ?_ | refine st_agg KR rfl ON fun _ _ _ _ => ?_ | refine wpd_q_a ?_
    | simp (maxDischargeDepth := 3) only [↓X, ↓Y, ↓Q, S1, ↓reduceIte, Nat.reduceEqDiff, Nat.reduceAdd, Int.reduceLT, Int.reduceLE, Int.reduceNeg, Int.reduceBEq, Int.reduceBNe, Int.reduceEq, Nat.reduceLeDiff, Nat.reduceMul, Nat.reduceLT, *, siteC]
    | simp (singlePass := true) (maxDischargeDepth := 99) only [*, S2, Nat.reduceLT, siteC])
    refine call_k (ref30Explain (B := B) FR (hS _ FR) (hW _ FR) (hX _ FR) (hQ _ FR) (hY _ FR)) ?_
    rintro _ w2 n2 s2 h2
    obtain ⟨v2, rfl, o2⟩ := h2.sh
    have a2 := o2.one
    have S2' := o2.sl1 (f := nV)
    have S2k := S2'.k (Nat.le_refl _)
    have hmax := S1'.max_
    clear h2 o2
    generalize explE (askB sd (l.map (·.x)) x steps seen) (explS (apS sd (l.map (·.x)) steps) seen steps.length x) = E at *
    generalize explL (askB sd (l.map (·.x)) x steps seen) (explS (apS sd (l.map (·.x)) steps) seen steps.length x) = L at *
    (repeat' first
    | ((with_reducible refine at_row ?_); refine row1_a fun _ _ _ _ _ _ _ => ?_)
    | with_reducible first | (first | apply alloc_k | apply row_k); intro _ _ _ _ _ _ | (first | apply fork | apply forkp) <;> intro _ | refine forke (fun _ => ?_) fun _ _ => ?_ | refine tail_k fun _ _ _ => ?_ | refine ext_k fun _ _ _ => ?_ | refine need_a ?_ | refine st_agg KR rfl ON fun _ _ _ _ => ?_ | refine wpd_q_a ?_
    | simp (maxDischargeDepth := 3) only [↓X, ↓Y, ↓Q, S1, ↓reduceIte, Nat.reduceEqDiff, Nat.reduceAdd, Int.reduceLT, Int.reduceLE, Int.reduceNeg, Int.reduceBEq, Int.reduceBNe, Int.reduceEq, Nat.reduceLeDiff, Nat.reduceMul, Nat.reduceLT, *, siteC]
    | simp (singlePass := true) (maxDischargeDepth := 99) only [*, S2, Nat.reduceLT, siteC])
    refine loop_k L.length (fun g0 k g _ => g 15 = .int .i64 (k : Int) ∧ (g 11 = g0 11 ∧ g 13 = g0 13) ∧ Hid True) KR hmax ?_ ?_ ?_
    · (repeat' first
    | ((with_reducible refine at_row ?_); refine row1_a fun _ _ _ _ _ _ _ => ?_)
    | with_reducible first | (first | apply alloc_k | apply row_k); intro _ _ _ _ _ _ | (first | apply fork | apply forkp) <;> intro _ | refine forke (fun _ => ?_) fun _ _ => ?_ | refine tail_k fun _ _ _ => ?_ | refine ext_k fun _ _ _ => ?_ | refine need_a ?_ | refine st_agg KR rfl ON fun _ _ _ _ => ?_ | refine wpd_q_a ?_
    | simp (maxDischargeDepth := 3) only [↓X, ↓Y, ↓Q, S1, ↓reduceIte, Nat.reduceEqDiff, Nat.reduceAdd, Int.reduceLT, Int.reduceLE, Int.reduceNeg, Int.reduceBEq, Int.reduceBNe, Int.reduceEq, Nat.reduceLeDiff, Nat.reduceMul, Nat.reduceLT, *]
    | simp (singlePass := true) (maxDischargeDepth := 99) only [*, S2, Nat.reduceLT])
      all_goals exact trivial
    · rintro k m g wk hk hlt _ _ _ hw ⟨hi, hf, hp⟩
      simp (maxDischargeDepth := 3) only [U, ↓reduceIte, Nat.reduceEqDiff, *] at hf
      (repeat' first
    | ((with_reducible refine at_row ?_); refine row1_a fun _ _ _ _ _ _ _ => ?_)
    | with_reducible first | (first | apply alloc_k | apply row_k); intro _ _ _ _ _ _ | (first | apply fork | apply forkp) <;> intro _ | refine forke (fun _ => ?_) fun _ _ => ?_ | refine tail_k fun _ _ _ => ?_ | refine ext_k fun _ _ _ => ?_ | refine need_a ?_ | refine st_agg KR rfl ON fun _ _ _ _ => ?_ | refine wpd_q_a ?_
    | simp (maxDischargeDepth := 3) only [↓X, ↓Y, ↓Q, S1, ↓reduceIte, Nat.reduceEqDiff, Nat.reduceAdd, Int.reduceLT, Int.reduceLE, Int.reduceNeg, Int.reduceBEq, Int.reduceBNe, Int.reduceEq, Nat.reduceLeDiff, Nat.reduceMul, Nat.reduceLT, *, nV]
    | simp (singlePass := true) (maxDischargeDepth := 99) only [*, S2, Nat.reduceLT, nV])
      refine next_k hk hlt ?_ FR
      (repeat' first
    | ((with_reducible refine at_row ?_); refine row1_a fun _ _ _ _ _ _ _ => ?_)
    | with_reducible first | (first | apply alloc_k | apply row_k); intro _ _ _ _ _ _ | (first | apply fork | apply forkp) <;> intro _ | refine forke (fun _ => ?_) fun _ _ => ?_ | refine tail_k fun _ _ _ => ?_ | refine ext_k fun _ _ _ => ?_ | refine need_a ?_ | refine st_agg KR rfl ON fun _ _ _ _ => ?_ | refine wpd_q_a ?_
    | simp (maxDischargeDepth := 3) only [↓X, ↓Y, ↓Q, S1, ↓reduceIte, Nat.reduceEqDiff, Nat.reduceAdd, Int.reduceLT, Int.reduceLE, Int.reduceNeg, Int.reduceBEq, Int.reduceBNe, Int.reduceEq, Nat.reduceLeDiff, Nat.reduceMul, Nat.reduceLT, *]
    | simp (singlePass := true) (maxDischargeDepth := 99) only [*, S2, Nat.reduceLT])
      all_goals exact trivial
    · rintro g wk _ _ _ ⟨hi, hf, hp⟩
      simp (maxDischargeDepth := 3) only [U, ↓reduceIte, Nat.reduceEqDiff, *] at hf
      (repeat' first
    | ((with_reducible refine at_row ?_); refine row1_a fun _ _ _ _ _ _ _ => ?_)
    | with_reducible first | (first | apply alloc_k | apply row_k); intro _ _ _ _ _ _ | (first | apply fork | apply forkp) <;> intro _ | refine forke (fun _ => ?_) fun _ _ => ?_ | refine tail_k fun _ _ _ => ?_ | refine ext_k fun _ _ _ => ?_ | refine need_a ?_ | refine st_agg KR rfl ON fun _ _ _ _ => ?_ | refine wpd_q_a ?_
    | ((with_reducible refine at_f 6 ?_); refine ret_k (lives30) fun _ _ _ => ?_)
    | simp (maxDischargeDepth := 3) only [↓X, ↓Y, ↓Q, S1, ↓reduceIte, Nat.reduceEqDiff, Nat.reduceAdd, Int.reduceLT, Int.reduceLE, Int.reduceNeg, Int.reduceBEq, Int.reduceBNe, Int.reduceEq, Nat.reduceLeDiff, Nat.reduceMul, Nat.reduceLT, *]
    | simp (singlePass := true) (maxDischargeDepth := 99) only [*, S2, Nat.reduceLT])
end
end Go.Proofs.YtmcdgepfhpakiaaGreat
