
/- The statements on layer 19. -/
import Derived.Test.YtcdeeoakoljlpaaLive19
namespace Go.Proofs.Ytcdeeoakoljlpaa
set_option linter.unusedSimpArgs false
set_option linter.unusedVariables false
open Go Go.RowKit
set_option maxRecDepth 100000
set_option linter.unusedSectionVars false
set_option maxHeartbeats 4000000
section
variable {w : World} {B B' : Nat} {u : SiteVs} {s : SiteD} {wv hv rv : Value} {l : List SrvV} {x : WorldD} {st : StepD}
theorem lawStepCommutes {a b : StepD} (hB : B ≤ w.heap.size) (hs : SiteR w B u s) (hl : WishR w B wv l) (hx0 : WorldR w B hv rv x) : Ret Try.prog 3 #[.agg (siteC u s).toArray, .agg #[wv], .agg #[hv, rv], stepV a, stepV b] w (.bool true) := by
  have hn : Now w := trivial
  have hx : Ext w w := Ext.refl w
  have hs' := hs.sk hB
  have hl' := hl.sk hB
  have hx' := hx0.sk hB
  have hS := hs'.2.2.2.2.2.2
  have hW := hl'.2.2
  have hX := hx'.2.2.2.2
  have hf := fun w' (h1 : Bl B w w') (h3 : B ≤ w'.heap.size) => few19 h3 (hS w' h1) (hW w' h1) (hX w' h1)
  have hra := fun w' (h1 : Bl B w w') (h3 : B ≤ w'.heap.size) => stepReady (st := a) h3 (hS w' h1) (hW w' h1) (hX w' h1)
  have hrb := fun w' (h1 : Bl B w w') (h3 : B ≤ w'.heap.size) => stepReady (st := b) h3 (hS w' h1) (hW w' h1) (hX w' h1)
  have hall : ¬ a.host = b.host → x.replicas.length < 23 → readyB s (l.map (·.x)) x a = true → readyB s (l.map (·.x)) x b = true → Hid (applyE s (l.map (·.x)) x a = 0 ∧ applyE s (l.map (·.x)) x b = 0 ∧ applyE s (l.map (·.x)) (applyW s (l.map (·.x)) x a) b = 0 ∧ applyE s (l.map (·.x)) (applyW s (l.map (·.x)) x b) a = 0
      ∧ applyW s (l.map (·.x)) (applyW s (l.map (·.x)) x a) b = applyW s (l.map (·.x)) (applyW s (l.map (·.x)) x b) a) := fun hne hlen ha hb =>
    ⟨apply_zero ha, apply_zero hb, apply_zero (ready_other hne hlen ha hb), apply_zero (ready_other (fun e => hne e.symm) hlen hb ha), steps_commute hne hlen ha hb⟩
  replace hall : Hid _ := hall
  generalize few19B s (l.map (·.x)) x = fb at hf
  generalize hga : readyB s (l.map (·.x)) x a = ra at *
  generalize hgb : readyB s (l.map (·.x)) x b = rb at *
  clear hga hgb
  replace hra : Hid _ := hra
  replace hrb : Hid _ := hrb
  (refine callsV_of Try.func3 rfl (by kernel_rfl) (by kernel_rfl) ?_; rw [Try.results3])
  cases fb
  · (repeat' first
    | with_reducible refine alloc_k fun _ _ _ _ _ _ => ?_
    | ((with_reducible refine at_row ?_); refine row1_k (by rfl) (by decide) fun _ _ _ _ _ _ _ => ?_)
    | with_reducible refine row_k fun _ _ _ _ _ _ => ?_
    | with_reducible refine fork (fun _ => ?_) (fun _ => ?_)
    | with_reducible refine forkp (fun _ => ?_) (fun _ => ?_)
    | with_reducible refine forke (fun _ => ?_) (fun _ _ => ?_)
    | with_reducible refine tail_k fun _ _ _ => ?_
    | with_reducible refine ext_k fun _ _ _ => ?_
    | with_reducible refine need (by first | kernel_rfl | omega | assumption) ?_
    | with_reducible refine st_agg (by kernel_rfl) rfl (by simp only [natV, intV, S3, *]) fun _ _ _ _ => ?_
    | with_reducible refine wpd_quiet_lit (by kernel_rfl) (by kernel_rfl) (by kernel_rfl) ?_
    | ((with_reducible refine at_f 6 ?_); refine ret_k (hf _ FR FR) fun _ _ _ => ?_)
    | ((with_reducible refine at_f 8 ?_); refine ret_k (live19) fun _ _ _ => ?_)
    | simp (maxDischargeDepth := 3) only [↓X, ↓Y, ↓Q, S1, ↓reduceIte, Nat.reduceEqDiff, Nat.reduceAdd, Int.reduceLT, Int.reduceLE, Int.reduceNeg, Int.reduceBEq, Int.reduceBNe, Int.reduceEq, Nat.reduceLeDiff, Nat.reduceMul, Nat.reduceLT, natV, intV, putAt, idxOk, flatP, *, siteC, stepV, stepC]
    | simp (singlePass := true) (maxDischargeDepth := 99) only [*, S2, Nat.reduceLT, siteC, stepV, stepC])
  by_cases he : a.host = b.host
  · (repeat' first
    | with_reducible refine alloc_k fun _ _ _ _ _ _ => ?_
    | ((with_reducible refine at_row ?_); refine row1_k (by rfl) (by decide) fun _ _ _ _ _ _ _ => ?_)
    | with_reducible refine row_k fun _ _ _ _ _ _ => ?_
    | with_reducible refine fork (fun _ => ?_) (fun _ => ?_)
    | with_reducible refine forkp (fun _ => ?_) (fun _ => ?_)
    | with_reducible refine forke (fun _ => ?_) (fun _ _ => ?_)
    | with_reducible refine tail_k fun _ _ _ => ?_
    | with_reducible refine ext_k fun _ _ _ => ?_
    | with_reducible refine need (by first | kernel_rfl | omega | assumption) ?_
    | with_reducible refine st_agg (by kernel_rfl) rfl (by simp only [natV, intV, S3, *]) fun _ _ _ _ => ?_
    | with_reducible refine wpd_quiet_lit (by kernel_rfl) (by kernel_rfl) (by kernel_rfl) ?_
    | ((with_reducible refine at_f 6 ?_); refine ret_k (hf _ FR FR) fun _ _ _ => ?_)
    | ((with_reducible refine at_f 8 ?_); refine ret_k (live19) fun _ _ _ => ?_)
    | simp (maxDischargeDepth := 3) only [↓X, ↓Y, ↓Q, S1, ↓reduceIte, Nat.reduceEqDiff, Nat.reduceAdd, Int.reduceLT, Int.reduceLE, Int.reduceNeg, Int.reduceBEq, Int.reduceBNe, Int.reduceEq, Nat.reduceLeDiff, Nat.reduceMul, Nat.reduceLT, natV, intV, putAt, idxOk, flatP, *, siteC, stepV, stepC]
    | simp (singlePass := true) (maxDischargeDepth := 99) only [*, S2, Nat.reduceLT, siteC, stepV, stepC])
  have he1 : (a.host == b.host) = false := by simpa using he
  by_cases hl23 : (23 : Int) ≤ (x.replicas.length : Int)
  · (repeat' first
    | with_reducible refine alloc_k fun _ _ _ _ _ _ => ?_
    | ((with_reducible refine at_row ?_); refine row1_k (by rfl) (by decide) fun _ _ _ _ _ _ _ => ?_)
    | with_reducible refine row_k fun _ _ _ _ _ _ => ?_
    | with_reducible refine fork (fun _ => ?_) (fun _ => ?_)
    | with_reducible refine forkp (fun _ => ?_) (fun _ => ?_)
    | with_reducible refine forke (fun _ => ?_) (fun _ _ => ?_)
    | with_reducible refine tail_k fun _ _ _ => ?_
    | with_reducible refine ext_k fun _ _ _ => ?_
    | with_reducible refine need (by first | kernel_rfl | omega | assumption) ?_
    | with_reducible refine st_agg (by kernel_rfl) rfl (by simp only [natV, intV, S3, *]) fun _ _ _ _ => ?_
    | with_reducible refine wpd_quiet_lit (by kernel_rfl) (by kernel_rfl) (by kernel_rfl) ?_
    | ((with_reducible refine at_f 6 ?_); refine ret_k (hf _ FR FR) fun _ _ _ => ?_)
    | ((with_reducible refine at_f 8 ?_); refine ret_k (live19) fun _ _ _ => ?_)
    | simp (maxDischargeDepth := 3) only [↓X, ↓Y, ↓Q, S1, ↓reduceIte, Nat.reduceEqDiff, Nat.reduceAdd, Int.reduceLT, Int.reduceLE, Int.reduceNeg, Int.reduceBEq, Int.reduceBNe, Int.reduceEq, Nat.reduceLeDiff, Nat.reduceMul, Nat.reduceLT, natV, intV, putAt, idxOk, flatP, *, siteC, stepV, stepC]
    | simp (singlePass := true) (maxDischargeDepth := 99) only [*, S2, Nat.reduceLT, siteC, stepV, stepC])
  have hl24 : decide ((23 : Int) ≤ (x.replicas.length : Int)) = false := by simpa using hl23
  (repeat' first
    | with_reducible refine alloc_k fun _ _ _ _ _ _ => ?_
    | ((with_reducible refine at_row ?_); refine row1_k (by rfl) (by decide) fun _ _ _ _ _ _ _ => ?_)
    | with_reducible refine row_k fun _ _ _ _ _ _ => ?_
    | with_reducible refine fork (fun _ => ?_) (fun _ => ?_)
    | with_reducible refine forkp (fun _ => ?_) (fun _ => ?_)
    | with_reducible refine forke (fun _ => ?_) (fun _ _ => ?_)
    | with_reducible refine tail_k fun _ _ _ => ?_
    | with_reducible refine ext_k fun _ _ _ => ?_
    | with_reducible refine need (by first | kernel_rfl | omega | assumption) ?_
    | with_reducible refine st_agg (by kernel_rfl) rfl (by simp only [natV, intV, S3, *]) fun _ _ _ _ => ?_
    | with_reducible refine wpd_quiet_lit (by kernel_rfl) (by kernel_rfl) (by kernel_rfl) ?_
    | ((with_reducible refine at_f 6 ?_); refine ret_k (hf _ FR FR) fun _ _ _ => ?_)
    | simp (maxDischargeDepth := 3) only [↓X, ↓Y, ↓Q, S1, ↓reduceIte, Nat.reduceEqDiff, Nat.reduceAdd, Int.reduceLT, Int.reduceLE, Int.reduceNeg, Int.reduceBEq, Int.reduceBNe, Int.reduceEq, Nat.reduceLeDiff, Nat.reduceMul, Nat.reduceLT, natV, intV, putAt, idxOk, flatP, *, siteC, stepV, stepC]
    | simp (singlePass := true) (maxDischargeDepth := 99) only [*, S2, Nat.reduceLT, siteC, stepV, stepC])
  refine ret_k (hra.out _ FR FR) fun wx nx sx => ?_
  cases ra
  · (repeat' first
    | with_reducible refine alloc_k fun _ _ _ _ _ _ => ?_
    | ((with_reducible refine at_row ?_); refine row1_k (by rfl) (by decide) fun _ _ _ _ _ _ _ => ?_)
    | with_reducible refine row_k fun _ _ _ _ _ _ => ?_
    | with_reducible refine fork (fun _ => ?_) (fun _ => ?_)
    | with_reducible refine forkp (fun _ => ?_) (fun _ => ?_)
    | with_reducible refine forke (fun _ => ?_) (fun _ _ => ?_)
    | with_reducible refine tail_k fun _ _ _ => ?_
    | with_reducible refine ext_k fun _ _ _ => ?_
    | with_reducible refine need (by first | kernel_rfl | omega | assumption) ?_
    | with_reducible refine st_agg (by kernel_rfl) rfl (by simp only [natV, intV, S3, *]) fun _ _ _ _ => ?_
    | with_reducible refine wpd_quiet_lit (by kernel_rfl) (by kernel_rfl) (by kernel_rfl) ?_
    | ((with_reducible refine at_f 8 ?_); refine ret_k (live19) fun _ _ _ => ?_)
    | simp (maxDischargeDepth := 3) only [↓X, ↓Y, ↓Q, S1, ↓reduceIte, Nat.reduceEqDiff, Nat.reduceAdd, Int.reduceLT, Int.reduceLE, Int.reduceNeg, Int.reduceBEq, Int.reduceBNe, Int.reduceEq, Nat.reduceLeDiff, Nat.reduceMul, Nat.reduceLT, natV, intV, putAt, idxOk, flatP, *, siteC, stepV, stepC]
    | simp (singlePass := true) (maxDischargeDepth := 99) only [*, S2, Nat.reduceLT, siteC, stepV, stepC])
  (repeat' first
    | with_reducible refine alloc_k fun _ _ _ _ _ _ => ?_
    | ((with_reducible refine at_row ?_); refine row1_k (by rfl) (by decide) fun _ _ _ _ _ _ _ => ?_)
    | with_reducible refine row_k fun _ _ _ _ _ _ => ?_
    | with_reducible refine fork (fun _ => ?_) (fun _ => ?_)
    | with_reducible refine forkp (fun _ => ?_) (fun _ => ?_)
    | with_reducible refine forke (fun _ => ?_) (fun _ _ => ?_)
    | with_reducible refine tail_k fun _ _ _ => ?_
    | with_reducible refine ext_k fun _ _ _ => ?_
    | with_reducible refine need (by first | kernel_rfl | omega | assumption) ?_
    | with_reducible refine st_agg (by kernel_rfl) rfl (by simp only [natV, intV, S3, *]) fun _ _ _ _ => ?_
    | with_reducible refine wpd_quiet_lit (by kernel_rfl) (by kernel_rfl) (by kernel_rfl) ?_
    | simp (maxDischargeDepth := 3) only [↓X, ↓Y, ↓Q, S1, ↓reduceIte, Nat.reduceEqDiff, Nat.reduceAdd, Int.reduceLT, Int.reduceLE, Int.reduceNeg, Int.reduceBEq, Int.reduceBNe, Int.reduceEq, Nat.reduceLeDiff, Nat.reduceMul, Nat.reduceLT, natV, intV, putAt, idxOk, flatP, *, siteC, stepV, stepC]
    | simp (singlePass := true) (maxDischargeDepth := 99) only [*, S2, Nat.reduceLT, siteC, stepV, stepC])
  refine ret_k (hrb.out _ FR FR) fun wy ny sy => ?_
  cases rb
  · (repeat' first
    | with_reducible refine alloc_k fun _ _ _ _ _ _ => ?_
    | ((with_reducible refine at_row ?_); refine row1_k (by rfl) (by decide) fun _ _ _ _ _ _ _ => ?_)
    | with_reducible refine row_k fun _ _ _ _ _ _ => ?_
    | with_reducible refine fork (fun _ => ?_) (fun _ => ?_)
    | with_reducible refine forkp (fun _ => ?_) (fun _ => ?_)
    | with_reducible refine forke (fun _ => ?_) (fun _ _ => ?_)
    | with_reducible refine tail_k fun _ _ _ => ?_
    | with_reducible refine ext_k fun _ _ _ => ?_
    | with_reducible refine need (by first | kernel_rfl | omega | assumption) ?_
    | with_reducible refine st_agg (by kernel_rfl) rfl (by simp only [natV, intV, S3, *]) fun _ _ _ _ => ?_
    | with_reducible refine wpd_quiet_lit (by kernel_rfl) (by kernel_rfl) (by kernel_rfl) ?_
    | ((with_reducible refine at_f 8 ?_); refine ret_k (live19) fun _ _ _ => ?_)
    | simp (maxDischargeDepth := 3) only [↓X, ↓Y, ↓Q, S1, ↓reduceIte, Nat.reduceEqDiff, Nat.reduceAdd, Int.reduceLT, Int.reduceLE, Int.reduceNeg, Int.reduceBEq, Int.reduceBNe, Int.reduceEq, Nat.reduceLeDiff, Nat.reduceMul, Nat.reduceLT, natV, intV, putAt, idxOk, flatP, *, siteC, stepV, stepC]
    | simp (singlePass := true) (maxDischargeDepth := 99) only [*, S2, Nat.reduceLT, siteC, stepV, stepC])
  (repeat' first
    | with_reducible refine alloc_k fun _ _ _ _ _ _ => ?_
    | ((with_reducible refine at_row ?_); refine row1_k (by rfl) (by decide) fun _ _ _ _ _ _ _ => ?_)
    | with_reducible refine row_k fun _ _ _ _ _ _ => ?_
    | with_reducible refine fork (fun _ => ?_) (fun _ => ?_)
    | with_reducible refine forkp (fun _ => ?_) (fun _ => ?_)
    | with_reducible refine forke (fun _ => ?_) (fun _ _ => ?_)
    | with_reducible refine tail_k fun _ _ _ => ?_
    | with_reducible refine ext_k fun _ _ _ => ?_
    | with_reducible refine need (by first | kernel_rfl | omega | assumption) ?_
    | with_reducible refine st_agg (by kernel_rfl) rfl (by simp only [natV, intV, S3, *]) fun _ _ _ _ => ?_
    | with_reducible refine wpd_quiet_lit (by kernel_rfl) (by kernel_rfl) (by kernel_rfl) ?_
    | simp (maxDischargeDepth := 3) only [↓X, ↓Y, ↓Q, S1, ↓reduceIte, Nat.reduceEqDiff, Nat.reduceAdd, Int.reduceLT, Int.reduceLE, Int.reduceNeg, Int.reduceBEq, Int.reduceBNe, Int.reduceEq, Nat.reduceLeDiff, Nat.reduceMul, Nat.reduceLT, natV, intV, putAt, idxOk, flatP, *, siteC, stepV, stepC]
    | simp (singlePass := true) (maxDischargeDepth := 99) only [*, S2, Nat.reduceLT, siteC, stepV, stepC])
  have hq := hall.out he (by omega) rfl rfl
  clear hall hra hrb hf
  have hq1 := hq.out.1
  have hq2 := hq.out.2.1
  have hq3 := hq.out.2.2.1
  have hq4 := hq.out.2.2.2.1
  refine call_k (stepApply (st := a) (B := B) FR (hS _ FR) (hW _ FR) (hX _ FR)) ?_
  rintro _ w1 n1 s1 ⟨u1, rfl, o1⟩
  obtain ⟨h1, r1, rfl, x1⟩ := o1.r
  have X1 := x1.sk (Nat.le_refl _)
  clear o1 x1
  (repeat' first
    | with_reducible refine alloc_k fun _ _ _ _ _ _ => ?_
    | ((with_reducible refine at_row ?_); refine row1_k (by rfl) (by decide) fun _ _ _ _ _ _ _ => ?_)
    | with_reducible refine row_k fun _ _ _ _ _ _ => ?_
    | with_reducible refine fork (fun _ => ?_) (fun _ => ?_)
    | with_reducible refine forkp (fun _ => ?_) (fun _ => ?_)
    | with_reducible refine forke (fun _ => ?_) (fun _ _ => ?_)
    | with_reducible refine tail_k fun _ _ _ => ?_
    | with_reducible refine ext_k fun _ _ _ => ?_
    | with_reducible refine need (by first | kernel_rfl | omega | assumption) ?_
    | with_reducible refine st_agg (by kernel_rfl) rfl (by simp only [natV, intV, S3, *]) fun _ _ _ _ => ?_
    | with_reducible refine wpd_quiet_lit (by kernel_rfl) (by kernel_rfl) (by kernel_rfl) ?_
    | simp (maxDischargeDepth := 3) only [↓X, ↓Y, ↓Q, S1, ↓reduceIte, Nat.reduceEqDiff, Nat.reduceAdd, Int.reduceLT, Int.reduceLE, Int.reduceNeg, Int.reduceBEq, Int.reduceBNe, Int.reduceEq, Nat.reduceLeDiff, Nat.reduceMul, Nat.reduceLT, natV, intV, putAt, idxOk, flatP, *, siteC, stepV, stepC]
    | simp (singlePass := true) (maxDischargeDepth := 99) only [*, S2, Nat.reduceLT, siteC, stepV, stepC])
  refine call_k (stepApply (st := b) (B := B) FR (hS _ FR) (hW _ FR) (hX _ FR)) ?_
  rintro _ w2 n2 s2 ⟨u2, rfl, o2⟩
  obtain ⟨h2, r2, rfl, x2⟩ := o2.r
  have X2 := x2.sk (Nat.le_refl _)
  clear o2 x2
  (repeat' first
    | with_reducible refine alloc_k fun _ _ _ _ _ _ => ?_
    | ((with_reducible refine at_row ?_); refine row1_k (by rfl) (by decide) fun _ _ _ _ _ _ _ => ?_)
    | with_reducible refine row_k fun _ _ _ _ _ _ => ?_
    | with_reducible refine fork (fun _ => ?_) (fun _ => ?_)
    | with_reducible refine forkp (fun _ => ?_) (fun _ => ?_)
    | with_reducible refine forke (fun _ => ?_) (fun _ _ => ?_)
    | with_reducible refine tail_k fun _ _ _ => ?_
    | with_reducible refine ext_k fun _ _ _ => ?_
    | with_reducible refine need (by first | kernel_rfl | omega | assumption) ?_
    | with_reducible refine st_agg (by kernel_rfl) rfl (by simp only [natV, intV, S3, *]) fun _ _ _ _ => ?_
    | with_reducible refine wpd_quiet_lit (by kernel_rfl) (by kernel_rfl) (by kernel_rfl) ?_
    | simp (maxDischargeDepth := 3) only [↓X, ↓Y, ↓Q, S1, ↓reduceIte, Nat.reduceEqDiff, Nat.reduceAdd, Int.reduceLT, Int.reduceLE, Int.reduceNeg, Int.reduceBEq, Int.reduceBNe, Int.reduceEq, Nat.reduceLeDiff, Nat.reduceMul, Nat.reduceLT, natV, intV, putAt, idxOk, flatP, *, siteC, stepV, stepC]
    | simp (singlePass := true) (maxDischargeDepth := 99) only [*, S2, Nat.reduceLT, siteC, stepV, stepC])
  refine call_k (stepApply (st := b) (B := w1.heap.size) FR ((hS _ FR).up FR) ((hW _ FR).up FR) (X1.2.2.2.2 _ FR)) ?_
  rintro _ w3 n3 s3 ⟨u3, rfl, o3⟩
  obtain ⟨h3, r3, rfl, x3⟩ := o3.r
  have X3 := x3.sk (Nat.le_refl _)
  clear o3 x3
  (repeat' first
    | with_reducible refine alloc_k fun _ _ _ _ _ _ => ?_
    | ((with_reducible refine at_row ?_); refine row1_k (by rfl) (by decide) fun _ _ _ _ _ _ _ => ?_)
    | with_reducible refine row_k fun _ _ _ _ _ _ => ?_
    | with_reducible refine fork (fun _ => ?_) (fun _ => ?_)
    | with_reducible refine forkp (fun _ => ?_) (fun _ => ?_)
    | with_reducible refine forke (fun _ => ?_) (fun _ _ => ?_)
    | with_reducible refine tail_k fun _ _ _ => ?_
    | with_reducible refine ext_k fun _ _ _ => ?_
    | with_reducible refine need (by first | kernel_rfl | omega | assumption) ?_
    | with_reducible refine st_agg (by kernel_rfl) rfl (by simp only [natV, intV, S3, *]) fun _ _ _ _ => ?_
    | with_reducible refine wpd_quiet_lit (by kernel_rfl) (by kernel_rfl) (by kernel_rfl) ?_
    | simp (maxDischargeDepth := 3) only [↓X, ↓Y, ↓Q, S1, ↓reduceIte, Nat.reduceEqDiff, Nat.reduceAdd, Int.reduceLT, Int.reduceLE, Int.reduceNeg, Int.reduceBEq, Int.reduceBNe, Int.reduceEq, Nat.reduceLeDiff, Nat.reduceMul, Nat.reduceLT, natV, intV, putAt, idxOk, flatP, *, siteC, stepV, stepC]
    | simp (singlePass := true) (maxDischargeDepth := 99) only [*, S2, Nat.reduceLT, siteC, stepV, stepC])
  refine call_k (stepApply (st := a) (B := w2.heap.size) FR ((hS _ FR).up FR) ((hW _ FR).up FR) (X2.2.2.2.2 _ FR)) ?_
  rintro _ w4 n4 s4 ⟨u4, rfl, o4⟩
  obtain ⟨h4, r4, rfl, x4⟩ := o4.r
  have X4 := x4.sk (Nat.le_refl _)
  clear o4 x4
  (repeat' first
    | with_reducible refine alloc_k fun _ _ _ _ _ _ => ?_
    | ((with_reducible refine at_row ?_); refine row1_k (by rfl) (by decide) fun _ _ _ _ _ _ _ => ?_)
    | with_reducible refine row_k fun _ _ _ _ _ _ => ?_
    | with_reducible refine fork (fun _ => ?_) (fun _ => ?_)
    | with_reducible refine forkp (fun _ => ?_) (fun _ => ?_)
    | with_reducible refine forke (fun _ => ?_) (fun _ _ => ?_)
    | with_reducible refine tail_k fun _ _ _ => ?_
    | with_reducible refine ext_k fun _ _ _ => ?_
    | with_reducible refine need (by first | kernel_rfl | omega | assumption) ?_
    | with_reducible refine st_agg (by kernel_rfl) rfl (by simp only [natV, intV, S3, *]) fun _ _ _ _ => ?_
    | with_reducible refine wpd_quiet_lit (by kernel_rfl) (by kernel_rfl) (by kernel_rfl) ?_
    | simp (maxDischargeDepth := 3) only [↓X, ↓Y, ↓Q, S1, ↓reduceIte, Nat.reduceEqDiff, Nat.reduceAdd, Int.reduceLT, Int.reduceLE, Int.reduceNeg, Int.reduceBEq, Int.reduceBNe, Int.reduceEq, Nat.reduceLeDiff, Nat.reduceMul, Nat.reduceLT, natV, intV, putAt, idxOk, flatP, *, siteC, stepV, stepC]
    | simp (singlePass := true) (maxDischargeDepth := 99) only [*, S2, Nat.reduceLT, siteC, stepV, stepC])
  refine ret_k (ref13Same (B := w3.heap.size) (B' := w4.heap.size) FR FR (X3.2.2.2.2 _ FR) (X4.2.2.2.2 _ FR)) fun w9 n9 s9 => ?_
  rw [decide_eq_true hq.out.2.2.2.2]
  (repeat' first
    | with_reducible refine alloc_k fun _ _ _ _ _ _ => ?_
    | ((with_reducible refine at_row ?_); refine row1_k (by rfl) (by decide) fun _ _ _ _ _ _ _ => ?_)
    | with_reducible refine row_k fun _ _ _ _ _ _ => ?_
    | with_reducible refine fork (fun _ => ?_) (fun _ => ?_)
    | with_reducible refine forkp (fun _ => ?_) (fun _ => ?_)
    | with_reducible refine forke (fun _ => ?_) (fun _ _ => ?_)
    | with_reducible refine tail_k fun _ _ _ => ?_
    | with_reducible refine ext_k fun _ _ _ => ?_
    | with_reducible refine need (by first | kernel_rfl | omega | assumption) ?_
    | with_reducible refine st_agg (by kernel_rfl) rfl (by simp only [natV, intV, S3, *]) fun _ _ _ _ => ?_
    | with_reducible refine wpd_quiet_lit (by kernel_rfl) (by kernel_rfl) (by kernel_rfl) ?_
    | ((with_reducible refine at_f 8 ?_); refine ret_k (live19) fun _ _ _ => ?_)
    | simp (maxDischargeDepth := 3) only [↓X, ↓Y, ↓Q, S1, ↓reduceIte, Nat.reduceEqDiff, Nat.reduceAdd, Int.reduceLT, Int.reduceLE, Int.reduceNeg, Int.reduceBEq, Int.reduceBNe, Int.reduceEq, Nat.reduceLeDiff, Nat.reduceMul, Nat.reduceLT, natV, intV, putAt, idxOk, flatP, *]
    | simp (singlePass := true) (maxDischargeDepth := 99) only [*, S2, Nat.reduceLT])
theorem lawStepTouches (hB : B ≤ w.heap.size) (hs : SiteR w B u s) (hl : WishR w B wv l) (hx0 : WorldR w B hv rv x) : Ret Try.prog 4 #[.agg (siteC u s).toArray, .agg #[wv], .agg #[hv, rv], stepV st] w (.bool true) := by
  have hn : Now w := trivial
  have hx : Ext w w := Ext.refl w
  obtain ⟨kd, ho, sv, vr⟩ := st
  have hs' := hs.sk hB
  have hl' := hl.sk hB
  have hx' := hx0.sk hB
  have hS := hs'.2.2.2.2.2.2
  have hW := hl'.2.2
  have hX := hx'.2.2.2.2
  have hf := fun w' (h1 : Bl B w w') (h3 : B ≤ w'.heap.size) => few19 h3 (hS w' h1) (hW w' h1) (hX w' h1)
  generalize few19B s (l.map (·.x)) x = fb at hf
  have hap := fun w' (h1 : Bl B w w') (h3 : B ≤ w'.heap.size) => stepApply (st := ⟨kd, ho, sv, vr⟩) h3 (hS w' h1) (hW w' h1) (hX w' h1)
  have htl : applyE s (l.map (·.x)) x ⟨kd, ho, sv, vr⟩ = 0 → Hid ((applyW s (l.map (·.x)) x ⟨kd, ho, sv, vr⟩).hosts.length = x.hosts.length ∧ (∀ i : Nat, ¬ (i : Int) = ho → (applyW s (l.map (·.x)) x ⟨kd, ho, sv, vr⟩).hosts[i]? = x.hosts[i]?) ∧ (∀ r : ReplicaD, ¬ r.host = ho → hasB (applyW s (l.map (·.x)) x ⟨kd, ho, sv, vr⟩).replicas r = hasB x.replicas r)) := fun h =>
    ⟨touch_len (apply_iff.1 h), fun i hne => touch_host (apply_iff.1 h) hne, fun r hne => touch_has (apply_iff.1 h) hne⟩
  replace htl : Hid _ := htl
  generalize applyE s (l.map (·.x)) x ⟨kd, ho, sv, vr⟩ = E at *
  generalize applyW s (l.map (·.x)) x ⟨kd, ho, sv, vr⟩ = W at *
  have hmaxh := hx0.h.max_
  have hmaxl := hl.v.max_
  replace hmaxh : Hid _ := hmaxh
  replace hmaxl : Hid _ := hmaxl
  (refine callsV_of Try.func4 rfl (by kernel_rfl) (by kernel_rfl) ?_; rw [Try.results4])
  (repeat' first
    | with_reducible refine alloc_k fun _ _ _ _ _ _ => ?_
    | ((with_reducible refine at_row ?_); refine row1_k (by rfl) (by decide) fun _ _ _ _ _ _ _ => ?_)
    | with_reducible refine row_k fun _ _ _ _ _ _ => ?_
    | with_reducible refine fork (fun _ => ?_) (fun _ => ?_)
    | with_reducible refine forkp (fun _ => ?_) (fun _ => ?_)
    | with_reducible refine forke (fun _ => ?_) (fun _ _ => ?_)
    | with_reducible refine tail_k fun _ _ _ => ?_
    | with_reducible refine ext_k fun _ _ _ => ?_
    | with_reducible refine need (by first | kernel_rfl | omega | assumption) ?_
    | with_reducible refine st_agg (by kernel_rfl) rfl (by simp only [natV, intV, S3, *]) fun _ _ _ _ => ?_
    | with_reducible refine wpd_quiet_lit (by kernel_rfl) (by kernel_rfl) (by kernel_rfl) ?_
    | ((with_reducible refine at_f 6 ?_); refine ret_k (hf _ FR FR) fun _ _ _ => ?_)
    | ((with_reducible refine at_f 8 ?_); refine ret_k (live19) fun _ _ _ => ?_)
    | simp (maxDischargeDepth := 3) only [↓X, ↓Y, ↓Q, S1, ↓reduceIte, Nat.reduceEqDiff, Nat.reduceAdd, Int.reduceLT, Int.reduceLE, Int.reduceNeg, Int.reduceBEq, Int.reduceBNe, Int.reduceEq, Nat.reduceLeDiff, Nat.reduceMul, Nat.reduceLT, natV, intV, putAt, idxOk, flatP, *, siteC, stepV, stepC]
    | simp (singlePass := true) (maxDischargeDepth := 99) only [*, S2, Nat.reduceLT, siteC, stepV, stepC])
  refine call_k (hap _ FR FR) ?_
  rintro _ w1 n1 s1 ⟨u1, rfl, o1⟩
  obtain ⟨h1, r1, rfl, x1⟩ := o1.r
  have X1 := x1.sk (Nat.le_refl _)
  clear o1 x1 hap hf
  (repeat' first
    | with_reducible refine alloc_k fun _ _ _ _ _ _ => ?_
    | ((with_reducible refine at_row ?_); refine row1_k (by rfl) (by decide) fun _ _ _ _ _ _ _ => ?_)
    | with_reducible refine row_k fun _ _ _ _ _ _ => ?_
    | with_reducible refine fork (fun _ => ?_) (fun _ => ?_)
    | with_reducible refine forkp (fun _ => ?_) (fun _ => ?_)
    | with_reducible refine forke (fun _ => ?_) (fun _ _ => ?_)
    | with_reducible refine tail_k fun _ _ _ => ?_
    | with_reducible refine ext_k fun _ _ _ => ?_
    | with_reducible refine need (by first | kernel_rfl | omega | assumption) ?_
    | with_reducible refine st_agg (by kernel_rfl) rfl (by simp only [natV, intV, S3, *]) fun _ _ _ _ => ?_
    | with_reducible refine wpd_quiet_lit (by kernel_rfl) (by kernel_rfl) (by kernel_rfl) ?_
    | ((with_reducible refine at_f 8 ?_); refine ret_k (live19) fun _ _ _ => ?_)
    | simp (maxDischargeDepth := 3) only [↓X, ↓Y, ↓Q, S1, ↓reduceIte, Nat.reduceEqDiff, Nat.reduceAdd, Int.reduceLT, Int.reduceLE, Int.reduceNeg, Int.reduceBEq, Int.reduceBNe, Int.reduceEq, Nat.reduceLeDiff, Nat.reduceMul, Nat.reduceLT, natV, intV, putAt, idxOk, flatP, *, siteC, stepV, stepC]
    | simp (singlePass := true) (maxDischargeDepth := 99) only [*, S2, Nat.reduceLT, siteC, stepV, stepC])
  have ht := htl.out (by assumption)
  clear htl hx'
  have hx' := hx0.sk hB
  refine loop_k x.hosts.length (fun g0 k g _ => g 11 = .int .i64 k ∧ (g 5 = g0 5 ∧ g 6 = g0 6 ∧ g 7 = g0 7 ∧ g 9 = g0 9)) (by kernel_rfl) hmaxh.out ?_ ?_ ?_
  · (repeat' first
    | with_reducible refine alloc_k fun _ _ _ _ _ _ => ?_
    | ((with_reducible refine at_row ?_); refine row1_k (by rfl) (by decide) fun _ _ _ _ _ _ _ => ?_)
    | with_reducible refine row_k fun _ _ _ _ _ _ => ?_
    | with_reducible refine fork (fun _ => ?_) (fun _ => ?_)
    | with_reducible refine forkp (fun _ => ?_) (fun _ => ?_)
    | with_reducible refine forke (fun _ => ?_) (fun _ _ => ?_)
    | with_reducible refine tail_k fun _ _ _ => ?_
    | with_reducible refine ext_k fun _ _ _ => ?_
    | with_reducible refine need (by first | kernel_rfl | omega | assumption) ?_
    | with_reducible refine st_agg (by kernel_rfl) rfl (by simp only [natV, intV, S3, *]) fun _ _ _ _ => ?_
    | with_reducible refine wpd_quiet_lit (by kernel_rfl) (by kernel_rfl) (by kernel_rfl) ?_
    | simp (maxDischargeDepth := 3) only [↓X, ↓Y, ↓Q, S1, ↓reduceIte, Nat.reduceEqDiff, Nat.reduceAdd, Int.reduceLT, Int.reduceLE, Int.reduceNeg, Int.reduceBEq, Int.reduceBNe, Int.reduceEq, Nat.reduceLeDiff, Nat.reduceMul, Nat.reduceLT, natV, intV, putAt, idxOk, flatP, *]
    | simp (singlePass := true) (maxDischargeDepth := 99) only [*, S2, Nat.reduceLT])
  · rintro k m g wk hk hlt _ _ _ hw ⟨hi, hf⟩
    simp (maxDischargeDepth := 3) only [U, ↓reduceIte, Nat.reduceEqDiff, *] at hf
    have hlW : k < W.hosts.length := by have := ht.out.1; omega
    by_cases hkh : (k : Int) = ho
    · subst hkh
      (repeat' first
    | with_reducible refine alloc_k fun _ _ _ _ _ _ => ?_
    | ((with_reducible refine at_row ?_); refine row1_k (by rfl) (by decide) fun _ _ _ _ _ _ _ => ?_)
    | with_reducible refine row_k fun _ _ _ _ _ _ => ?_
    | with_reducible refine fork (fun _ => ?_) (fun _ => ?_)
    | with_reducible refine forkp (fun _ => ?_) (fun _ => ?_)
    | with_reducible refine forke (fun _ => ?_) (fun _ _ => ?_)
    | with_reducible refine tail_k fun _ _ _ => ?_
    | with_reducible refine ext_k fun _ _ _ => ?_
    | with_reducible refine need (by first | kernel_rfl | omega | assumption) ?_
    | with_reducible refine st_agg (by kernel_rfl) rfl (by simp only [natV, intV, S3, *]) fun _ _ _ _ => ?_
    | with_reducible refine wpd_quiet_lit (by kernel_rfl) (by kernel_rfl) (by kernel_rfl) ?_
    | simp (maxDischargeDepth := 3) only [↓X, ↓Y, ↓Q, S1, ↓reduceIte, Nat.reduceEqDiff, Nat.reduceAdd, Int.reduceLT, Int.reduceLE, Int.reduceNeg, Int.reduceBEq, Int.reduceBNe, Int.reduceEq, Nat.reduceLeDiff, Nat.reduceMul, Nat.reduceLT, natV, intV, putAt, idxOk, flatP, *, stepV, stepC]
    | simp (singlePass := true) (maxDischargeDepth := 99) only [*, S2, Nat.reduceLT, stepV, stepC])
      refine next_k hk hlt ?_ FR
      (repeat' first
    | with_reducible refine alloc_k fun _ _ _ _ _ _ => ?_
    | ((with_reducible refine at_row ?_); refine row1_k (by rfl) (by decide) fun _ _ _ _ _ _ _ => ?_)
    | with_reducible refine row_k fun _ _ _ _ _ _ => ?_
    | with_reducible refine fork (fun _ => ?_) (fun _ => ?_)
    | with_reducible refine forkp (fun _ => ?_) (fun _ => ?_)
    | with_reducible refine forke (fun _ => ?_) (fun _ _ => ?_)
    | with_reducible refine tail_k fun _ _ _ => ?_
    | with_reducible refine ext_k fun _ _ _ => ?_
    | with_reducible refine need (by first | kernel_rfl | omega | assumption) ?_
    | with_reducible refine st_agg (by kernel_rfl) rfl (by simp only [natV, intV, S3, *]) fun _ _ _ _ => ?_
    | with_reducible refine wpd_quiet_lit (by kernel_rfl) (by kernel_rfl) (by kernel_rfl) ?_
    | simp (maxDischargeDepth := 3) only [↓X, ↓Y, ↓Q, S1, ↓reduceIte, Nat.reduceEqDiff, Nat.reduceAdd, Int.reduceLT, Int.reduceLE, Int.reduceNeg, Int.reduceBEq, Int.reduceBNe, Int.reduceEq, Nat.reduceLeDiff, Nat.reduceMul, Nat.reduceLT, natV, intV, putAt, idxOk, flatP, *]
    | simp (singlePass := true) (maxDischargeDepth := 99) only [*, S2, Nat.reduceLT])
    · have hkh1 : ((k : Int) == ho) = false := by simpa using hkh
      have hsame : W.hosts[k] = x.hosts[k] := by
        have := ht.out.2.1 k hkh
        rw [List.getElem?_eq_getElem hlW, List.getElem?_eq_getElem hlt] at this
        exact Option.some.inj this
      have hls : W.hosts.length = x.hosts.length := ht.out.1
      have hhas : Hid (∀ r : ReplicaD, ¬ r.host = ho → hasB W.replicas r = hasB x.replicas r) := ht.out.2.2
      clear ht
      (repeat' first
    | with_reducible refine alloc_k fun _ _ _ _ _ _ => ?_
    | ((with_reducible refine at_row ?_); refine row1_k (by rfl) (by decide) fun _ _ _ _ _ _ _ => ?_)
    | with_reducible refine row_k fun _ _ _ _ _ _ => ?_
    | with_reducible refine fork (fun _ => ?_) (fun _ => ?_)
    | with_reducible refine forkp (fun _ => ?_) (fun _ => ?_)
    | with_reducible refine forke (fun _ => ?_) (fun _ _ => ?_)
    | with_reducible refine tail_k fun _ _ _ => ?_
    | with_reducible refine ext_k fun _ _ _ => ?_
    | with_reducible refine need (by first | kernel_rfl | omega | assumption) ?_
    | with_reducible refine st_agg (by kernel_rfl) rfl (by simp only [natV, intV, S3, *]) fun _ _ _ _ => ?_
    | with_reducible refine wpd_quiet_lit (by kernel_rfl) (by kernel_rfl) (by kernel_rfl) ?_
    | simp (maxDischargeDepth := 3) only [↓X, ↓Y, ↓Q, S1, ↓reduceIte, Nat.reduceEqDiff, Nat.reduceAdd, Int.reduceLT, Int.reduceLE, Int.reduceNeg, Int.reduceBEq, Int.reduceBNe, Int.reduceEq, Nat.reduceLeDiff, Nat.reduceMul, Nat.reduceLT, natV, intV, putAt, idxOk, flatP, *, stepV, stepC, stateV, state_eq, dec_not]
    | simp (singlePass := true) (maxDischargeDepth := 99) only [*, S2, Nat.reduceLT, stepV, stepC, stateV, state_eq, dec_not])
      refine loop_k l.length (fun g0 j g _ => g 12 = .int .i64 j ∧ (g 5 = g0 5 ∧ g 6 = g0 6 ∧ g 7 = g0 7 ∧ g 9 = g0 9 ∧ g 11 = g0 11)) (by kernel_rfl) hmaxl.out ?_ ?_ ?_
      · (repeat' first
    | with_reducible refine alloc_k fun _ _ _ _ _ _ => ?_
    | ((with_reducible refine at_row ?_); refine row1_k (by rfl) (by decide) fun _ _ _ _ _ _ _ => ?_)
    | with_reducible refine row_k fun _ _ _ _ _ _ => ?_
    | with_reducible refine fork (fun _ => ?_) (fun _ => ?_)
    | with_reducible refine forkp (fun _ => ?_) (fun _ => ?_)
    | with_reducible refine forke (fun _ => ?_) (fun _ _ => ?_)
    | with_reducible refine tail_k fun _ _ _ => ?_
    | with_reducible refine ext_k fun _ _ _ => ?_
    | with_reducible refine need (by first | kernel_rfl | omega | assumption) ?_
    | with_reducible refine st_agg (by kernel_rfl) rfl (by simp only [natV, intV, S3, *]) fun _ _ _ _ => ?_
    | with_reducible refine wpd_quiet_lit (by kernel_rfl) (by kernel_rfl) (by kernel_rfl) ?_
    | simp (maxDischargeDepth := 3) only [↓X, ↓Y, ↓Q, S1, ↓reduceIte, Nat.reduceEqDiff, Nat.reduceAdd, Int.reduceLT, Int.reduceLE, Int.reduceNeg, Int.reduceBEq, Int.reduceBNe, Int.reduceEq, Nat.reduceLeDiff, Nat.reduceMul, Nat.reduceLT, natV, intV, putAt, idxOk, flatP, *]
    | simp (singlePass := true) (maxDischargeDepth := 99) only [*, S2, Nat.reduceLT])
      · rintro j mj gj wj hj hjt _ _ _ hwj ⟨hij, hfj⟩
        simp (maxDischargeDepth := 3) only [U, ↓reduceIte, Nat.reduceEqDiff, *] at hfj
        have hh := hhas.out ⟨j, k⟩ hkh
        (repeat' first
    | with_reducible refine alloc_k fun _ _ _ _ _ _ => ?_
    | ((with_reducible refine at_row ?_); refine row1_k (by rfl) (by decide) fun _ _ _ _ _ _ _ => ?_)
    | with_reducible refine row_k fun _ _ _ _ _ _ => ?_
    | with_reducible refine fork (fun _ => ?_) (fun _ => ?_)
    | with_reducible refine forkp (fun _ => ?_) (fun _ => ?_)
    | with_reducible refine forke (fun _ => ?_) (fun _ _ => ?_)
    | with_reducible refine tail_k fun _ _ _ => ?_
    | with_reducible refine ext_k fun _ _ _ => ?_
    | with_reducible refine need (by first | kernel_rfl | omega | assumption) ?_
    | with_reducible refine st_agg (by kernel_rfl) rfl (by simp only [natV, intV, S3, *]) fun _ _ _ _ => ?_
    | with_reducible refine wpd_quiet_lit (by kernel_rfl) (by kernel_rfl) (by kernel_rfl) ?_
    | ((with_reducible refine at_q 11 ?_); refine qret_k (fun _ _ _ => ref13Has (r := ⟨j, k⟩) (B := w1.heap.size) FR (X1.2.2.2.2 _ FR)) ?_)
    | ((with_reducible refine at_q 11 ?_); refine qret_k (fun _ _ _ => ref13Has (r := ⟨j, k⟩) (B := B) FR (hX _ FR)) ?_)
    | simp (maxDischargeDepth := 3) only [↓X, ↓Y, ↓Q, S1, ↓reduceIte, Nat.reduceEqDiff, Nat.reduceAdd, Int.reduceLT, Int.reduceLE, Int.reduceNeg, Int.reduceBEq, Int.reduceBNe, Int.reduceEq, Nat.reduceLeDiff, Nat.reduceMul, Nat.reduceLT, natV, intV, putAt, idxOk, flatP, *, replicaV]
    | simp (singlePass := true) (maxDischargeDepth := 99) only [*, S2, Nat.reduceLT, replicaV])
        refine next_k hj hjt ?_ FR
        (repeat' first
    | with_reducible refine alloc_k fun _ _ _ _ _ _ => ?_
    | ((with_reducible refine at_row ?_); refine row1_k (by rfl) (by decide) fun _ _ _ _ _ _ _ => ?_)
    | with_reducible refine row_k fun _ _ _ _ _ _ => ?_
    | with_reducible refine fork (fun _ => ?_) (fun _ => ?_)
    | with_reducible refine forkp (fun _ => ?_) (fun _ => ?_)
    | with_reducible refine forke (fun _ => ?_) (fun _ _ => ?_)
    | with_reducible refine tail_k fun _ _ _ => ?_
    | with_reducible refine ext_k fun _ _ _ => ?_
    | with_reducible refine need (by first | kernel_rfl | omega | assumption) ?_
    | with_reducible refine st_agg (by kernel_rfl) rfl (by simp only [natV, intV, S3, *]) fun _ _ _ _ => ?_
    | with_reducible refine wpd_quiet_lit (by kernel_rfl) (by kernel_rfl) (by kernel_rfl) ?_
    | simp (maxDischargeDepth := 3) only [↓X, ↓Y, ↓Q, S1, ↓reduceIte, Nat.reduceEqDiff, Nat.reduceAdd, Int.reduceLT, Int.reduceLE, Int.reduceNeg, Int.reduceBEq, Int.reduceBNe, Int.reduceEq, Nat.reduceLeDiff, Nat.reduceMul, Nat.reduceLT, natV, intV, putAt, idxOk, flatP, *]
    | simp (singlePass := true) (maxDischargeDepth := 99) only [*, S2, Nat.reduceLT])
      · rintro gj wj _ _ _ ⟨hij, hfj⟩
        simp (maxDischargeDepth := 3) only [U, ↓reduceIte, Nat.reduceEqDiff, *] at hfj
        (repeat' first
    | with_reducible refine alloc_k fun _ _ _ _ _ _ => ?_
    | ((with_reducible refine at_row ?_); refine row1_k (by rfl) (by decide) fun _ _ _ _ _ _ _ => ?_)
    | with_reducible refine row_k fun _ _ _ _ _ _ => ?_
    | with_reducible refine fork (fun _ => ?_) (fun _ => ?_)
    | with_reducible refine forkp (fun _ => ?_) (fun _ => ?_)
    | with_reducible refine forke (fun _ => ?_) (fun _ _ => ?_)
    | with_reducible refine tail_k fun _ _ _ => ?_
    | with_reducible refine ext_k fun _ _ _ => ?_
    | with_reducible refine need (by first | kernel_rfl | omega | assumption) ?_
    | with_reducible refine st_agg (by kernel_rfl) rfl (by simp only [natV, intV, S3, *]) fun _ _ _ _ => ?_
    | with_reducible refine wpd_quiet_lit (by kernel_rfl) (by kernel_rfl) (by kernel_rfl) ?_
    | simp (maxDischargeDepth := 3) only [↓X, ↓Y, ↓Q, S1, ↓reduceIte, Nat.reduceEqDiff, Nat.reduceAdd, Int.reduceLT, Int.reduceLE, Int.reduceNeg, Int.reduceBEq, Int.reduceBNe, Int.reduceEq, Nat.reduceLeDiff, Nat.reduceMul, Nat.reduceLT, natV, intV, putAt, idxOk, flatP, *]
    | simp (singlePass := true) (maxDischargeDepth := 99) only [*, S2, Nat.reduceLT])
        refine next_k hk hlt ?_ FR
        (repeat' first
    | with_reducible refine alloc_k fun _ _ _ _ _ _ => ?_
    | ((with_reducible refine at_row ?_); refine row1_k (by rfl) (by decide) fun _ _ _ _ _ _ _ => ?_)
    | with_reducible refine row_k fun _ _ _ _ _ _ => ?_
    | with_reducible refine fork (fun _ => ?_) (fun _ => ?_)
    | with_reducible refine forkp (fun _ => ?_) (fun _ => ?_)
    | with_reducible refine forke (fun _ => ?_) (fun _ _ => ?_)
    | with_reducible refine tail_k fun _ _ _ => ?_
    | with_reducible refine ext_k fun _ _ _ => ?_
    | with_reducible refine need (by first | kernel_rfl | omega | assumption) ?_
    | with_reducible refine st_agg (by kernel_rfl) rfl (by simp only [natV, intV, S3, *]) fun _ _ _ _ => ?_
    | with_reducible refine wpd_quiet_lit (by kernel_rfl) (by kernel_rfl) (by kernel_rfl) ?_
    | simp (maxDischargeDepth := 3) only [↓X, ↓Y, ↓Q, S1, ↓reduceIte, Nat.reduceEqDiff, Nat.reduceAdd, Int.reduceLT, Int.reduceLE, Int.reduceNeg, Int.reduceBEq, Int.reduceBNe, Int.reduceEq, Nat.reduceLeDiff, Nat.reduceMul, Nat.reduceLT, natV, intV, putAt, idxOk, flatP, *]
    | simp (singlePass := true) (maxDischargeDepth := 99) only [*, S2, Nat.reduceLT])
  · rintro g wk _ _ _ ⟨hi, hf⟩
    simp (maxDischargeDepth := 3) only [U, ↓reduceIte, Nat.reduceEqDiff, *] at hf
    (repeat' first
    | with_reducible refine alloc_k fun _ _ _ _ _ _ => ?_
    | ((with_reducible refine at_row ?_); refine row1_k (by rfl) (by decide) fun _ _ _ _ _ _ _ => ?_)
    | with_reducible refine row_k fun _ _ _ _ _ _ => ?_
    | with_reducible refine fork (fun _ => ?_) (fun _ => ?_)
    | with_reducible refine forkp (fun _ => ?_) (fun _ => ?_)
    | with_reducible refine forke (fun _ => ?_) (fun _ _ => ?_)
    | with_reducible refine tail_k fun _ _ _ => ?_
    | with_reducible refine ext_k fun _ _ _ => ?_
    | with_reducible refine need (by first | kernel_rfl | omega | assumption) ?_
    | with_reducible refine st_agg (by kernel_rfl) rfl (by simp only [natV, intV, S3, *]) fun _ _ _ _ => ?_
    | with_reducible refine wpd_quiet_lit (by kernel_rfl) (by kernel_rfl) (by kernel_rfl) ?_
    | ((with_reducible refine at_f 8 ?_); refine ret_k (live19) fun _ _ _ => ?_)
    | simp (maxDischargeDepth := 3) only [↓X, ↓Y, ↓Q, S1, ↓reduceIte, Nat.reduceEqDiff, Nat.reduceAdd, Int.reduceLT, Int.reduceLE, Int.reduceNeg, Int.reduceBEq, Int.reduceBNe, Int.reduceEq, Nat.reduceLeDiff, Nat.reduceMul, Nat.reduceLT, natV, intV, putAt, idxOk, flatP, *, stepV, stepC]
    | simp (singlePass := true) (maxDischargeDepth := 99) only [*, S2, Nat.reduceLT, stepV, stepC])
end
end Go.Proofs.Ytcdeeoakoljlpaa
