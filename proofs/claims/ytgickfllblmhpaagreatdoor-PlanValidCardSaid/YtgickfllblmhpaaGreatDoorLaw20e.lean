
/- The statement PlanValid. -/
import Derived.Test.YtgickfllblmhpaaGreatDoorHosts20b
import Derived.Test.YtgickfllblmhpaaGreatDoorSame20
import Derived.Test.YtgickfllblmhpaaGreatDoorLaw20b
import Derived.Test.YtgickfllblmhpaaGreatDoorRel
namespace Go.Proofs.YtgickfllblmhpaaGreatDoor
set_option linter.unusedSimpArgs false
set_option linter.unusedVariables false
open Go Go.RowKit
set_option maxRecDepth 100000
set_option linter.unusedSectionVars false
set_option maxHeartbeats 2000000
section
variable {w : World} {B : Nat} {u : SiteVs} {s : SiteD} {wv sv av sv' av' : Value} {vs vs' : List Value} {l : List SrvV} {p q : PlanD}
theorem lawPlanValid (hT : TabW w) (hB : B ≤ w.heap.size) (hs : SiteR w B u s) (hl : WishR w B wv l) (hp : PlanR w B sv av vs p) (hq : PlanR w B sv' av' vs' q) : Ret Tryz.prog 6 #[.agg (siteC u s).toArray, .agg #[wv], .agg #[sv, av], .agg #[sv', av']] w (.bool true) := by
  have hn : Now w := trivial
  have hx : Ext w w := Ext.refl w
  have hs' := hs.sk hB
  have hl' := hl.sk hB
  have hp' := hp.sk hB
  have hq' := hq.sk hB
  have hT' := fun w' (h : Ext w w') => hT.ext h
  have hS := hs'.2.2.2.2.2.2
  have hW := hl'.2.2
  have hP := hp'.2.2.2.2.2.2
  have hQ := hq'.2.2.2.2.2.2
  (refine callsV_of Tryz.func6 rfl (by kernel_rfl) (by kernel_rfl) ?_; rw [Tryz.results6])
  (repeat' first
    | ((with_reducible refine at_row ?_); refine row1_k (by rfl) (by decide) fun _ _ _ _ _ _ _ => ?_)
    | with_reducible first | refine alloc_k fun _ _ _ _ _ _ => ?_ | refine row_k fun _ _ _ _ _ _ => ?_ | refine fork (fun _ => ?_) fun _ => ?_ | refine forkp (fun _ => ?_) fun _ => ?_ | refine forke (fun _ => ?_) fun _ _ => ?_ | refine tail_k fun _ _ _ => ?_ | refine ext_k fun _ _ _ => ?_ | refine need_a ?_ | refine st_agg (by kernel_rfl) rfl (by simp only [natV, intV, S3, *]) fun _ _ _ _ => ?_ | refine wpd_q_a ?_
    | simp (maxDischargeDepth := 3) only [↓X, ↓Y, ↓Q, S1, ↓reduceIte, Nat.reduceEqDiff, Nat.reduceAdd, Int.reduceLT, Int.reduceLE, Int.reduceNeg, Int.reduceBEq, Int.reduceBNe, Int.reduceEq, Nat.reduceLeDiff, Nat.reduceMul, Nat.reduceLT, natV, intV, putAt, idxOk, flatP, *, siteC]
    | simp (singlePass := true) (maxDischargeDepth := 99) only [*, S2, Nat.reduceLT, siteC])
  refine call_k (law20fewL (B := B) FR (hS _ FR) (hW _ FR) (hP _ FR)) ?_
  rintro _ w1 n1 s1 ⟨b1, rfl, hb1⟩
  cases b1
  · (repeat' first
    | ((with_reducible refine at_row ?_); refine row1_k (by rfl) (by decide) fun _ _ _ _ _ _ _ => ?_)
    | with_reducible first | refine alloc_k fun _ _ _ _ _ _ => ?_ | refine row_k fun _ _ _ _ _ _ => ?_ | refine fork (fun _ => ?_) fun _ => ?_ | refine forkp (fun _ => ?_) fun _ => ?_ | refine forke (fun _ => ?_) fun _ _ => ?_ | refine tail_k fun _ _ _ => ?_ | refine ext_k fun _ _ _ => ?_ | refine need_a ?_ | refine st_agg (by kernel_rfl) rfl (by simp only [natV, intV, S3, *]) fun _ _ _ _ => ?_ | refine wpd_q_a ?_
    | ((with_reducible refine at_f 8 ?_); refine ret_k (law20live (hT' _ FR)) fun _ _ _ => ?_)
    | simp (maxDischargeDepth := 3) only [↓X, ↓Y, ↓Q, S1, ↓reduceIte, Nat.reduceEqDiff, Nat.reduceAdd, Int.reduceLT, Int.reduceLE, Int.reduceNeg, Int.reduceBEq, Int.reduceBNe, Int.reduceEq, Nat.reduceLeDiff, Nat.reduceMul, Nat.reduceLT, natV, intV, putAt, idxOk, flatP, *, siteC]
    | simp (singlePass := true) (maxDischargeDepth := 99) only [*, S2, Nat.reduceLT, siteC])
  · have hlen : Hid (p.steps.length ≤ 60) := hb1 rfl
    clear hb1
    (repeat' first
    | ((with_reducible refine wpd_at 3 ?_); refine wpd_hold ?_)
    | ((with_reducible refine at_row ?_); refine row1_k (by rfl) (by decide) fun _ _ _ _ _ _ _ => ?_)
    | with_reducible first | refine alloc_k fun _ _ _ _ _ _ => ?_ | refine row_k fun _ _ _ _ _ _ => ?_ | refine fork (fun _ => ?_) fun _ => ?_ | refine forkp (fun _ => ?_) fun _ => ?_ | refine forke (fun _ => ?_) fun _ _ => ?_ | refine tail_k fun _ _ _ => ?_ | refine ext_k fun _ _ _ => ?_ | refine need_a ?_ | refine st_agg (by kernel_rfl) rfl (by simp only [natV, intV, S3, *]) fun _ _ _ _ => ?_ | refine wpd_q_a ?_
    | ((with_reducible refine at_f 7 ?_); refine retb_k (law20few (B := B) FR (hS _ FR) (hW _ FR) (hQ _ FR)) fun _ _ _ _ => ?_)
    | ((with_reducible refine at_f 8 ?_); refine ret_k (law20live (hT' _ FR)) fun _ _ _ => ?_)
    | simp (maxDischargeDepth := 3) only [↓X, ↓Y, ↓Q, S1, ↓reduceIte, Nat.reduceEqDiff, Nat.reduceAdd, Int.reduceLT, Int.reduceLE, Int.reduceNeg, Int.reduceBEq, Int.reduceBNe, Int.reduceEq, Nat.reduceLeDiff, Nat.reduceMul, Nat.reduceLT, natV, intV, putAt, idxOk, flatP, *, siteC]
    | simp (singlePass := true) (maxDischargeDepth := 99) only [*, S2, Nat.reduceLT, siteC])
    rename_i b4 v4 u4 k4 t4 q4 b5 v5 u5 k5 t5 q5 b6 v6 u6 k6 t6 q6 b7 v7 u7 k7 t7 q7 c8 w9x n9x s9x hc8
    obtain ⟨wc, hwc⟩ : ∃ x, x = w9x := ⟨_, rfl⟩
    subst hwc
    unfold wpdH
    refine wpd_rel 33 (fun iI v w9 => match iI with
      | 0 => v = .agg (siteC u s).toArray
      | 1 => v = .agg #[wv]
      | 2 => v = .agg #[sv, av]
      | 3 => v = intV (planErr s (l.map (·.x)) p)
      | 4 => v = .agg (siteC u s).toArray
      | 5 => v = .agg #[wv]
      | 6 => v = .agg #[sv, av]
      | 7 => v = intV (planErr s (l.map (·.x)) p)
      | 8 => v = .bool true
      | 9 => v = .bool true
      | 10 => v = .agg #[sv, av]
      | 11 => Own w9 wc.heap.size 3 1 v ((hostsI p).map intC)
      | 12 => v = .agg #[sv, av]
      | 13 => Own w9 wc.heap.size 3 1 v ((hostsI p).map intC)
      | 14 => v = .bool true
      | 15 => v = .bool true
      | 16 => v = .bool true
      | 17 => v = .agg #[sv, av]
      | 18 => v = .agg #[sv', av']
      | 19 => v = .bool (decide (p = q))
      | 20 => v = .agg #[sv, av]
      | 21 => v = .agg #[sv', av']
      | 22 => v = .bool (decide (p = q))
      | 23 => v = .bool true
      | 24 => v = .bool true
      | 25 => v = .bool true
      | 26 => v = .agg #[sv, av]
      | 27 => v = .agg #[sv, av]
      | 28 => v = .bool true
      | 29 => v = .bool true
      | 30 => v = .bool true
      | 31 => v = .bool true
      | 32 => v = .bool true
      | _ => False) (by kernel_rfl) (by kernel_rfl) (by kernel_rfl) ?_ ?_ ?_
    · intro iI v w1 w2 hR hx9
      match iI, hR with
      | 0, h => exact h
      | 1, h => exact h
      | 2, h => exact h
      | 3, h => exact h
      | 4, h => exact h
      | 5, h => exact h
      | 6, h => exact h
      | 7, h => exact h
      | 8, h => exact h
      | 9, h => exact h
      | 10, h => exact h
      | 11, h => exact Own.ext h hx9
      | 12, h => exact h
      | 13, h => exact Own.ext h hx9
      | 14, h => exact h
      | 15, h => exact h
      | 16, h => exact h
      | 17, h => exact h
      | 18, h => exact h
      | 19, h => exact h
      | 20, h => exact h
      | 21, h => exact h
      | 22, h => exact h
      | 23, h => exact h
      | 24, h => exact h
      | 25, h => exact h
      | 26, h => exact h
      | 27, h => exact h
      | 28, h => exact h
      | 29, h => exact h
      | 30, h => exact h
      | 31, h => exact h
      | 32, h => exact h
    · intro iI oO hi ho gF w9 hx9 hdep hag
      have s9 := hx9.st
      have n9 : Now w9 := trivial
      have r9 := Ext.refl w9
      have z9 := hx9.size
      rcases iI with _|_|_|_|_|_|_|_|_|_|_|_|_|_|_|_|_|_|_|_|_|_|_|_|_|_|_|_|_|_|_|_|_|iI
      · have e := Option.some.inj ho
        subst e
        have a4 := hag.at 4 (by kernel_rfl)
        simp only [S5, ↓reduceIte, Nat.reduceEqDiff, initF, *] at a4
        clear hag hdep ho
        refine relStep_off rfl ?_
        (repeat' first
    | ((with_reducible refine at_row ?_); refine row1_k (by rfl) (by decide) fun _ _ _ _ _ _ _ => ?_)
    | with_reducible first | refine alloc_k fun _ _ _ _ _ _ => ?_ | refine row_k fun _ _ _ _ _ _ => ?_ | refine fork (fun _ => ?_) fun _ => ?_ | refine forkp (fun _ => ?_) fun _ => ?_ | refine forke (fun _ => ?_) fun _ _ => ?_ | refine tail_k fun _ _ _ => ?_ | refine ext_k fun _ _ _ => ?_ | refine need_a ?_ | refine st_agg (by kernel_rfl) rfl (by simp only [natV, intV, S3, *]) fun _ _ _ _ => ?_ | refine wpd_q_a ?_
    | ((with_reducible refine at_f 22 ?_); refine ret_k (planValid (B := B) (hT' _ FR) FR (hS _ FR) (hW _ FR) (hP _ FR)) fun _ _ _ => ?_)
    | ((with_reducible refine at_f 24 ?_); refine ret_k (ref20Valid (B := B) FR (hS _ FR) (hW _ FR) (hP _ FR)) fun _ _ _ => ?_)
    | ((with_reducible refine at_f 15 ?_); refine ret_k (ref12Ints (a := hostsI p) (b := hostsI p) (Nat.le_refl _) (Nat.le_refl _) (d11.sl1 (f := intV)) (d13.sl1 (f := intV))) fun _ _ _ => ?_)
    | ((with_reducible refine at_f 26 ?_); refine ret_k (planSame (B := B) (B' := B) FR FR (hP _ FR) (hQ _ FR)) fun _ _ _ => ?_)
    | ((with_reducible refine at_f 18 ?_); refine ret_k (ref20Same (B := B) (B' := B) FR FR (hP _ FR) (hQ _ FR)) fun _ _ _ => ?_)
    | ((with_reducible refine at_f 8 ?_); refine ret_k (law20live (hT' _ FR)) fun _ _ _ => ?_)
    | simp (maxDischargeDepth := 3) only [↓X, ↓Y, ↓Q, S1, ↓reduceIte, Nat.reduceEqDiff, Nat.reduceAdd, Int.reduceLT, Int.reduceLE, Int.reduceNeg, Int.reduceBEq, Int.reduceBNe, Int.reduceEq, Nat.reduceLeDiff, Nat.reduceMul, Nat.reduceLT, natV, intV, putAt, idxOk, flatP, *, siteC]
    | simp (singlePass := true) (maxDischargeDepth := 99) only [*, S2, Nat.reduceLT, siteC])
      · have e := Option.some.inj ho
        subst e
        have a5 := hag.at 5 (by kernel_rfl)
        simp only [S5, ↓reduceIte, Nat.reduceEqDiff, initF, *] at a5
        clear hag hdep ho
        refine relStep_off rfl ?_
        (repeat' first
    | ((with_reducible refine at_row ?_); refine row1_k (by rfl) (by decide) fun _ _ _ _ _ _ _ => ?_)
    | with_reducible first | refine alloc_k fun _ _ _ _ _ _ => ?_ | refine row_k fun _ _ _ _ _ _ => ?_ | refine fork (fun _ => ?_) fun _ => ?_ | refine forkp (fun _ => ?_) fun _ => ?_ | refine forke (fun _ => ?_) fun _ _ => ?_ | refine tail_k fun _ _ _ => ?_ | refine ext_k fun _ _ _ => ?_ | refine need_a ?_ | refine st_agg (by kernel_rfl) rfl (by simp only [natV, intV, S3, *]) fun _ _ _ _ => ?_ | refine wpd_q_a ?_
    | ((with_reducible refine at_f 22 ?_); refine ret_k (planValid (B := B) (hT' _ FR) FR (hS _ FR) (hW _ FR) (hP _ FR)) fun _ _ _ => ?_)
    | ((with_reducible refine at_f 24 ?_); refine ret_k (ref20Valid (B := B) FR (hS _ FR) (hW _ FR) (hP _ FR)) fun _ _ _ => ?_)
    | ((with_reducible refine at_f 15 ?_); refine ret_k (ref12Ints (a := hostsI p) (b := hostsI p) (Nat.le_refl _) (Nat.le_refl _) (d11.sl1 (f := intV)) (d13.sl1 (f := intV))) fun _ _ _ => ?_)
    | ((with_reducible refine at_f 26 ?_); refine ret_k (planSame (B := B) (B' := B) FR FR (hP _ FR) (hQ _ FR)) fun _ _ _ => ?_)
    | ((with_reducible refine at_f 18 ?_); refine ret_k (ref20Same (B := B) (B' := B) FR FR (hP _ FR) (hQ _ FR)) fun _ _ _ => ?_)
    | ((with_reducible refine at_f 8 ?_); refine ret_k (law20live (hT' _ FR)) fun _ _ _ => ?_)
    | simp (maxDischargeDepth := 3) only [↓X, ↓Y, ↓Q, S1, ↓reduceIte, Nat.reduceEqDiff, Nat.reduceAdd, Int.reduceLT, Int.reduceLE, Int.reduceNeg, Int.reduceBEq, Int.reduceBNe, Int.reduceEq, Nat.reduceLeDiff, Nat.reduceMul, Nat.reduceLT, natV, intV, putAt, idxOk, flatP, *, siteC]
    | simp (singlePass := true) (maxDischargeDepth := 99) only [*, S2, Nat.reduceLT, siteC])
      · have e := Option.some.inj ho
        subst e
        have a6 := hag.at 6 (by kernel_rfl)
        simp only [S5, ↓reduceIte, Nat.reduceEqDiff, initF, *] at a6
        clear hag hdep ho
        refine relStep_off rfl ?_
        (repeat' first
    | ((with_reducible refine at_row ?_); refine row1_k (by rfl) (by decide) fun _ _ _ _ _ _ _ => ?_)
    | with_reducible first | refine alloc_k fun _ _ _ _ _ _ => ?_ | refine row_k fun _ _ _ _ _ _ => ?_ | refine fork (fun _ => ?_) fun _ => ?_ | refine forkp (fun _ => ?_) fun _ => ?_ | refine forke (fun _ => ?_) fun _ _ => ?_ | refine tail_k fun _ _ _ => ?_ | refine ext_k fun _ _ _ => ?_ | refine need_a ?_ | refine st_agg (by kernel_rfl) rfl (by simp only [natV, intV, S3, *]) fun _ _ _ _ => ?_ | refine wpd_q_a ?_
    | ((with_reducible refine at_f 22 ?_); refine ret_k (planValid (B := B) (hT' _ FR) FR (hS _ FR) (hW _ FR) (hP _ FR)) fun _ _ _ => ?_)
    | ((with_reducible refine at_f 24 ?_); refine ret_k (ref20Valid (B := B) FR (hS _ FR) (hW _ FR) (hP _ FR)) fun _ _ _ => ?_)
    | ((with_reducible refine at_f 15 ?_); refine ret_k (ref12Ints (a := hostsI p) (b := hostsI p) (Nat.le_refl _) (Nat.le_refl _) (d11.sl1 (f := intV)) (d13.sl1 (f := intV))) fun _ _ _ => ?_)
    | ((with_reducible refine at_f 26 ?_); refine ret_k (planSame (B := B) (B' := B) FR FR (hP _ FR) (hQ _ FR)) fun _ _ _ => ?_)
    | ((with_reducible refine at_f 18 ?_); refine ret_k (ref20Same (B := B) (B' := B) FR FR (hP _ FR) (hQ _ FR)) fun _ _ _ => ?_)
    | ((with_reducible refine at_f 8 ?_); refine ret_k (law20live (hT' _ FR)) fun _ _ _ => ?_)
    | simp (maxDischargeDepth := 3) only [↓X, ↓Y, ↓Q, S1, ↓reduceIte, Nat.reduceEqDiff, Nat.reduceAdd, Int.reduceLT, Int.reduceLE, Int.reduceNeg, Int.reduceBEq, Int.reduceBNe, Int.reduceEq, Nat.reduceLeDiff, Nat.reduceMul, Nat.reduceLT, natV, intV, putAt, idxOk, flatP, *, siteC]
    | simp (singlePass := true) (maxDischargeDepth := 99) only [*, S2, Nat.reduceLT, siteC])
      · have e := Option.some.inj ho
        subst e
        have d0 : (gF 22) = .agg (siteC u s).toArray := hdep ⟨0, .data⟩ (by simp) rfl _ _ rfl rfl
        have d1 : (gF 23) = .agg #[wv] := hdep ⟨1, .data⟩ (by simp) rfl _ _ rfl rfl
        have d2 : (gF 24) = .agg #[sv, av] := hdep ⟨2, .data⟩ (by simp) rfl _ _ rfl rfl
        clear hag hdep ho
        refine relStep_off rfl ?_
        (repeat' first
    | ((with_reducible refine at_row ?_); refine row1_k (by rfl) (by decide) fun _ _ _ _ _ _ _ => ?_)
    | with_reducible first | refine alloc_k fun _ _ _ _ _ _ => ?_ | refine row_k fun _ _ _ _ _ _ => ?_ | refine fork (fun _ => ?_) fun _ => ?_ | refine forkp (fun _ => ?_) fun _ => ?_ | refine forke (fun _ => ?_) fun _ _ => ?_ | refine tail_k fun _ _ _ => ?_ | refine ext_k fun _ _ _ => ?_ | refine need_a ?_ | refine st_agg (by kernel_rfl) rfl (by simp only [natV, intV, S3, *]) fun _ _ _ _ => ?_ | refine wpd_q_a ?_
    | ((with_reducible refine at_f 22 ?_); refine ret_k (planValid (B := B) (hT' _ FR) FR (hS _ FR) (hW _ FR) (hP _ FR)) fun _ _ _ => ?_)
    | ((with_reducible refine at_f 24 ?_); refine ret_k (ref20Valid (B := B) FR (hS _ FR) (hW _ FR) (hP _ FR)) fun _ _ _ => ?_)
    | ((with_reducible refine at_f 15 ?_); refine ret_k (ref12Ints (a := hostsI p) (b := hostsI p) (Nat.le_refl _) (Nat.le_refl _) (d11.sl1 (f := intV)) (d13.sl1 (f := intV))) fun _ _ _ => ?_)
    | ((with_reducible refine at_f 26 ?_); refine ret_k (planSame (B := B) (B' := B) FR FR (hP _ FR) (hQ _ FR)) fun _ _ _ => ?_)
    | ((with_reducible refine at_f 18 ?_); refine ret_k (ref20Same (B := B) (B' := B) FR FR (hP _ FR) (hQ _ FR)) fun _ _ _ => ?_)
    | ((with_reducible refine at_f 8 ?_); refine ret_k (law20live (hT' _ FR)) fun _ _ _ => ?_)
    | simp (maxDischargeDepth := 3) only [↓X, ↓Y, ↓Q, S1, ↓reduceIte, Nat.reduceEqDiff, Nat.reduceAdd, Int.reduceLT, Int.reduceLE, Int.reduceNeg, Int.reduceBEq, Int.reduceBNe, Int.reduceEq, Nat.reduceLeDiff, Nat.reduceMul, Nat.reduceLT, natV, intV, putAt, idxOk, flatP, *, siteC]
    | simp (singlePass := true) (maxDischargeDepth := 99) only [*, S2, Nat.reduceLT, siteC])
      · have e := Option.some.inj ho
        subst e
        have a4 := hag.at 4 (by kernel_rfl)
        simp only [S5, ↓reduceIte, Nat.reduceEqDiff, initF, *] at a4
        clear hag hdep ho
        refine relStep_off rfl ?_
        (repeat' first
    | ((with_reducible refine at_row ?_); refine row1_k (by rfl) (by decide) fun _ _ _ _ _ _ _ => ?_)
    | with_reducible first | refine alloc_k fun _ _ _ _ _ _ => ?_ | refine row_k fun _ _ _ _ _ _ => ?_ | refine fork (fun _ => ?_) fun _ => ?_ | refine forkp (fun _ => ?_) fun _ => ?_ | refine forke (fun _ => ?_) fun _ _ => ?_ | refine tail_k fun _ _ _ => ?_ | refine ext_k fun _ _ _ => ?_ | refine need_a ?_ | refine st_agg (by kernel_rfl) rfl (by simp only [natV, intV, S3, *]) fun _ _ _ _ => ?_ | refine wpd_q_a ?_
    | ((with_reducible refine at_f 22 ?_); refine ret_k (planValid (B := B) (hT' _ FR) FR (hS _ FR) (hW _ FR) (hP _ FR)) fun _ _ _ => ?_)
    | ((with_reducible refine at_f 24 ?_); refine ret_k (ref20Valid (B := B) FR (hS _ FR) (hW _ FR) (hP _ FR)) fun _ _ _ => ?_)
    | ((with_reducible refine at_f 15 ?_); refine ret_k (ref12Ints (a := hostsI p) (b := hostsI p) (Nat.le_refl _) (Nat.le_refl _) (d11.sl1 (f := intV)) (d13.sl1 (f := intV))) fun _ _ _ => ?_)
    | ((with_reducible refine at_f 26 ?_); refine ret_k (planSame (B := B) (B' := B) FR FR (hP _ FR) (hQ _ FR)) fun _ _ _ => ?_)
    | ((with_reducible refine at_f 18 ?_); refine ret_k (ref20Same (B := B) (B' := B) FR FR (hP _ FR) (hQ _ FR)) fun _ _ _ => ?_)
    | ((with_reducible refine at_f 8 ?_); refine ret_k (law20live (hT' _ FR)) fun _ _ _ => ?_)
    | simp (maxDischargeDepth := 3) only [↓X, ↓Y, ↓Q, S1, ↓reduceIte, Nat.reduceEqDiff, Nat.reduceAdd, Int.reduceLT, Int.reduceLE, Int.reduceNeg, Int.reduceBEq, Int.reduceBNe, Int.reduceEq, Nat.reduceLeDiff, Nat.reduceMul, Nat.reduceLT, natV, intV, putAt, idxOk, flatP, *, siteC]
    | simp (singlePass := true) (maxDischargeDepth := 99) only [*, S2, Nat.reduceLT, siteC])
      · have e := Option.some.inj ho
        subst e
        have a5 := hag.at 5 (by kernel_rfl)
        simp only [S5, ↓reduceIte, Nat.reduceEqDiff, initF, *] at a5
        clear hag hdep ho
        refine relStep_off rfl ?_
        (repeat' first
    | ((with_reducible refine at_row ?_); refine row1_k (by rfl) (by decide) fun _ _ _ _ _ _ _ => ?_)
    | with_reducible first | refine alloc_k fun _ _ _ _ _ _ => ?_ | refine row_k fun _ _ _ _ _ _ => ?_ | refine fork (fun _ => ?_) fun _ => ?_ | refine forkp (fun _ => ?_) fun _ => ?_ | refine forke (fun _ => ?_) fun _ _ => ?_ | refine tail_k fun _ _ _ => ?_ | refine ext_k fun _ _ _ => ?_ | refine need_a ?_ | refine st_agg (by kernel_rfl) rfl (by simp only [natV, intV, S3, *]) fun _ _ _ _ => ?_ | refine wpd_q_a ?_
    | ((with_reducible refine at_f 22 ?_); refine ret_k (planValid (B := B) (hT' _ FR) FR (hS _ FR) (hW _ FR) (hP _ FR)) fun _ _ _ => ?_)
    | ((with_reducible refine at_f 24 ?_); refine ret_k (ref20Valid (B := B) FR (hS _ FR) (hW _ FR) (hP _ FR)) fun _ _ _ => ?_)
    | ((with_reducible refine at_f 15 ?_); refine ret_k (ref12Ints (a := hostsI p) (b := hostsI p) (Nat.le_refl _) (Nat.le_refl _) (d11.sl1 (f := intV)) (d13.sl1 (f := intV))) fun _ _ _ => ?_)
    | ((with_reducible refine at_f 26 ?_); refine ret_k (planSame (B := B) (B' := B) FR FR (hP _ FR) (hQ _ FR)) fun _ _ _ => ?_)
    | ((with_reducible refine at_f 18 ?_); refine ret_k (ref20Same (B := B) (B' := B) FR FR (hP _ FR) (hQ _ FR)) fun _ _ _ => ?_)
    | ((with_reducible refine at_f 8 ?_); refine ret_k (law20live (hT' _ FR)) fun _ _ _ => ?_)
    | simp (maxDischargeDepth := 3) only [↓X, ↓Y, ↓Q, S1, ↓reduceIte, Nat.reduceEqDiff, Nat.reduceAdd, Int.reduceLT, Int.reduceLE, Int.reduceNeg, Int.reduceBEq, Int.reduceBNe, Int.reduceEq, Nat.reduceLeDiff, Nat.reduceMul, Nat.reduceLT, natV, intV, putAt, idxOk, flatP, *, siteC]
    | simp (singlePass := true) (maxDischargeDepth := 99) only [*, S2, Nat.reduceLT, siteC])
      · have e := Option.some.inj ho
        subst e
        have a6 := hag.at 6 (by kernel_rfl)
        simp only [S5, ↓reduceIte, Nat.reduceEqDiff, initF, *] at a6
        clear hag hdep ho
        refine relStep_off rfl ?_
        (repeat' first
    | ((with_reducible refine at_row ?_); refine row1_k (by rfl) (by decide) fun _ _ _ _ _ _ _ => ?_)
    | with_reducible first | refine alloc_k fun _ _ _ _ _ _ => ?_ | refine row_k fun _ _ _ _ _ _ => ?_ | refine fork (fun _ => ?_) fun _ => ?_ | refine forkp (fun _ => ?_) fun _ => ?_ | refine forke (fun _ => ?_) fun _ _ => ?_ | refine tail_k fun _ _ _ => ?_ | refine ext_k fun _ _ _ => ?_ | refine need_a ?_ | refine st_agg (by kernel_rfl) rfl (by simp only [natV, intV, S3, *]) fun _ _ _ _ => ?_ | refine wpd_q_a ?_
    | ((with_reducible refine at_f 22 ?_); refine ret_k (planValid (B := B) (hT' _ FR) FR (hS _ FR) (hW _ FR) (hP _ FR)) fun _ _ _ => ?_)
    | ((with_reducible refine at_f 24 ?_); refine ret_k (ref20Valid (B := B) FR (hS _ FR) (hW _ FR) (hP _ FR)) fun _ _ _ => ?_)
    | ((with_reducible refine at_f 15 ?_); refine ret_k (ref12Ints (a := hostsI p) (b := hostsI p) (Nat.le_refl _) (Nat.le_refl _) (d11.sl1 (f := intV)) (d13.sl1 (f := intV))) fun _ _ _ => ?_)
    | ((with_reducible refine at_f 26 ?_); refine ret_k (planSame (B := B) (B' := B) FR FR (hP _ FR) (hQ _ FR)) fun _ _ _ => ?_)
    | ((with_reducible refine at_f 18 ?_); refine ret_k (ref20Same (B := B) (B' := B) FR FR (hP _ FR) (hQ _ FR)) fun _ _ _ => ?_)
    | ((with_reducible refine at_f 8 ?_); refine ret_k (law20live (hT' _ FR)) fun _ _ _ => ?_)
    | simp (maxDischargeDepth := 3) only [↓X, ↓Y, ↓Q, S1, ↓reduceIte, Nat.reduceEqDiff, Nat.reduceAdd, Int.reduceLT, Int.reduceLE, Int.reduceNeg, Int.reduceBEq, Int.reduceBNe, Int.reduceEq, Nat.reduceLeDiff, Nat.reduceMul, Nat.reduceLT, natV, intV, putAt, idxOk, flatP, *, siteC]
    | simp (singlePass := true) (maxDischargeDepth := 99) only [*, S2, Nat.reduceLT, siteC])
      · have e := Option.some.inj ho
        subst e
        have d4 : (gF 26) = .agg (siteC u s).toArray := hdep ⟨4, .data⟩ (by simp) rfl _ _ rfl rfl
        have d5 : (gF 27) = .agg #[wv] := hdep ⟨5, .data⟩ (by simp) rfl _ _ rfl rfl
        have d6 : (gF 28) = .agg #[sv, av] := hdep ⟨6, .data⟩ (by simp) rfl _ _ rfl rfl
        clear hag hdep ho
        refine relStep_off rfl ?_
        (repeat' first
    | ((with_reducible refine at_row ?_); refine row1_k (by rfl) (by decide) fun _ _ _ _ _ _ _ => ?_)
    | with_reducible first | refine alloc_k fun _ _ _ _ _ _ => ?_ | refine row_k fun _ _ _ _ _ _ => ?_ | refine fork (fun _ => ?_) fun _ => ?_ | refine forkp (fun _ => ?_) fun _ => ?_ | refine forke (fun _ => ?_) fun _ _ => ?_ | refine tail_k fun _ _ _ => ?_ | refine ext_k fun _ _ _ => ?_ | refine need_a ?_ | refine st_agg (by kernel_rfl) rfl (by simp only [natV, intV, S3, *]) fun _ _ _ _ => ?_ | refine wpd_q_a ?_
    | ((with_reducible refine at_f 22 ?_); refine ret_k (planValid (B := B) (hT' _ FR) FR (hS _ FR) (hW _ FR) (hP _ FR)) fun _ _ _ => ?_)
    | ((with_reducible refine at_f 24 ?_); refine ret_k (ref20Valid (B := B) FR (hS _ FR) (hW _ FR) (hP _ FR)) fun _ _ _ => ?_)
    | ((with_reducible refine at_f 15 ?_); refine ret_k (ref12Ints (a := hostsI p) (b := hostsI p) (Nat.le_refl _) (Nat.le_refl _) (d11.sl1 (f := intV)) (d13.sl1 (f := intV))) fun _ _ _ => ?_)
    | ((with_reducible refine at_f 26 ?_); refine ret_k (planSame (B := B) (B' := B) FR FR (hP _ FR) (hQ _ FR)) fun _ _ _ => ?_)
    | ((with_reducible refine at_f 18 ?_); refine ret_k (ref20Same (B := B) (B' := B) FR FR (hP _ FR) (hQ _ FR)) fun _ _ _ => ?_)
    | ((with_reducible refine at_f 8 ?_); refine ret_k (law20live (hT' _ FR)) fun _ _ _ => ?_)
    | simp (maxDischargeDepth := 3) only [↓X, ↓Y, ↓Q, S1, ↓reduceIte, Nat.reduceEqDiff, Nat.reduceAdd, Int.reduceLT, Int.reduceLE, Int.reduceNeg, Int.reduceBEq, Int.reduceBNe, Int.reduceEq, Nat.reduceLeDiff, Nat.reduceMul, Nat.reduceLT, natV, intV, putAt, idxOk, flatP, *, siteC]
    | simp (singlePass := true) (maxDischargeDepth := 99) only [*, S2, Nat.reduceLT, siteC])
      · have e := Option.some.inj ho
        subst e
        have d3 : (gF 25) = intV (planErr s (l.map (·.x)) p) := hdep ⟨3, .data⟩ (by simp) rfl _ _ rfl rfl
        have d7 : (gF 29) = intV (planErr s (l.map (·.x)) p) := hdep ⟨7, .data⟩ (by simp) rfl _ _ rfl rfl
        clear hag hdep ho
        refine relStep_off rfl ?_
        (repeat' first
    | ((with_reducible refine at_row ?_); refine row1_k (by rfl) (by decide) fun _ _ _ _ _ _ _ => ?_)
    | with_reducible first | refine alloc_k fun _ _ _ _ _ _ => ?_ | refine row_k fun _ _ _ _ _ _ => ?_ | refine fork (fun _ => ?_) fun _ => ?_ | refine forkp (fun _ => ?_) fun _ => ?_ | refine forke (fun _ => ?_) fun _ _ => ?_ | refine tail_k fun _ _ _ => ?_ | refine ext_k fun _ _ _ => ?_ | refine need_a ?_ | refine st_agg (by kernel_rfl) rfl (by simp only [natV, intV, S3, *]) fun _ _ _ _ => ?_ | refine wpd_q_a ?_
    | ((with_reducible refine at_f 22 ?_); refine ret_k (planValid (B := B) (hT' _ FR) FR (hS _ FR) (hW _ FR) (hP _ FR)) fun _ _ _ => ?_)
    | ((with_reducible refine at_f 24 ?_); refine ret_k (ref20Valid (B := B) FR (hS _ FR) (hW _ FR) (hP _ FR)) fun _ _ _ => ?_)
    | ((with_reducible refine at_f 15 ?_); refine ret_k (ref12Ints (a := hostsI p) (b := hostsI p) (Nat.le_refl _) (Nat.le_refl _) (d11.sl1 (f := intV)) (d13.sl1 (f := intV))) fun _ _ _ => ?_)
    | ((with_reducible refine at_f 26 ?_); refine ret_k (planSame (B := B) (B' := B) FR FR (hP _ FR) (hQ _ FR)) fun _ _ _ => ?_)
    | ((with_reducible refine at_f 18 ?_); refine ret_k (ref20Same (B := B) (B' := B) FR FR (hP _ FR) (hQ _ FR)) fun _ _ _ => ?_)
    | ((with_reducible refine at_f 8 ?_); refine ret_k (law20live (hT' _ FR)) fun _ _ _ => ?_)
    | simp (maxDischargeDepth := 3) only [↓X, ↓Y, ↓Q, S1, ↓reduceIte, Nat.reduceEqDiff, Nat.reduceAdd, Int.reduceLT, Int.reduceLE, Int.reduceNeg, Int.reduceBEq, Int.reduceBNe, Int.reduceEq, Nat.reduceLeDiff, Nat.reduceMul, Nat.reduceLT, natV, intV, putAt, idxOk, flatP, *, siteC]
    | simp (singlePass := true) (maxDischargeDepth := 99) only [*, S2, Nat.reduceLT, siteC])
      · have e := Option.some.inj ho
        subst e
        have d8 : (gF 30) = .bool true := hdep ⟨8, .data⟩ (by simp) rfl _ _ rfl rfl
        clear hag hdep ho
        refine relStep_off rfl ?_
        (repeat' first
    | ((with_reducible refine at_row ?_); refine row1_k (by rfl) (by decide) fun _ _ _ _ _ _ _ => ?_)
    | with_reducible first | refine alloc_k fun _ _ _ _ _ _ => ?_ | refine row_k fun _ _ _ _ _ _ => ?_ | refine fork (fun _ => ?_) fun _ => ?_ | refine forkp (fun _ => ?_) fun _ => ?_ | refine forke (fun _ => ?_) fun _ _ => ?_ | refine tail_k fun _ _ _ => ?_ | refine ext_k fun _ _ _ => ?_ | refine need_a ?_ | refine st_agg (by kernel_rfl) rfl (by simp only [natV, intV, S3, *]) fun _ _ _ _ => ?_ | refine wpd_q_a ?_
    | ((with_reducible refine at_f 22 ?_); refine ret_k (planValid (B := B) (hT' _ FR) FR (hS _ FR) (hW _ FR) (hP _ FR)) fun _ _ _ => ?_)
    | ((with_reducible refine at_f 24 ?_); refine ret_k (ref20Valid (B := B) FR (hS _ FR) (hW _ FR) (hP _ FR)) fun _ _ _ => ?_)
    | ((with_reducible refine at_f 15 ?_); refine ret_k (ref12Ints (a := hostsI p) (b := hostsI p) (Nat.le_refl _) (Nat.le_refl _) (d11.sl1 (f := intV)) (d13.sl1 (f := intV))) fun _ _ _ => ?_)
    | ((with_reducible refine at_f 26 ?_); refine ret_k (planSame (B := B) (B' := B) FR FR (hP _ FR) (hQ _ FR)) fun _ _ _ => ?_)
    | ((with_reducible refine at_f 18 ?_); refine ret_k (ref20Same (B := B) (B' := B) FR FR (hP _ FR) (hQ _ FR)) fun _ _ _ => ?_)
    | ((with_reducible refine at_f 8 ?_); refine ret_k (law20live (hT' _ FR)) fun _ _ _ => ?_)
    | simp (maxDischargeDepth := 3) only [↓X, ↓Y, ↓Q, S1, ↓reduceIte, Nat.reduceEqDiff, Nat.reduceAdd, Int.reduceLT, Int.reduceLE, Int.reduceNeg, Int.reduceBEq, Int.reduceBNe, Int.reduceEq, Nat.reduceLeDiff, Nat.reduceMul, Nat.reduceLT, natV, intV, putAt, idxOk, flatP, *, siteC]
    | simp (singlePass := true) (maxDischargeDepth := 99) only [*, S2, Nat.reduceLT, siteC])
      · have e := Option.some.inj ho
        subst e
        have a6 := hag.at 6 (by kernel_rfl)
        simp only [S5, ↓reduceIte, Nat.reduceEqDiff, initF, *] at a6
        have d9 : (gF 31) = .bool true := hdep ⟨9, .guard⟩ (by simp) rfl _ _ rfl rfl
        clear hag hdep ho
        refine relStep_on (j := 9) (want := true) (t := 31) rfl rfl (by rw [d9]; rfl) ?_
        (repeat' first
    | ((with_reducible refine at_row ?_); refine row1_k (by rfl) (by decide) fun _ _ _ _ _ _ _ => ?_)
    | with_reducible first | refine alloc_k fun _ _ _ _ _ _ => ?_ | refine row_k fun _ _ _ _ _ _ => ?_ | refine fork (fun _ => ?_) fun _ => ?_ | refine forkp (fun _ => ?_) fun _ => ?_ | refine forke (fun _ => ?_) fun _ _ => ?_ | refine tail_k fun _ _ _ => ?_ | refine ext_k fun _ _ _ => ?_ | refine need_a ?_ | refine st_agg (by kernel_rfl) rfl (by simp only [natV, intV, S3, *]) fun _ _ _ _ => ?_ | refine wpd_q_a ?_
    | ((with_reducible refine at_f 22 ?_); refine ret_k (planValid (B := B) (hT' _ FR) FR (hS _ FR) (hW _ FR) (hP _ FR)) fun _ _ _ => ?_)
    | ((with_reducible refine at_f 24 ?_); refine ret_k (ref20Valid (B := B) FR (hS _ FR) (hW _ FR) (hP _ FR)) fun _ _ _ => ?_)
    | ((with_reducible refine at_f 15 ?_); refine ret_k (ref12Ints (a := hostsI p) (b := hostsI p) (Nat.le_refl _) (Nat.le_refl _) (d11.sl1 (f := intV)) (d13.sl1 (f := intV))) fun _ _ _ => ?_)
    | ((with_reducible refine at_f 26 ?_); refine ret_k (planSame (B := B) (B' := B) FR FR (hP _ FR) (hQ _ FR)) fun _ _ _ => ?_)
    | ((with_reducible refine at_f 18 ?_); refine ret_k (ref20Same (B := B) (B' := B) FR FR (hP _ FR) (hQ _ FR)) fun _ _ _ => ?_)
    | ((with_reducible refine at_f 8 ?_); refine ret_k (law20live (hT' _ FR)) fun _ _ _ => ?_)
    | simp (maxDischargeDepth := 3) only [↓X, ↓Y, ↓Q, S1, ↓reduceIte, Nat.reduceEqDiff, Nat.reduceAdd, Int.reduceLT, Int.reduceLE, Int.reduceNeg, Int.reduceBEq, Int.reduceBNe, Int.reduceEq, Nat.reduceLeDiff, Nat.reduceMul, Nat.reduceLT, natV, intV, putAt, idxOk, flatP, *, siteC]
    | simp (singlePass := true) (maxDischargeDepth := 99) only [*, S2, Nat.reduceLT, siteC])
      · have e := Option.some.inj ho
        subst e
        have d10 : (gF 32) = .agg #[sv, av] := hdep ⟨10, .data⟩ (by simp) rfl _ _ rfl rfl
        have d9 : (gF 31) = .bool true := hdep ⟨9, .guard⟩ (by simp) rfl _ _ rfl rfl
        clear hag hdep ho
        refine relStep_on (j := 9) (want := true) (t := 31) rfl rfl (by rw [d9]; rfl) ?_
        (repeat' first
    | ((with_reducible refine at_row ?_); refine row1_k (by rfl) (by decide) fun _ _ _ _ _ _ _ => ?_)
    | with_reducible first | refine alloc_k fun _ _ _ _ _ _ => ?_ | refine row_k fun _ _ _ _ _ _ => ?_ | refine fork (fun _ => ?_) fun _ => ?_ | refine forkp (fun _ => ?_) fun _ => ?_ | refine forke (fun _ => ?_) fun _ _ => ?_ | refine tail_k fun _ _ _ => ?_ | refine ext_k fun _ _ _ => ?_ | refine need_a ?_ | refine st_agg (by kernel_rfl) rfl (by simp only [natV, intV, S3, *]) fun _ _ _ _ => ?_ | refine wpd_q_a ?_
    | ((with_reducible refine at_f 22 ?_); refine ret_k (planValid (B := B) (hT' _ FR) FR (hS _ FR) (hW _ FR) (hP _ FR)) fun _ _ _ => ?_)
    | ((with_reducible refine at_f 24 ?_); refine ret_k (ref20Valid (B := B) FR (hS _ FR) (hW _ FR) (hP _ FR)) fun _ _ _ => ?_)
    | ((with_reducible refine at_f 15 ?_); refine ret_k (ref12Ints (a := hostsI p) (b := hostsI p) (Nat.le_refl _) (Nat.le_refl _) (d11.sl1 (f := intV)) (d13.sl1 (f := intV))) fun _ _ _ => ?_)
    | ((with_reducible refine at_f 26 ?_); refine ret_k (planSame (B := B) (B' := B) FR FR (hP _ FR) (hQ _ FR)) fun _ _ _ => ?_)
    | ((with_reducible refine at_f 18 ?_); refine ret_k (ref20Same (B := B) (B' := B) FR FR (hP _ FR) (hQ _ FR)) fun _ _ _ => ?_)
    | ((with_reducible refine at_f 8 ?_); refine ret_k (law20live (hT' _ FR)) fun _ _ _ => ?_)
    | simp (maxDischargeDepth := 3) only [↓X, ↓Y, ↓Q, S1, ↓reduceIte, Nat.reduceEqDiff, Nat.reduceAdd, Int.reduceLT, Int.reduceLE, Int.reduceNeg, Int.reduceBEq, Int.reduceBNe, Int.reduceEq, Nat.reduceLeDiff, Nat.reduceMul, Nat.reduceLT, natV, intV, putAt, idxOk, flatP, *, siteC]
    | simp (singlePass := true) (maxDischargeDepth := 99) only [*, S2, Nat.reduceLT, siteC])
        refine CallsV.mono (planHosts (B := B) FR (hP _ FR) hlen.out) fun v w10 hh => ⟨hh.1, Own.more hh.2 z9⟩
      · have e := Option.some.inj ho
        subst e
        have a6 := hag.at 6 (by kernel_rfl)
        simp only [S5, ↓reduceIte, Nat.reduceEqDiff, initF, *] at a6
        have d9 : (gF 31) = .bool true := hdep ⟨9, .guard⟩ (by simp) rfl _ _ rfl rfl
        clear hag hdep ho
        refine relStep_on (j := 9) (want := true) (t := 31) rfl rfl (by rw [d9]; rfl) ?_
        (repeat' first
    | ((with_reducible refine at_row ?_); refine row1_k (by rfl) (by decide) fun _ _ _ _ _ _ _ => ?_)
    | with_reducible first | refine alloc_k fun _ _ _ _ _ _ => ?_ | refine row_k fun _ _ _ _ _ _ => ?_ | refine fork (fun _ => ?_) fun _ => ?_ | refine forkp (fun _ => ?_) fun _ => ?_ | refine forke (fun _ => ?_) fun _ _ => ?_ | refine tail_k fun _ _ _ => ?_ | refine ext_k fun _ _ _ => ?_ | refine need_a ?_ | refine st_agg (by kernel_rfl) rfl (by simp only [natV, intV, S3, *]) fun _ _ _ _ => ?_ | refine wpd_q_a ?_
    | ((with_reducible refine at_f 22 ?_); refine ret_k (planValid (B := B) (hT' _ FR) FR (hS _ FR) (hW _ FR) (hP _ FR)) fun _ _ _ => ?_)
    | ((with_reducible refine at_f 24 ?_); refine ret_k (ref20Valid (B := B) FR (hS _ FR) (hW _ FR) (hP _ FR)) fun _ _ _ => ?_)
    | ((with_reducible refine at_f 15 ?_); refine ret_k (ref12Ints (a := hostsI p) (b := hostsI p) (Nat.le_refl _) (Nat.le_refl _) (d11.sl1 (f := intV)) (d13.sl1 (f := intV))) fun _ _ _ => ?_)
    | ((with_reducible refine at_f 26 ?_); refine ret_k (planSame (B := B) (B' := B) FR FR (hP _ FR) (hQ _ FR)) fun _ _ _ => ?_)
    | ((with_reducible refine at_f 18 ?_); refine ret_k (ref20Same (B := B) (B' := B) FR FR (hP _ FR) (hQ _ FR)) fun _ _ _ => ?_)
    | ((with_reducible refine at_f 8 ?_); refine ret_k (law20live (hT' _ FR)) fun _ _ _ => ?_)
    | simp (maxDischargeDepth := 3) only [↓X, ↓Y, ↓Q, S1, ↓reduceIte, Nat.reduceEqDiff, Nat.reduceAdd, Int.reduceLT, Int.reduceLE, Int.reduceNeg, Int.reduceBEq, Int.reduceBNe, Int.reduceEq, Nat.reduceLeDiff, Nat.reduceMul, Nat.reduceLT, natV, intV, putAt, idxOk, flatP, *, siteC]
    | simp (singlePass := true) (maxDischargeDepth := 99) only [*, S2, Nat.reduceLT, siteC])
      · have e := Option.some.inj ho
        subst e
        have d12 : (gF 34) = .agg #[sv, av] := hdep ⟨12, .data⟩ (by simp) rfl _ _ rfl rfl
        have d9 : (gF 31) = .bool true := hdep ⟨9, .guard⟩ (by simp) rfl _ _ rfl rfl
        clear hag hdep ho
        refine relStep_on (j := 9) (want := true) (t := 31) rfl rfl (by rw [d9]; rfl) ?_
        (repeat' first
    | ((with_reducible refine at_row ?_); refine row1_k (by rfl) (by decide) fun _ _ _ _ _ _ _ => ?_)
    | with_reducible first | refine alloc_k fun _ _ _ _ _ _ => ?_ | refine row_k fun _ _ _ _ _ _ => ?_ | refine fork (fun _ => ?_) fun _ => ?_ | refine forkp (fun _ => ?_) fun _ => ?_ | refine forke (fun _ => ?_) fun _ _ => ?_ | refine tail_k fun _ _ _ => ?_ | refine ext_k fun _ _ _ => ?_ | refine need_a ?_ | refine st_agg (by kernel_rfl) rfl (by simp only [natV, intV, S3, *]) fun _ _ _ _ => ?_ | refine wpd_q_a ?_
    | ((with_reducible refine at_f 22 ?_); refine ret_k (planValid (B := B) (hT' _ FR) FR (hS _ FR) (hW _ FR) (hP _ FR)) fun _ _ _ => ?_)
    | ((with_reducible refine at_f 24 ?_); refine ret_k (ref20Valid (B := B) FR (hS _ FR) (hW _ FR) (hP _ FR)) fun _ _ _ => ?_)
    | ((with_reducible refine at_f 15 ?_); refine ret_k (ref12Ints (a := hostsI p) (b := hostsI p) (Nat.le_refl _) (Nat.le_refl _) (d11.sl1 (f := intV)) (d13.sl1 (f := intV))) fun _ _ _ => ?_)
    | ((with_reducible refine at_f 26 ?_); refine ret_k (planSame (B := B) (B' := B) FR FR (hP _ FR) (hQ _ FR)) fun _ _ _ => ?_)
    | ((with_reducible refine at_f 18 ?_); refine ret_k (ref20Same (B := B) (B' := B) FR FR (hP _ FR) (hQ _ FR)) fun _ _ _ => ?_)
    | ((with_reducible refine at_f 8 ?_); refine ret_k (law20live (hT' _ FR)) fun _ _ _ => ?_)
    | simp (maxDischargeDepth := 3) only [↓X, ↓Y, ↓Q, S1, ↓reduceIte, Nat.reduceEqDiff, Nat.reduceAdd, Int.reduceLT, Int.reduceLE, Int.reduceNeg, Int.reduceBEq, Int.reduceBNe, Int.reduceEq, Nat.reduceLeDiff, Nat.reduceMul, Nat.reduceLT, natV, intV, putAt, idxOk, flatP, *, siteC]
    | simp (singlePass := true) (maxDischargeDepth := 99) only [*, S2, Nat.reduceLT, siteC])
        refine CallsV.mono (ref20Hosts (B := B) FR (hP _ FR) hlen.out) fun v w10 hh => ⟨hh.1, Own.more hh.2 z9⟩
      · have e := Option.some.inj ho
        subst e
        have d11 : Own w9 wc.heap.size 3 1 (gF 33) ((hostsI p).map intC) := hdep ⟨11, .data⟩ (by simp) rfl _ _ rfl rfl
        have d13 : Own w9 wc.heap.size 3 1 (gF 35) ((hostsI p).map intC) := hdep ⟨13, .data⟩ (by simp) rfl _ _ rfl rfl
        have d9 : (gF 31) = .bool true := hdep ⟨9, .guard⟩ (by simp) rfl _ _ rfl rfl
        clear hag hdep ho
        refine relStep_on (j := 9) (want := true) (t := 31) rfl rfl (by rw [d9]; rfl) ?_
        (repeat' first
    | ((with_reducible refine at_row ?_); refine row1_k (by rfl) (by decide) fun _ _ _ _ _ _ _ => ?_)
    | with_reducible first | refine alloc_k fun _ _ _ _ _ _ => ?_ | refine row_k fun _ _ _ _ _ _ => ?_ | refine fork (fun _ => ?_) fun _ => ?_ | refine forkp (fun _ => ?_) fun _ => ?_ | refine forke (fun _ => ?_) fun _ _ => ?_ | refine tail_k fun _ _ _ => ?_ | refine ext_k fun _ _ _ => ?_ | refine need_a ?_ | refine st_agg (by kernel_rfl) rfl (by simp only [natV, intV, S3, *]) fun _ _ _ _ => ?_ | refine wpd_q_a ?_
    | ((with_reducible refine at_f 22 ?_); refine ret_k (planValid (B := B) (hT' _ FR) FR (hS _ FR) (hW _ FR) (hP _ FR)) fun _ _ _ => ?_)
    | ((with_reducible refine at_f 24 ?_); refine ret_k (ref20Valid (B := B) FR (hS _ FR) (hW _ FR) (hP _ FR)) fun _ _ _ => ?_)
    | ((with_reducible refine at_f 15 ?_); refine ret_k (ref12Ints (a := hostsI p) (b := hostsI p) (Nat.le_refl _) (Nat.le_refl _) (d11.sl1 (f := intV)) (d13.sl1 (f := intV))) fun _ _ _ => ?_)
    | ((with_reducible refine at_f 26 ?_); refine ret_k (planSame (B := B) (B' := B) FR FR (hP _ FR) (hQ _ FR)) fun _ _ _ => ?_)
    | ((with_reducible refine at_f 18 ?_); refine ret_k (ref20Same (B := B) (B' := B) FR FR (hP _ FR) (hQ _ FR)) fun _ _ _ => ?_)
    | ((with_reducible refine at_f 8 ?_); refine ret_k (law20live (hT' _ FR)) fun _ _ _ => ?_)
    | simp (maxDischargeDepth := 3) only [↓X, ↓Y, ↓Q, S1, ↓reduceIte, Nat.reduceEqDiff, Nat.reduceAdd, Int.reduceLT, Int.reduceLE, Int.reduceNeg, Int.reduceBEq, Int.reduceBNe, Int.reduceEq, Nat.reduceLeDiff, Nat.reduceMul, Nat.reduceLT, natV, intV, putAt, idxOk, flatP, *, siteC]
    | simp (singlePass := true) (maxDischargeDepth := 99) only [*, S2, Nat.reduceLT, siteC])
      · have e := Option.some.inj ho
        subst e
        have d9 : (gF 31) = .bool true := hdep ⟨9, .data⟩ (by simp) rfl _ _ rfl rfl
        have d14 : (gF 36) = .bool true := hdep ⟨14, .data⟩ (by simp) rfl _ _ rfl rfl
        clear hag hdep ho
        refine relStep_off rfl ?_
        (repeat' first
    | ((with_reducible refine at_row ?_); refine row1_k (by rfl) (by decide) fun _ _ _ _ _ _ _ => ?_)
    | with_reducible first | refine alloc_k fun _ _ _ _ _ _ => ?_ | refine row_k fun _ _ _ _ _ _ => ?_ | refine fork (fun _ => ?_) fun _ => ?_ | refine forkp (fun _ => ?_) fun _ => ?_ | refine forke (fun _ => ?_) fun _ _ => ?_ | refine tail_k fun _ _ _ => ?_ | refine ext_k fun _ _ _ => ?_ | refine need_a ?_ | refine st_agg (by kernel_rfl) rfl (by simp only [natV, intV, S3, *]) fun _ _ _ _ => ?_ | refine wpd_q_a ?_
    | ((with_reducible refine at_f 22 ?_); refine ret_k (planValid (B := B) (hT' _ FR) FR (hS _ FR) (hW _ FR) (hP _ FR)) fun _ _ _ => ?_)
    | ((with_reducible refine at_f 24 ?_); refine ret_k (ref20Valid (B := B) FR (hS _ FR) (hW _ FR) (hP _ FR)) fun _ _ _ => ?_)
    | ((with_reducible refine at_f 15 ?_); refine ret_k (ref12Ints (a := hostsI p) (b := hostsI p) (Nat.le_refl _) (Nat.le_refl _) (d11.sl1 (f := intV)) (d13.sl1 (f := intV))) fun _ _ _ => ?_)
    | ((with_reducible refine at_f 26 ?_); refine ret_k (planSame (B := B) (B' := B) FR FR (hP _ FR) (hQ _ FR)) fun _ _ _ => ?_)
    | ((with_reducible refine at_f 18 ?_); refine ret_k (ref20Same (B := B) (B' := B) FR FR (hP _ FR) (hQ _ FR)) fun _ _ _ => ?_)
    | ((with_reducible refine at_f 8 ?_); refine ret_k (law20live (hT' _ FR)) fun _ _ _ => ?_)
    | simp (maxDischargeDepth := 3) only [↓X, ↓Y, ↓Q, S1, ↓reduceIte, Nat.reduceEqDiff, Nat.reduceAdd, Int.reduceLT, Int.reduceLE, Int.reduceNeg, Int.reduceBEq, Int.reduceBNe, Int.reduceEq, Nat.reduceLeDiff, Nat.reduceMul, Nat.reduceLT, natV, intV, putAt, idxOk, flatP, *, siteC]
    | simp (singlePass := true) (maxDischargeDepth := 99) only [*, S2, Nat.reduceLT, siteC])
      · have e := Option.some.inj ho
        subst e
        have d15 : (gF 37) = .bool true := hdep ⟨15, .data⟩ (by simp) rfl _ _ rfl rfl
        clear hag hdep ho
        refine relStep_off rfl ?_
        (repeat' first
    | ((with_reducible refine at_row ?_); refine row1_k (by rfl) (by decide) fun _ _ _ _ _ _ _ => ?_)
    | with_reducible first | refine alloc_k fun _ _ _ _ _ _ => ?_ | refine row_k fun _ _ _ _ _ _ => ?_ | refine fork (fun _ => ?_) fun _ => ?_ | refine forkp (fun _ => ?_) fun _ => ?_ | refine forke (fun _ => ?_) fun _ _ => ?_ | refine tail_k fun _ _ _ => ?_ | refine ext_k fun _ _ _ => ?_ | refine need_a ?_ | refine st_agg (by kernel_rfl) rfl (by simp only [natV, intV, S3, *]) fun _ _ _ _ => ?_ | refine wpd_q_a ?_
    | ((with_reducible refine at_f 22 ?_); refine ret_k (planValid (B := B) (hT' _ FR) FR (hS _ FR) (hW _ FR) (hP _ FR)) fun _ _ _ => ?_)
    | ((with_reducible refine at_f 24 ?_); refine ret_k (ref20Valid (B := B) FR (hS _ FR) (hW _ FR) (hP _ FR)) fun _ _ _ => ?_)
    | ((with_reducible refine at_f 15 ?_); refine ret_k (ref12Ints (a := hostsI p) (b := hostsI p) (Nat.le_refl _) (Nat.le_refl _) (d11.sl1 (f := intV)) (d13.sl1 (f := intV))) fun _ _ _ => ?_)
    | ((with_reducible refine at_f 26 ?_); refine ret_k (planSame (B := B) (B' := B) FR FR (hP _ FR) (hQ _ FR)) fun _ _ _ => ?_)
    | ((with_reducible refine at_f 18 ?_); refine ret_k (ref20Same (B := B) (B' := B) FR FR (hP _ FR) (hQ _ FR)) fun _ _ _ => ?_)
    | ((with_reducible refine at_f 8 ?_); refine ret_k (law20live (hT' _ FR)) fun _ _ _ => ?_)
    | simp (maxDischargeDepth := 3) only [↓X, ↓Y, ↓Q, S1, ↓reduceIte, Nat.reduceEqDiff, Nat.reduceAdd, Int.reduceLT, Int.reduceLE, Int.reduceNeg, Int.reduceBEq, Int.reduceBNe, Int.reduceEq, Nat.reduceLeDiff, Nat.reduceMul, Nat.reduceLT, natV, intV, putAt, idxOk, flatP, *, siteC]
    | simp (singlePass := true) (maxDischargeDepth := 99) only [*, S2, Nat.reduceLT, siteC])
      · have e := Option.some.inj ho
        subst e
        have a6 := hag.at 6 (by kernel_rfl)
        simp only [S5, ↓reduceIte, Nat.reduceEqDiff, initF, *] at a6
        have d16 : (gF 38) = .bool true := hdep ⟨16, .guard⟩ (by simp) rfl _ _ rfl rfl
        clear hag hdep ho
        refine relStep_on (j := 16) (want := true) (t := 38) rfl rfl (by rw [d16]; rfl) ?_
        (repeat' first
    | ((with_reducible refine at_row ?_); refine row1_k (by rfl) (by decide) fun _ _ _ _ _ _ _ => ?_)
    | with_reducible first | refine alloc_k fun _ _ _ _ _ _ => ?_ | refine row_k fun _ _ _ _ _ _ => ?_ | refine fork (fun _ => ?_) fun _ => ?_ | refine forkp (fun _ => ?_) fun _ => ?_ | refine forke (fun _ => ?_) fun _ _ => ?_ | refine tail_k fun _ _ _ => ?_ | refine ext_k fun _ _ _ => ?_ | refine need_a ?_ | refine st_agg (by kernel_rfl) rfl (by simp only [natV, intV, S3, *]) fun _ _ _ _ => ?_ | refine wpd_q_a ?_
    | ((with_reducible refine at_f 22 ?_); refine ret_k (planValid (B := B) (hT' _ FR) FR (hS _ FR) (hW _ FR) (hP _ FR)) fun _ _ _ => ?_)
    | ((with_reducible refine at_f 24 ?_); refine ret_k (ref20Valid (B := B) FR (hS _ FR) (hW _ FR) (hP _ FR)) fun _ _ _ => ?_)
    | ((with_reducible refine at_f 15 ?_); refine ret_k (ref12Ints (a := hostsI p) (b := hostsI p) (Nat.le_refl _) (Nat.le_refl _) (d11.sl1 (f := intV)) (d13.sl1 (f := intV))) fun _ _ _ => ?_)
    | ((with_reducible refine at_f 26 ?_); refine ret_k (planSame (B := B) (B' := B) FR FR (hP _ FR) (hQ _ FR)) fun _ _ _ => ?_)
    | ((with_reducible refine at_f 18 ?_); refine ret_k (ref20Same (B := B) (B' := B) FR FR (hP _ FR) (hQ _ FR)) fun _ _ _ => ?_)
    | ((with_reducible refine at_f 8 ?_); refine ret_k (law20live (hT' _ FR)) fun _ _ _ => ?_)
    | simp (maxDischargeDepth := 3) only [↓X, ↓Y, ↓Q, S1, ↓reduceIte, Nat.reduceEqDiff, Nat.reduceAdd, Int.reduceLT, Int.reduceLE, Int.reduceNeg, Int.reduceBEq, Int.reduceBNe, Int.reduceEq, Nat.reduceLeDiff, Nat.reduceMul, Nat.reduceLT, natV, intV, putAt, idxOk, flatP, *, siteC]
    | simp (singlePass := true) (maxDischargeDepth := 99) only [*, S2, Nat.reduceLT, siteC])
      · have e := Option.some.inj ho
        subst e
        have a7 := hag.at 7 (by kernel_rfl)
        simp only [S5, ↓reduceIte, Nat.reduceEqDiff, initF, *] at a7
        have d16 : (gF 38) = .bool true := hdep ⟨16, .guard⟩ (by simp) rfl _ _ rfl rfl
        clear hag hdep ho
        refine relStep_on (j := 16) (want := true) (t := 38) rfl rfl (by rw [d16]; rfl) ?_
        (repeat' first
    | ((with_reducible refine at_row ?_); refine row1_k (by rfl) (by decide) fun _ _ _ _ _ _ _ => ?_)
    | with_reducible first | refine alloc_k fun _ _ _ _ _ _ => ?_ | refine row_k fun _ _ _ _ _ _ => ?_ | refine fork (fun _ => ?_) fun _ => ?_ | refine forkp (fun _ => ?_) fun _ => ?_ | refine forke (fun _ => ?_) fun _ _ => ?_ | refine tail_k fun _ _ _ => ?_ | refine ext_k fun _ _ _ => ?_ | refine need_a ?_ | refine st_agg (by kernel_rfl) rfl (by simp only [natV, intV, S3, *]) fun _ _ _ _ => ?_ | refine wpd_q_a ?_
    | ((with_reducible refine at_f 22 ?_); refine ret_k (planValid (B := B) (hT' _ FR) FR (hS _ FR) (hW _ FR) (hP _ FR)) fun _ _ _ => ?_)
    | ((with_reducible refine at_f 24 ?_); refine ret_k (ref20Valid (B := B) FR (hS _ FR) (hW _ FR) (hP _ FR)) fun _ _ _ => ?_)
    | ((with_reducible refine at_f 15 ?_); refine ret_k (ref12Ints (a := hostsI p) (b := hostsI p) (Nat.le_refl _) (Nat.le_refl _) (d11.sl1 (f := intV)) (d13.sl1 (f := intV))) fun _ _ _ => ?_)
    | ((with_reducible refine at_f 26 ?_); refine ret_k (planSame (B := B) (B' := B) FR FR (hP _ FR) (hQ _ FR)) fun _ _ _ => ?_)
    | ((with_reducible refine at_f 18 ?_); refine ret_k (ref20Same (B := B) (B' := B) FR FR (hP _ FR) (hQ _ FR)) fun _ _ _ => ?_)
    | ((with_reducible refine at_f 8 ?_); refine ret_k (law20live (hT' _ FR)) fun _ _ _ => ?_)
    | simp (maxDischargeDepth := 3) only [↓X, ↓Y, ↓Q, S1, ↓reduceIte, Nat.reduceEqDiff, Nat.reduceAdd, Int.reduceLT, Int.reduceLE, Int.reduceNeg, Int.reduceBEq, Int.reduceBNe, Int.reduceEq, Nat.reduceLeDiff, Nat.reduceMul, Nat.reduceLT, natV, intV, putAt, idxOk, flatP, *, siteC]
    | simp (singlePass := true) (maxDischargeDepth := 99) only [*, S2, Nat.reduceLT, siteC])
      · have e := Option.some.inj ho
        subst e
        have d17 : (gF 39) = .agg #[sv, av] := hdep ⟨17, .data⟩ (by simp) rfl _ _ rfl rfl
        have d18 : (gF 40) = .agg #[sv', av'] := hdep ⟨18, .data⟩ (by simp) rfl _ _ rfl rfl
        have d16 : (gF 38) = .bool true := hdep ⟨16, .guard⟩ (by simp) rfl _ _ rfl rfl
        clear hag hdep ho
        refine relStep_on (j := 16) (want := true) (t := 38) rfl rfl (by rw [d16]; rfl) ?_
        (repeat' first
    | ((with_reducible refine at_row ?_); refine row1_k (by rfl) (by decide) fun _ _ _ _ _ _ _ => ?_)
    | with_reducible first | refine alloc_k fun _ _ _ _ _ _ => ?_ | refine row_k fun _ _ _ _ _ _ => ?_ | refine fork (fun _ => ?_) fun _ => ?_ | refine forkp (fun _ => ?_) fun _ => ?_ | refine forke (fun _ => ?_) fun _ _ => ?_ | refine tail_k fun _ _ _ => ?_ | refine ext_k fun _ _ _ => ?_ | refine need_a ?_ | refine st_agg (by kernel_rfl) rfl (by simp only [natV, intV, S3, *]) fun _ _ _ _ => ?_ | refine wpd_q_a ?_
    | ((with_reducible refine at_f 22 ?_); refine ret_k (planValid (B := B) (hT' _ FR) FR (hS _ FR) (hW _ FR) (hP _ FR)) fun _ _ _ => ?_)
    | ((with_reducible refine at_f 24 ?_); refine ret_k (ref20Valid (B := B) FR (hS _ FR) (hW _ FR) (hP _ FR)) fun _ _ _ => ?_)
    | ((with_reducible refine at_f 15 ?_); refine ret_k (ref12Ints (a := hostsI p) (b := hostsI p) (Nat.le_refl _) (Nat.le_refl _) (d11.sl1 (f := intV)) (d13.sl1 (f := intV))) fun _ _ _ => ?_)
    | ((with_reducible refine at_f 26 ?_); refine ret_k (planSame (B := B) (B' := B) FR FR (hP _ FR) (hQ _ FR)) fun _ _ _ => ?_)
    | ((with_reducible refine at_f 18 ?_); refine ret_k (ref20Same (B := B) (B' := B) FR FR (hP _ FR) (hQ _ FR)) fun _ _ _ => ?_)
    | ((with_reducible refine at_f 8 ?_); refine ret_k (law20live (hT' _ FR)) fun _ _ _ => ?_)
    | simp (maxDischargeDepth := 3) only [↓X, ↓Y, ↓Q, S1, ↓reduceIte, Nat.reduceEqDiff, Nat.reduceAdd, Int.reduceLT, Int.reduceLE, Int.reduceNeg, Int.reduceBEq, Int.reduceBNe, Int.reduceEq, Nat.reduceLeDiff, Nat.reduceMul, Nat.reduceLT, natV, intV, putAt, idxOk, flatP, *, siteC]
    | simp (singlePass := true) (maxDischargeDepth := 99) only [*, S2, Nat.reduceLT, siteC])
      · have e := Option.some.inj ho
        subst e
        have a6 := hag.at 6 (by kernel_rfl)
        simp only [S5, ↓reduceIte, Nat.reduceEqDiff, initF, *] at a6
        have d16 : (gF 38) = .bool true := hdep ⟨16, .guard⟩ (by simp) rfl _ _ rfl rfl
        clear hag hdep ho
        refine relStep_on (j := 16) (want := true) (t := 38) rfl rfl (by rw [d16]; rfl) ?_
        (repeat' first
    | ((with_reducible refine at_row ?_); refine row1_k (by rfl) (by decide) fun _ _ _ _ _ _ _ => ?_)
    | with_reducible first | refine alloc_k fun _ _ _ _ _ _ => ?_ | refine row_k fun _ _ _ _ _ _ => ?_ | refine fork (fun _ => ?_) fun _ => ?_ | refine forkp (fun _ => ?_) fun _ => ?_ | refine forke (fun _ => ?_) fun _ _ => ?_ | refine tail_k fun _ _ _ => ?_ | refine ext_k fun _ _ _ => ?_ | refine need_a ?_ | refine st_agg (by kernel_rfl) rfl (by simp only [natV, intV, S3, *]) fun _ _ _ _ => ?_ | refine wpd_q_a ?_
    | ((with_reducible refine at_f 22 ?_); refine ret_k (planValid (B := B) (hT' _ FR) FR (hS _ FR) (hW _ FR) (hP _ FR)) fun _ _ _ => ?_)
    | ((with_reducible refine at_f 24 ?_); refine ret_k (ref20Valid (B := B) FR (hS _ FR) (hW _ FR) (hP _ FR)) fun _ _ _ => ?_)
    | ((with_reducible refine at_f 15 ?_); refine ret_k (ref12Ints (a := hostsI p) (b := hostsI p) (Nat.le_refl _) (Nat.le_refl _) (d11.sl1 (f := intV)) (d13.sl1 (f := intV))) fun _ _ _ => ?_)
    | ((with_reducible refine at_f 26 ?_); refine ret_k (planSame (B := B) (B' := B) FR FR (hP _ FR) (hQ _ FR)) fun _ _ _ => ?_)
    | ((with_reducible refine at_f 18 ?_); refine ret_k (ref20Same (B := B) (B' := B) FR FR (hP _ FR) (hQ _ FR)) fun _ _ _ => ?_)
    | ((with_reducible refine at_f 8 ?_); refine ret_k (law20live (hT' _ FR)) fun _ _ _ => ?_)
    | simp (maxDischargeDepth := 3) only [↓X, ↓Y, ↓Q, S1, ↓reduceIte, Nat.reduceEqDiff, Nat.reduceAdd, Int.reduceLT, Int.reduceLE, Int.reduceNeg, Int.reduceBEq, Int.reduceBNe, Int.reduceEq, Nat.reduceLeDiff, Nat.reduceMul, Nat.reduceLT, natV, intV, putAt, idxOk, flatP, *, siteC]
    | simp (singlePass := true) (maxDischargeDepth := 99) only [*, S2, Nat.reduceLT, siteC])
      · have e := Option.some.inj ho
        subst e
        have a7 := hag.at 7 (by kernel_rfl)
        simp only [S5, ↓reduceIte, Nat.reduceEqDiff, initF, *] at a7
        have d16 : (gF 38) = .bool true := hdep ⟨16, .guard⟩ (by simp) rfl _ _ rfl rfl
        clear hag hdep ho
        refine relStep_on (j := 16) (want := true) (t := 38) rfl rfl (by rw [d16]; rfl) ?_
        (repeat' first
    | ((with_reducible refine at_row ?_); refine row1_k (by rfl) (by decide) fun _ _ _ _ _ _ _ => ?_)
    | with_reducible first | refine alloc_k fun _ _ _ _ _ _ => ?_ | refine row_k fun _ _ _ _ _ _ => ?_ | refine fork (fun _ => ?_) fun _ => ?_ | refine forkp (fun _ => ?_) fun _ => ?_ | refine forke (fun _ => ?_) fun _ _ => ?_ | refine tail_k fun _ _ _ => ?_ | refine ext_k fun _ _ _ => ?_ | refine need_a ?_ | refine st_agg (by kernel_rfl) rfl (by simp only [natV, intV, S3, *]) fun _ _ _ _ => ?_ | refine wpd_q_a ?_
    | ((with_reducible refine at_f 22 ?_); refine ret_k (planValid (B := B) (hT' _ FR) FR (hS _ FR) (hW _ FR) (hP _ FR)) fun _ _ _ => ?_)
    | ((with_reducible refine at_f 24 ?_); refine ret_k (ref20Valid (B := B) FR (hS _ FR) (hW _ FR) (hP _ FR)) fun _ _ _ => ?_)
    | ((with_reducible refine at_f 15 ?_); refine ret_k (ref12Ints (a := hostsI p) (b := hostsI p) (Nat.le_refl _) (Nat.le_refl _) (d11.sl1 (f := intV)) (d13.sl1 (f := intV))) fun _ _ _ => ?_)
    | ((with_reducible refine at_f 26 ?_); refine ret_k (planSame (B := B) (B' := B) FR FR (hP _ FR) (hQ _ FR)) fun _ _ _ => ?_)
    | ((with_reducible refine at_f 18 ?_); refine ret_k (ref20Same (B := B) (B' := B) FR FR (hP _ FR) (hQ _ FR)) fun _ _ _ => ?_)
    | ((with_reducible refine at_f 8 ?_); refine ret_k (law20live (hT' _ FR)) fun _ _ _ => ?_)
    | simp (maxDischargeDepth := 3) only [↓X, ↓Y, ↓Q, S1, ↓reduceIte, Nat.reduceEqDiff, Nat.reduceAdd, Int.reduceLT, Int.reduceLE, Int.reduceNeg, Int.reduceBEq, Int.reduceBNe, Int.reduceEq, Nat.reduceLeDiff, Nat.reduceMul, Nat.reduceLT, natV, intV, putAt, idxOk, flatP, *, siteC]
    | simp (singlePass := true) (maxDischargeDepth := 99) only [*, S2, Nat.reduceLT, siteC])
      · have e := Option.some.inj ho
        subst e
        have d20 : (gF 42) = .agg #[sv, av] := hdep ⟨20, .data⟩ (by simp) rfl _ _ rfl rfl
        have d21 : (gF 43) = .agg #[sv', av'] := hdep ⟨21, .data⟩ (by simp) rfl _ _ rfl rfl
        have d16 : (gF 38) = .bool true := hdep ⟨16, .guard⟩ (by simp) rfl _ _ rfl rfl
        clear hag hdep ho
        refine relStep_on (j := 16) (want := true) (t := 38) rfl rfl (by rw [d16]; rfl) ?_
        (repeat' first
    | ((with_reducible refine at_row ?_); refine row1_k (by rfl) (by decide) fun _ _ _ _ _ _ _ => ?_)
    | with_reducible first | refine alloc_k fun _ _ _ _ _ _ => ?_ | refine row_k fun _ _ _ _ _ _ => ?_ | refine fork (fun _ => ?_) fun _ => ?_ | refine forkp (fun _ => ?_) fun _ => ?_ | refine forke (fun _ => ?_) fun _ _ => ?_ | refine tail_k fun _ _ _ => ?_ | refine ext_k fun _ _ _ => ?_ | refine need_a ?_ | refine st_agg (by kernel_rfl) rfl (by simp only [natV, intV, S3, *]) fun _ _ _ _ => ?_ | refine wpd_q_a ?_
    | ((with_reducible refine at_f 22 ?_); refine ret_k (planValid (B := B) (hT' _ FR) FR (hS _ FR) (hW _ FR) (hP _ FR)) fun _ _ _ => ?_)
    | ((with_reducible refine at_f 24 ?_); refine ret_k (ref20Valid (B := B) FR (hS _ FR) (hW _ FR) (hP _ FR)) fun _ _ _ => ?_)
    | ((with_reducible refine at_f 15 ?_); refine ret_k (ref12Ints (a := hostsI p) (b := hostsI p) (Nat.le_refl _) (Nat.le_refl _) (d11.sl1 (f := intV)) (d13.sl1 (f := intV))) fun _ _ _ => ?_)
    | ((with_reducible refine at_f 26 ?_); refine ret_k (planSame (B := B) (B' := B) FR FR (hP _ FR) (hQ _ FR)) fun _ _ _ => ?_)
    | ((with_reducible refine at_f 18 ?_); refine ret_k (ref20Same (B := B) (B' := B) FR FR (hP _ FR) (hQ _ FR)) fun _ _ _ => ?_)
    | ((with_reducible refine at_f 8 ?_); refine ret_k (law20live (hT' _ FR)) fun _ _ _ => ?_)
    | simp (maxDischargeDepth := 3) only [↓X, ↓Y, ↓Q, S1, ↓reduceIte, Nat.reduceEqDiff, Nat.reduceAdd, Int.reduceLT, Int.reduceLE, Int.reduceNeg, Int.reduceBEq, Int.reduceBNe, Int.reduceEq, Nat.reduceLeDiff, Nat.reduceMul, Nat.reduceLT, natV, intV, putAt, idxOk, flatP, *, siteC]
    | simp (singlePass := true) (maxDischargeDepth := 99) only [*, S2, Nat.reduceLT, siteC])
      · have e := Option.some.inj ho
        subst e
        have d19 : (gF 41) = .bool (decide (p = q)) := hdep ⟨19, .data⟩ (by simp) rfl _ _ rfl rfl
        have d22 : (gF 44) = .bool (decide (p = q)) := hdep ⟨22, .data⟩ (by simp) rfl _ _ rfl rfl
        have d16 : (gF 38) = .bool true := hdep ⟨16, .guard⟩ (by simp) rfl _ _ rfl rfl
        clear hag hdep ho
        refine relStep_on (j := 16) (want := true) (t := 38) rfl rfl (by rw [d16]; rfl) ?_
        (repeat' first
    | ((with_reducible refine at_row ?_); refine row1_k (by rfl) (by decide) fun _ _ _ _ _ _ _ => ?_)
    | with_reducible first | refine alloc_k fun _ _ _ _ _ _ => ?_ | refine row_k fun _ _ _ _ _ _ => ?_ | refine fork (fun _ => ?_) fun _ => ?_ | refine forkp (fun _ => ?_) fun _ => ?_ | refine forke (fun _ => ?_) fun _ _ => ?_ | refine tail_k fun _ _ _ => ?_ | refine ext_k fun _ _ _ => ?_ | refine need_a ?_ | refine st_agg (by kernel_rfl) rfl (by simp only [natV, intV, S3, *]) fun _ _ _ _ => ?_ | refine wpd_q_a ?_
    | ((with_reducible refine at_f 22 ?_); refine ret_k (planValid (B := B) (hT' _ FR) FR (hS _ FR) (hW _ FR) (hP _ FR)) fun _ _ _ => ?_)
    | ((with_reducible refine at_f 24 ?_); refine ret_k (ref20Valid (B := B) FR (hS _ FR) (hW _ FR) (hP _ FR)) fun _ _ _ => ?_)
    | ((with_reducible refine at_f 15 ?_); refine ret_k (ref12Ints (a := hostsI p) (b := hostsI p) (Nat.le_refl _) (Nat.le_refl _) (d11.sl1 (f := intV)) (d13.sl1 (f := intV))) fun _ _ _ => ?_)
    | ((with_reducible refine at_f 26 ?_); refine ret_k (planSame (B := B) (B' := B) FR FR (hP _ FR) (hQ _ FR)) fun _ _ _ => ?_)
    | ((with_reducible refine at_f 18 ?_); refine ret_k (ref20Same (B := B) (B' := B) FR FR (hP _ FR) (hQ _ FR)) fun _ _ _ => ?_)
    | ((with_reducible refine at_f 8 ?_); refine ret_k (law20live (hT' _ FR)) fun _ _ _ => ?_)
    | simp (maxDischargeDepth := 3) only [↓X, ↓Y, ↓Q, S1, ↓reduceIte, Nat.reduceEqDiff, Nat.reduceAdd, Int.reduceLT, Int.reduceLE, Int.reduceNeg, Int.reduceBEq, Int.reduceBNe, Int.reduceEq, Nat.reduceLeDiff, Nat.reduceMul, Nat.reduceLT, natV, intV, putAt, idxOk, flatP, *, siteC]
    | simp (singlePass := true) (maxDischargeDepth := 99) only [*, S2, Nat.reduceLT, siteC])
      · have e := Option.some.inj ho
        subst e
        have d16 : (gF 38) = .bool true := hdep ⟨16, .data⟩ (by simp) rfl _ _ rfl rfl
        have d23 : (gF 45) = .bool true := hdep ⟨23, .data⟩ (by simp) rfl _ _ rfl rfl
        clear hag hdep ho
        refine relStep_off rfl ?_
        (repeat' first
    | ((with_reducible refine at_row ?_); refine row1_k (by rfl) (by decide) fun _ _ _ _ _ _ _ => ?_)
    | with_reducible first | refine alloc_k fun _ _ _ _ _ _ => ?_ | refine row_k fun _ _ _ _ _ _ => ?_ | refine fork (fun _ => ?_) fun _ => ?_ | refine forkp (fun _ => ?_) fun _ => ?_ | refine forke (fun _ => ?_) fun _ _ => ?_ | refine tail_k fun _ _ _ => ?_ | refine ext_k fun _ _ _ => ?_ | refine need_a ?_ | refine st_agg (by kernel_rfl) rfl (by simp only [natV, intV, S3, *]) fun _ _ _ _ => ?_ | refine wpd_q_a ?_
    | ((with_reducible refine at_f 22 ?_); refine ret_k (planValid (B := B) (hT' _ FR) FR (hS _ FR) (hW _ FR) (hP _ FR)) fun _ _ _ => ?_)
    | ((with_reducible refine at_f 24 ?_); refine ret_k (ref20Valid (B := B) FR (hS _ FR) (hW _ FR) (hP _ FR)) fun _ _ _ => ?_)
    | ((with_reducible refine at_f 15 ?_); refine ret_k (ref12Ints (a := hostsI p) (b := hostsI p) (Nat.le_refl _) (Nat.le_refl _) (d11.sl1 (f := intV)) (d13.sl1 (f := intV))) fun _ _ _ => ?_)
    | ((with_reducible refine at_f 26 ?_); refine ret_k (planSame (B := B) (B' := B) FR FR (hP _ FR) (hQ _ FR)) fun _ _ _ => ?_)
    | ((with_reducible refine at_f 18 ?_); refine ret_k (ref20Same (B := B) (B' := B) FR FR (hP _ FR) (hQ _ FR)) fun _ _ _ => ?_)
    | ((with_reducible refine at_f 8 ?_); refine ret_k (law20live (hT' _ FR)) fun _ _ _ => ?_)
    | simp (maxDischargeDepth := 3) only [↓X, ↓Y, ↓Q, S1, ↓reduceIte, Nat.reduceEqDiff, Nat.reduceAdd, Int.reduceLT, Int.reduceLE, Int.reduceNeg, Int.reduceBEq, Int.reduceBNe, Int.reduceEq, Nat.reduceLeDiff, Nat.reduceMul, Nat.reduceLT, natV, intV, putAt, idxOk, flatP, *, siteC]
    | simp (singlePass := true) (maxDischargeDepth := 99) only [*, S2, Nat.reduceLT, siteC])
      · have e := Option.some.inj ho
        subst e
        have d24 : (gF 46) = .bool true := hdep ⟨24, .data⟩ (by simp) rfl _ _ rfl rfl
        clear hag hdep ho
        refine relStep_off rfl ?_
        (repeat' first
    | ((with_reducible refine at_row ?_); refine row1_k (by rfl) (by decide) fun _ _ _ _ _ _ _ => ?_)
    | with_reducible first | refine alloc_k fun _ _ _ _ _ _ => ?_ | refine row_k fun _ _ _ _ _ _ => ?_ | refine fork (fun _ => ?_) fun _ => ?_ | refine forkp (fun _ => ?_) fun _ => ?_ | refine forke (fun _ => ?_) fun _ _ => ?_ | refine tail_k fun _ _ _ => ?_ | refine ext_k fun _ _ _ => ?_ | refine need_a ?_ | refine st_agg (by kernel_rfl) rfl (by simp only [natV, intV, S3, *]) fun _ _ _ _ => ?_ | refine wpd_q_a ?_
    | ((with_reducible refine at_f 22 ?_); refine ret_k (planValid (B := B) (hT' _ FR) FR (hS _ FR) (hW _ FR) (hP _ FR)) fun _ _ _ => ?_)
    | ((with_reducible refine at_f 24 ?_); refine ret_k (ref20Valid (B := B) FR (hS _ FR) (hW _ FR) (hP _ FR)) fun _ _ _ => ?_)
    | ((with_reducible refine at_f 15 ?_); refine ret_k (ref12Ints (a := hostsI p) (b := hostsI p) (Nat.le_refl _) (Nat.le_refl _) (d11.sl1 (f := intV)) (d13.sl1 (f := intV))) fun _ _ _ => ?_)
    | ((with_reducible refine at_f 26 ?_); refine ret_k (planSame (B := B) (B' := B) FR FR (hP _ FR) (hQ _ FR)) fun _ _ _ => ?_)
    | ((with_reducible refine at_f 18 ?_); refine ret_k (ref20Same (B := B) (B' := B) FR FR (hP _ FR) (hQ _ FR)) fun _ _ _ => ?_)
    | ((with_reducible refine at_f 8 ?_); refine ret_k (law20live (hT' _ FR)) fun _ _ _ => ?_)
    | simp (maxDischargeDepth := 3) only [↓X, ↓Y, ↓Q, S1, ↓reduceIte, Nat.reduceEqDiff, Nat.reduceAdd, Int.reduceLT, Int.reduceLE, Int.reduceNeg, Int.reduceBEq, Int.reduceBNe, Int.reduceEq, Nat.reduceLeDiff, Nat.reduceMul, Nat.reduceLT, natV, intV, putAt, idxOk, flatP, *, siteC]
    | simp (singlePass := true) (maxDischargeDepth := 99) only [*, S2, Nat.reduceLT, siteC])
      · have e := Option.some.inj ho
        subst e
        have a6 := hag.at 6 (by kernel_rfl)
        simp only [S5, ↓reduceIte, Nat.reduceEqDiff, initF, *] at a6
        have d25 : (gF 47) = .bool true := hdep ⟨25, .guard⟩ (by simp) rfl _ _ rfl rfl
        clear hag hdep ho
        refine relStep_on (j := 25) (want := true) (t := 47) rfl rfl (by rw [d25]; rfl) ?_
        (repeat' first
    | ((with_reducible refine at_row ?_); refine row1_k (by rfl) (by decide) fun _ _ _ _ _ _ _ => ?_)
    | with_reducible first | refine alloc_k fun _ _ _ _ _ _ => ?_ | refine row_k fun _ _ _ _ _ _ => ?_ | refine fork (fun _ => ?_) fun _ => ?_ | refine forkp (fun _ => ?_) fun _ => ?_ | refine forke (fun _ => ?_) fun _ _ => ?_ | refine tail_k fun _ _ _ => ?_ | refine ext_k fun _ _ _ => ?_ | refine need_a ?_ | refine st_agg (by kernel_rfl) rfl (by simp only [natV, intV, S3, *]) fun _ _ _ _ => ?_ | refine wpd_q_a ?_
    | ((with_reducible refine at_f 22 ?_); refine ret_k (planValid (B := B) (hT' _ FR) FR (hS _ FR) (hW _ FR) (hP _ FR)) fun _ _ _ => ?_)
    | ((with_reducible refine at_f 24 ?_); refine ret_k (ref20Valid (B := B) FR (hS _ FR) (hW _ FR) (hP _ FR)) fun _ _ _ => ?_)
    | ((with_reducible refine at_f 15 ?_); refine ret_k (ref12Ints (a := hostsI p) (b := hostsI p) (Nat.le_refl _) (Nat.le_refl _) (d11.sl1 (f := intV)) (d13.sl1 (f := intV))) fun _ _ _ => ?_)
    | ((with_reducible refine at_f 26 ?_); refine ret_k (planSame (B := B) (B' := B) FR FR (hP _ FR) (hQ _ FR)) fun _ _ _ => ?_)
    | ((with_reducible refine at_f 18 ?_); refine ret_k (ref20Same (B := B) (B' := B) FR FR (hP _ FR) (hQ _ FR)) fun _ _ _ => ?_)
    | ((with_reducible refine at_f 8 ?_); refine ret_k (law20live (hT' _ FR)) fun _ _ _ => ?_)
    | simp (maxDischargeDepth := 3) only [↓X, ↓Y, ↓Q, S1, ↓reduceIte, Nat.reduceEqDiff, Nat.reduceAdd, Int.reduceLT, Int.reduceLE, Int.reduceNeg, Int.reduceBEq, Int.reduceBNe, Int.reduceEq, Nat.reduceLeDiff, Nat.reduceMul, Nat.reduceLT, natV, intV, putAt, idxOk, flatP, *, siteC]
    | simp (singlePass := true) (maxDischargeDepth := 99) only [*, S2, Nat.reduceLT, siteC])
      · have e := Option.some.inj ho
        subst e
        have a6 := hag.at 6 (by kernel_rfl)
        simp only [S5, ↓reduceIte, Nat.reduceEqDiff, initF, *] at a6
        have d25 : (gF 47) = .bool true := hdep ⟨25, .guard⟩ (by simp) rfl _ _ rfl rfl
        clear hag hdep ho
        refine relStep_on (j := 25) (want := true) (t := 47) rfl rfl (by rw [d25]; rfl) ?_
        (repeat' first
    | ((with_reducible refine at_row ?_); refine row1_k (by rfl) (by decide) fun _ _ _ _ _ _ _ => ?_)
    | with_reducible first | refine alloc_k fun _ _ _ _ _ _ => ?_ | refine row_k fun _ _ _ _ _ _ => ?_ | refine fork (fun _ => ?_) fun _ => ?_ | refine forkp (fun _ => ?_) fun _ => ?_ | refine forke (fun _ => ?_) fun _ _ => ?_ | refine tail_k fun _ _ _ => ?_ | refine ext_k fun _ _ _ => ?_ | refine need_a ?_ | refine st_agg (by kernel_rfl) rfl (by simp only [natV, intV, S3, *]) fun _ _ _ _ => ?_ | refine wpd_q_a ?_
    | ((with_reducible refine at_f 22 ?_); refine ret_k (planValid (B := B) (hT' _ FR) FR (hS _ FR) (hW _ FR) (hP _ FR)) fun _ _ _ => ?_)
    | ((with_reducible refine at_f 24 ?_); refine ret_k (ref20Valid (B := B) FR (hS _ FR) (hW _ FR) (hP _ FR)) fun _ _ _ => ?_)
    | ((with_reducible refine at_f 15 ?_); refine ret_k (ref12Ints (a := hostsI p) (b := hostsI p) (Nat.le_refl _) (Nat.le_refl _) (d11.sl1 (f := intV)) (d13.sl1 (f := intV))) fun _ _ _ => ?_)
    | ((with_reducible refine at_f 26 ?_); refine ret_k (planSame (B := B) (B' := B) FR FR (hP _ FR) (hQ _ FR)) fun _ _ _ => ?_)
    | ((with_reducible refine at_f 18 ?_); refine ret_k (ref20Same (B := B) (B' := B) FR FR (hP _ FR) (hQ _ FR)) fun _ _ _ => ?_)
    | ((with_reducible refine at_f 8 ?_); refine ret_k (law20live (hT' _ FR)) fun _ _ _ => ?_)
    | simp (maxDischargeDepth := 3) only [↓X, ↓Y, ↓Q, S1, ↓reduceIte, Nat.reduceEqDiff, Nat.reduceAdd, Int.reduceLT, Int.reduceLE, Int.reduceNeg, Int.reduceBEq, Int.reduceBNe, Int.reduceEq, Nat.reduceLeDiff, Nat.reduceMul, Nat.reduceLT, natV, intV, putAt, idxOk, flatP, *, siteC]
    | simp (singlePass := true) (maxDischargeDepth := 99) only [*, S2, Nat.reduceLT, siteC])
      · have e := Option.some.inj ho
        subst e
        have d26 : (gF 48) = .agg #[sv, av] := hdep ⟨26, .data⟩ (by simp) rfl _ _ rfl rfl
        have d27 : (gF 49) = .agg #[sv, av] := hdep ⟨27, .data⟩ (by simp) rfl _ _ rfl rfl
        have d25 : (gF 47) = .bool true := hdep ⟨25, .guard⟩ (by simp) rfl _ _ rfl rfl
        clear hag hdep ho
        refine relStep_on (j := 25) (want := true) (t := 47) rfl rfl (by rw [d25]; rfl) ?_
        (repeat' first
    | ((with_reducible refine at_row ?_); refine row1_k (by rfl) (by decide) fun _ _ _ _ _ _ _ => ?_)
    | with_reducible first | refine alloc_k fun _ _ _ _ _ _ => ?_ | refine row_k fun _ _ _ _ _ _ => ?_ | refine fork (fun _ => ?_) fun _ => ?_ | refine forkp (fun _ => ?_) fun _ => ?_ | refine forke (fun _ => ?_) fun _ _ => ?_ | refine tail_k fun _ _ _ => ?_ | refine ext_k fun _ _ _ => ?_ | refine need_a ?_ | refine st_agg (by kernel_rfl) rfl (by simp only [natV, intV, S3, *]) fun _ _ _ _ => ?_ | refine wpd_q_a ?_
    | ((with_reducible refine at_f 22 ?_); refine ret_k (planValid (B := B) (hT' _ FR) FR (hS _ FR) (hW _ FR) (hP _ FR)) fun _ _ _ => ?_)
    | ((with_reducible refine at_f 24 ?_); refine ret_k (ref20Valid (B := B) FR (hS _ FR) (hW _ FR) (hP _ FR)) fun _ _ _ => ?_)
    | ((with_reducible refine at_f 15 ?_); refine ret_k (ref12Ints (a := hostsI p) (b := hostsI p) (Nat.le_refl _) (Nat.le_refl _) (d11.sl1 (f := intV)) (d13.sl1 (f := intV))) fun _ _ _ => ?_)
    | ((with_reducible refine at_f 26 ?_); refine ret_k (planSame (B := B) (B' := B) FR FR (hP _ FR) (hQ _ FR)) fun _ _ _ => ?_)
    | ((with_reducible refine at_f 18 ?_); refine ret_k (ref20Same (B := B) (B' := B) FR FR (hP _ FR) (hQ _ FR)) fun _ _ _ => ?_)
    | ((with_reducible refine at_f 8 ?_); refine ret_k (law20live (hT' _ FR)) fun _ _ _ => ?_)
    | simp (maxDischargeDepth := 3) only [↓X, ↓Y, ↓Q, S1, ↓reduceIte, Nat.reduceEqDiff, Nat.reduceAdd, Int.reduceLT, Int.reduceLE, Int.reduceNeg, Int.reduceBEq, Int.reduceBNe, Int.reduceEq, Nat.reduceLeDiff, Nat.reduceMul, Nat.reduceLT, natV, intV, putAt, idxOk, flatP, *, siteC]
    | simp (singlePass := true) (maxDischargeDepth := 99) only [*, S2, Nat.reduceLT, siteC])
        refine ret_k (planSame (B := B) (B' := B) FR FR (hP _ FR) (hP _ FR)) fun w10 n10 s10 => ?_
        rw [decide_eq_true rfl]
        exact ⟨FR, rfl⟩
      · have e := Option.some.inj ho
        subst e
        have d25 : (gF 47) = .bool true := hdep ⟨25, .data⟩ (by simp) rfl _ _ rfl rfl
        have d28 : (gF 50) = .bool true := hdep ⟨28, .data⟩ (by simp) rfl _ _ rfl rfl
        clear hag hdep ho
        refine relStep_off rfl ?_
        (repeat' first
    | ((with_reducible refine at_row ?_); refine row1_k (by rfl) (by decide) fun _ _ _ _ _ _ _ => ?_)
    | with_reducible first | refine alloc_k fun _ _ _ _ _ _ => ?_ | refine row_k fun _ _ _ _ _ _ => ?_ | refine fork (fun _ => ?_) fun _ => ?_ | refine forkp (fun _ => ?_) fun _ => ?_ | refine forke (fun _ => ?_) fun _ _ => ?_ | refine tail_k fun _ _ _ => ?_ | refine ext_k fun _ _ _ => ?_ | refine need_a ?_ | refine st_agg (by kernel_rfl) rfl (by simp only [natV, intV, S3, *]) fun _ _ _ _ => ?_ | refine wpd_q_a ?_
    | ((with_reducible refine at_f 22 ?_); refine ret_k (planValid (B := B) (hT' _ FR) FR (hS _ FR) (hW _ FR) (hP _ FR)) fun _ _ _ => ?_)
    | ((with_reducible refine at_f 24 ?_); refine ret_k (ref20Valid (B := B) FR (hS _ FR) (hW _ FR) (hP _ FR)) fun _ _ _ => ?_)
    | ((with_reducible refine at_f 15 ?_); refine ret_k (ref12Ints (a := hostsI p) (b := hostsI p) (Nat.le_refl _) (Nat.le_refl _) (d11.sl1 (f := intV)) (d13.sl1 (f := intV))) fun _ _ _ => ?_)
    | ((with_reducible refine at_f 26 ?_); refine ret_k (planSame (B := B) (B' := B) FR FR (hP _ FR) (hQ _ FR)) fun _ _ _ => ?_)
    | ((with_reducible refine at_f 18 ?_); refine ret_k (ref20Same (B := B) (B' := B) FR FR (hP _ FR) (hQ _ FR)) fun _ _ _ => ?_)
    | ((with_reducible refine at_f 8 ?_); refine ret_k (law20live (hT' _ FR)) fun _ _ _ => ?_)
    | simp (maxDischargeDepth := 3) only [↓X, ↓Y, ↓Q, S1, ↓reduceIte, Nat.reduceEqDiff, Nat.reduceAdd, Int.reduceLT, Int.reduceLE, Int.reduceNeg, Int.reduceBEq, Int.reduceBNe, Int.reduceEq, Nat.reduceLeDiff, Nat.reduceMul, Nat.reduceLT, natV, intV, putAt, idxOk, flatP, *, siteC]
    | simp (singlePass := true) (maxDischargeDepth := 99) only [*, S2, Nat.reduceLT, siteC])
      · have e := Option.some.inj ho
        subst e
        have d29 : (gF 51) = .bool true := hdep ⟨29, .data⟩ (by simp) rfl _ _ rfl rfl
        clear hag hdep ho
        refine relStep_off rfl ?_
        (repeat' first
    | ((with_reducible refine at_row ?_); refine row1_k (by rfl) (by decide) fun _ _ _ _ _ _ _ => ?_)
    | with_reducible first | refine alloc_k fun _ _ _ _ _ _ => ?_ | refine row_k fun _ _ _ _ _ _ => ?_ | refine fork (fun _ => ?_) fun _ => ?_ | refine forkp (fun _ => ?_) fun _ => ?_ | refine forke (fun _ => ?_) fun _ _ => ?_ | refine tail_k fun _ _ _ => ?_ | refine ext_k fun _ _ _ => ?_ | refine need_a ?_ | refine st_agg (by kernel_rfl) rfl (by simp only [natV, intV, S3, *]) fun _ _ _ _ => ?_ | refine wpd_q_a ?_
    | ((with_reducible refine at_f 22 ?_); refine ret_k (planValid (B := B) (hT' _ FR) FR (hS _ FR) (hW _ FR) (hP _ FR)) fun _ _ _ => ?_)
    | ((with_reducible refine at_f 24 ?_); refine ret_k (ref20Valid (B := B) FR (hS _ FR) (hW _ FR) (hP _ FR)) fun _ _ _ => ?_)
    | ((with_reducible refine at_f 15 ?_); refine ret_k (ref12Ints (a := hostsI p) (b := hostsI p) (Nat.le_refl _) (Nat.le_refl _) (d11.sl1 (f := intV)) (d13.sl1 (f := intV))) fun _ _ _ => ?_)
    | ((with_reducible refine at_f 26 ?_); refine ret_k (planSame (B := B) (B' := B) FR FR (hP _ FR) (hQ _ FR)) fun _ _ _ => ?_)
    | ((with_reducible refine at_f 18 ?_); refine ret_k (ref20Same (B := B) (B' := B) FR FR (hP _ FR) (hQ _ FR)) fun _ _ _ => ?_)
    | ((with_reducible refine at_f 8 ?_); refine ret_k (law20live (hT' _ FR)) fun _ _ _ => ?_)
    | simp (maxDischargeDepth := 3) only [↓X, ↓Y, ↓Q, S1, ↓reduceIte, Nat.reduceEqDiff, Nat.reduceAdd, Int.reduceLT, Int.reduceLE, Int.reduceNeg, Int.reduceBEq, Int.reduceBNe, Int.reduceEq, Nat.reduceLeDiff, Nat.reduceMul, Nat.reduceLT, natV, intV, putAt, idxOk, flatP, *, siteC]
    | simp (singlePass := true) (maxDischargeDepth := 99) only [*, S2, Nat.reduceLT, siteC])
      · have e := Option.some.inj ho
        subst e
        have d30 : (gF 52) = .bool true := hdep ⟨30, .guard⟩ (by simp) rfl _ _ rfl rfl
        clear hag hdep ho
        refine relStep_on (j := 30) (want := true) (t := 52) rfl rfl (by rw [d30]; rfl) ?_
        (repeat' first
    | ((with_reducible refine at_row ?_); refine row1_k (by rfl) (by decide) fun _ _ _ _ _ _ _ => ?_)
    | with_reducible first | refine alloc_k fun _ _ _ _ _ _ => ?_ | refine row_k fun _ _ _ _ _ _ => ?_ | refine fork (fun _ => ?_) fun _ => ?_ | refine forkp (fun _ => ?_) fun _ => ?_ | refine forke (fun _ => ?_) fun _ _ => ?_ | refine tail_k fun _ _ _ => ?_ | refine ext_k fun _ _ _ => ?_ | refine need_a ?_ | refine st_agg (by kernel_rfl) rfl (by simp only [natV, intV, S3, *]) fun _ _ _ _ => ?_ | refine wpd_q_a ?_
    | ((with_reducible refine at_f 22 ?_); refine ret_k (planValid (B := B) (hT' _ FR) FR (hS _ FR) (hW _ FR) (hP _ FR)) fun _ _ _ => ?_)
    | ((with_reducible refine at_f 24 ?_); refine ret_k (ref20Valid (B := B) FR (hS _ FR) (hW _ FR) (hP _ FR)) fun _ _ _ => ?_)
    | ((with_reducible refine at_f 15 ?_); refine ret_k (ref12Ints (a := hostsI p) (b := hostsI p) (Nat.le_refl _) (Nat.le_refl _) (d11.sl1 (f := intV)) (d13.sl1 (f := intV))) fun _ _ _ => ?_)
    | ((with_reducible refine at_f 26 ?_); refine ret_k (planSame (B := B) (B' := B) FR FR (hP _ FR) (hQ _ FR)) fun _ _ _ => ?_)
    | ((with_reducible refine at_f 18 ?_); refine ret_k (ref20Same (B := B) (B' := B) FR FR (hP _ FR) (hQ _ FR)) fun _ _ _ => ?_)
    | ((with_reducible refine at_f 8 ?_); refine ret_k (law20live (hT' _ FR)) fun _ _ _ => ?_)
    | simp (maxDischargeDepth := 3) only [↓X, ↓Y, ↓Q, S1, ↓reduceIte, Nat.reduceEqDiff, Nat.reduceAdd, Int.reduceLT, Int.reduceLE, Int.reduceNeg, Int.reduceBEq, Int.reduceBNe, Int.reduceEq, Nat.reduceLeDiff, Nat.reduceMul, Nat.reduceLT, natV, intV, putAt, idxOk, flatP, *, siteC]
    | simp (singlePass := true) (maxDischargeDepth := 99) only [*, S2, Nat.reduceLT, siteC])
      · have e := Option.some.inj ho
        subst e
        have d30 : (gF 52) = .bool true := hdep ⟨30, .data⟩ (by simp) rfl _ _ rfl rfl
        have d31 : (gF 53) = .bool true := hdep ⟨31, .data⟩ (by simp) rfl _ _ rfl rfl
        clear hag hdep ho
        refine relStep_off rfl ?_
        (repeat' first
    | ((with_reducible refine at_row ?_); refine row1_k (by rfl) (by decide) fun _ _ _ _ _ _ _ => ?_)
    | with_reducible first | refine alloc_k fun _ _ _ _ _ _ => ?_ | refine row_k fun _ _ _ _ _ _ => ?_ | refine fork (fun _ => ?_) fun _ => ?_ | refine forkp (fun _ => ?_) fun _ => ?_ | refine forke (fun _ => ?_) fun _ _ => ?_ | refine tail_k fun _ _ _ => ?_ | refine ext_k fun _ _ _ => ?_ | refine need_a ?_ | refine st_agg (by kernel_rfl) rfl (by simp only [natV, intV, S3, *]) fun _ _ _ _ => ?_ | refine wpd_q_a ?_
    | ((with_reducible refine at_f 22 ?_); refine ret_k (planValid (B := B) (hT' _ FR) FR (hS _ FR) (hW _ FR) (hP _ FR)) fun _ _ _ => ?_)
    | ((with_reducible refine at_f 24 ?_); refine ret_k (ref20Valid (B := B) FR (hS _ FR) (hW _ FR) (hP _ FR)) fun _ _ _ => ?_)
    | ((with_reducible refine at_f 15 ?_); refine ret_k (ref12Ints (a := hostsI p) (b := hostsI p) (Nat.le_refl _) (Nat.le_refl _) (d11.sl1 (f := intV)) (d13.sl1 (f := intV))) fun _ _ _ => ?_)
    | ((with_reducible refine at_f 26 ?_); refine ret_k (planSame (B := B) (B' := B) FR FR (hP _ FR) (hQ _ FR)) fun _ _ _ => ?_)
    | ((with_reducible refine at_f 18 ?_); refine ret_k (ref20Same (B := B) (B' := B) FR FR (hP _ FR) (hQ _ FR)) fun _ _ _ => ?_)
    | ((with_reducible refine at_f 8 ?_); refine ret_k (law20live (hT' _ FR)) fun _ _ _ => ?_)
    | simp (maxDischargeDepth := 3) only [↓X, ↓Y, ↓Q, S1, ↓reduceIte, Nat.reduceEqDiff, Nat.reduceAdd, Int.reduceLT, Int.reduceLE, Int.reduceNeg, Int.reduceBEq, Int.reduceBNe, Int.reduceEq, Nat.reduceLeDiff, Nat.reduceMul, Nat.reduceLT, natV, intV, putAt, idxOk, flatP, *, siteC]
    | simp (singlePass := true) (maxDischargeDepth := 99) only [*, S2, Nat.reduceLT, siteC])
      · omega
    · intro g9 w9 hx9 hR hag
      have s9 := hx9.st
      have n9 : Now w9 := trivial
      have r9 := Ext.refl w9
      have z9 := hx9.size
      have d32 : (g9 54) = .bool true := hR 32 _ _ (by decide) rfl rfl
      clear hag hR
      simp only [List.drop_succ_cons, List.drop_zero]
      (repeat' first
    | ((with_reducible refine at_row ?_); refine row1_k (by rfl) (by decide) fun _ _ _ _ _ _ _ => ?_)
    | with_reducible first | refine alloc_k fun _ _ _ _ _ _ => ?_ | refine row_k fun _ _ _ _ _ _ => ?_ | refine fork (fun _ => ?_) fun _ => ?_ | refine forkp (fun _ => ?_) fun _ => ?_ | refine forke (fun _ => ?_) fun _ _ => ?_ | refine tail_k fun _ _ _ => ?_ | refine ext_k fun _ _ _ => ?_ | refine need_a ?_ | refine st_agg (by kernel_rfl) rfl (by simp only [natV, intV, S3, *]) fun _ _ _ _ => ?_ | refine wpd_q_a ?_
    | simp (maxDischargeDepth := 3) only [↓X, ↓Y, ↓Q, S1, ↓reduceIte, Nat.reduceEqDiff, Nat.reduceAdd, Int.reduceLT, Int.reduceLE, Int.reduceNeg, Int.reduceBEq, Int.reduceBNe, Int.reduceEq, Nat.reduceLeDiff, Nat.reduceMul, Nat.reduceLT, natV, intV, putAt, idxOk, flatP, *]
    | simp (singlePass := true) (maxDischargeDepth := 99) only [*, S2, Nat.reduceLT])
end
end Go.Proofs.YtgickfllblmhpaaGreatDoor
