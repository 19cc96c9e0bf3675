/- The statements on layer 13 that only look. -/
import Derived.Test.YtbfmabkdggllhaaLive13
namespace Go.Proofs.Ytbfmabkdggllhaa
set_option linter.unusedSimpArgs false
set_option linter.unusedVariables false
open Go Go.RowKit
set_option maxRecDepth 100000
set_option linter.unusedSectionVars false
set_option maxHeartbeats 2000000
section
variable {w : World} {B : Nat} {u : SiteVs} {s : SiteD} {wv hv rv : Value} {l : List SrvV} {x : WorldD}
theorem lawWorldValid (hB : B ≤ w.heap.size) (hs : SiteR w B u s) (hl : WishR w B wv l) (hx0 : WorldR w B hv rv x) : Ret Try.prog 3 #[.agg (siteC u s).toArray, .agg #[wv], .agg #[hv, rv]] w (.bool true) := by
  have hn : Now w := trivial
  have hx : Ext w w := Ext.refl w
  have hs' := hs.sk hB
  have hl' := hl.sk hB
  have hx' := hx0.sk hB
  have hS := hs'.2.2.2.2.2.2
  have hW := hl'.2.2
  have hX := hx'.2.2.2.2
  have hf := fun w' (h1 : Bl B w w') (h3 : B ≤ w'.heap.size) => few13 h3 (hS w' h1) (hW w' h1) (hX w' h1)
  generalize fewB s (l.map (·.x)) x = fb at hf
  (refine callsV_of Try.func3 rfl (by kernel_rfl) (by kernel_rfl) ?_; rw [Try.results3])
  cases fb
  · (repeat' first
    | with_reducible refine alloc_k fun _ _ _ _ _ _ => ?_
    | ((with_reducible refine at_row ?_); refine row1_k (by rfl) (by decide) fun _ _ _ _ _ _ _ => ?_)
    | with_reducible refine row_k fun _ _ _ _ _ _ => ?_
    | with_reducible refine fork (fun _ => ?_) (fun _ => ?_)
    | with_reducible refine forkp (fun _ => ?_) (fun _ => ?_)
    | with_reducible refine forke (fun _ => ?_) (fun _ _ => ?_)
    | with_reducible refine tail_k fun _ _ _ => ?_
    | with_reducible refine ext_k fun _ _ _ => ?_
    | with_reducible refine need (by first | kernel_rfl | omega | assumption) ?_
    | with_reducible refine st_agg (by kernel_rfl) rfl (by simp only [natV, intV, S3, *]) fun _ _ _ _ => ?_
    | with_reducible refine wpd_quiet_lit (by kernel_rfl) (by kernel_rfl) (by kernel_rfl) ?_
    | ((with_reducible refine at_f 10 ?_); refine ret_k (hf _ FR FR) fun _ _ _ => ?_)
    | ((with_reducible refine at_f 11 ?_); refine ret_k (live13) fun _ _ _ => ?_)
    | simp (maxDischargeDepth := 3) only [↓X, ↓Y, ↓Q, S1, ↓reduceIte, Nat.reduceEqDiff, Nat.reduceAdd, Int.reduceLT, Int.reduceLE, Int.reduceNeg, Int.reduceBEq, Int.reduceBNe, Int.reduceEq, Nat.reduceLeDiff, Nat.reduceMul, Nat.reduceLT, natV, intV, putAt, idxOk, flatP, *, siteC]
    | simp (singlePass := true) (maxDischargeDepth := 99) only [*, S2, Nat.reduceLT, siteC])
  · (repeat' first
    | with_reducible refine alloc_k fun _ _ _ _ _ _ => ?_
    | ((with_reducible refine at_row ?_); refine row1_k (by rfl) (by decide) fun _ _ _ _ _ _ _ => ?_)
    | with_reducible refine row_k fun _ _ _ _ _ _ => ?_
    | with_reducible refine fork (fun _ => ?_) (fun _ => ?_)
    | with_reducible refine forkp (fun _ => ?_) (fun _ => ?_)
    | with_reducible refine forke (fun _ => ?_) (fun _ _ => ?_)
    | with_reducible refine tail_k fun _ _ _ => ?_
    | with_reducible refine ext_k fun _ _ _ => ?_
    | with_reducible refine need (by first | kernel_rfl | omega | assumption) ?_
    | with_reducible refine st_agg (by kernel_rfl) rfl (by simp only [natV, intV, S3, *]) fun _ _ _ _ => ?_
    | with_reducible refine wpd_quiet_lit (by kernel_rfl) (by kernel_rfl) (by kernel_rfl) ?_
    | ((with_reducible refine at_f 10 ?_); refine ret_k (hf _ FR FR) fun _ _ _ => ?_)
    | ((with_reducible refine at_q 11 ?_); refine qret_k (fun _ _ _ => live13) ?_)
    | ((with_reducible refine at_q 12 ?_); refine qret_k (fun _ _ _ => worldValidWish (B := B) FR (hW _ FR)) ?_)
    | ((with_reducible refine at_q 13 ?_); refine qret_k (fun _ _ _ => ref13ValidWish (B := B) FR (hW _ FR)) ?_)
    | ((with_reducible refine at_q 14 ?_); refine qret_k (fun _ _ _ => worldValid (B := B) FR (hS _ FR) (hW _ FR) (hX _ FR)) ?_)
    | ((with_reducible refine at_q 15 ?_); refine qret_k (fun _ _ _ => ref13Valid (B := B) FR (hS _ FR) (hW _ FR) (hX _ FR)) ?_)
    | simp (maxDischargeDepth := 3) only [↓X, ↓Y, ↓Q, S1, ↓reduceIte, Nat.reduceEqDiff, Nat.reduceAdd, Int.reduceLT, Int.reduceLE, Int.reduceNeg, Int.reduceBEq, Int.reduceBNe, Int.reduceEq, Nat.reduceLeDiff, Nat.reduceMul, Nat.reduceLT, natV, intV, putAt, idxOk, flatP, *, siteC]
    | simp (singlePass := true) (maxDischargeDepth := 99) only [*, S2, Nat.reduceLT, siteC])
    all_goals trace_state
def siteU0 : SiteVs := ⟨.slice none 0 0, .slice none 0 0, .slice none 0 0, .slice none 0 0, .slice none 0 0, .slice none 0 0⟩
def site0 : SiteD := ⟨[], [], [], [], 0, [], []⟩
theorem siteR0 (w : World) (B : Nat) : SiteR w B siteU0 site0 := ⟨Sl.nil _ _ _ _, Sl.nil _ _ _ _, Sl.nil _ _ _ _, Sl.nil _ _ _ _, Sl.nil _ _ _ _, Sl.nil _ _ _ _⟩
theorem few_len {s : SiteD} {l : List ServiceD} {x : WorldD} (h : fewB s l x = true) : x.hosts.length ≤ 60 ∧ x.replicas.length ≤ 60 := by
  simp only [fewB, Bool.and_eq_true, decide_eq_true_eq] at h
  omega
theorem lawWorldCounts {svc host : Int} (hB : B ≤ w.heap.size) (hl : WishR w B wv l) (hx0 : WorldR w B hv rv x) : Ret Try.prog 6 #[.agg #[wv], .agg #[hv, rv], intV svc, intV host] w (.bool true) := by
  have hn : Now w := trivial
  have hx : Ext w w := Ext.refl w
  have hl' := hl.sk hB
  have hx' := hx0.sk hB
  have hW := hl'.2.2
  have hX := hx'.2.2.2.2
  have hf := fun w' (h1 : Bl B w w') (h3 : B ≤ w'.heap.size) => few13 h3 (siteR0 w' B) (hW w' h1) (hX w' h1)
  have hfl : fewB site0 (l.map (·.x)) x = true → Hid (x.replicas.length < 1000000000000) := fun h => by have := few_len h; show x.replicas.length < 1000000000000; omega
  generalize fewB site0 (l.map (·.x)) x = fb at hf hfl
  (refine callsV_of Try.func6 rfl (by kernel_rfl) (by kernel_rfl) ?_; rw [Try.results6])
  cases fb
  · clear hfl
    (repeat' first
    | with_reducible refine alloc_k fun _ _ _ _ _ _ => ?_
    | ((with_reducible refine at_row ?_); refine row1_k (by rfl) (by decide) fun _ _ _ _ _ _ _ => ?_)
    | with_reducible refine row_k fun _ _ _ _ _ _ => ?_
    | with_reducible refine fork (fun _ => ?_) (fun _ => ?_)
    | with_reducible refine forkp (fun _ => ?_) (fun _ => ?_)
    | with_reducible refine forke (fun _ => ?_) (fun _ _ => ?_)
    | with_reducible refine tail_k fun _ _ _ => ?_
    | with_reducible refine ext_k fun _ _ _ => ?_
    | with_reducible refine need (by first | kernel_rfl | omega | assumption) ?_
    | with_reducible refine st_agg (by kernel_rfl) rfl (by simp only [natV, intV, S3, *]) fun _ _ _ _ => ?_
    | with_reducible refine wpd_quiet_lit (by kernel_rfl) (by kernel_rfl) (by kernel_rfl) ?_
    | ((with_reducible refine at_f 10 ?_); refine ret_k (hf _ FR FR) fun _ _ _ => ?_)
    | ((with_reducible refine at_f 11 ?_); refine ret_k (live13) fun _ _ _ => ?_)
    | simp (maxDischargeDepth := 3) only [↓X, ↓Y, ↓Q, S1, ↓reduceIte, Nat.reduceEqDiff, Nat.reduceAdd, Int.reduceLT, Int.reduceLE, Int.reduceNeg, Int.reduceBEq, Int.reduceBNe, Int.reduceEq, Nat.reduceLeDiff, Nat.reduceMul, Nat.reduceLT, natV, intV, putAt, idxOk, flatP, *, siteC]
    | simp (singlePass := true) (maxDischargeDepth := 99) only [*, S2, Nat.reduceLT, siteC])
  · have hlen := hfl rfl
    clear hfl
    (repeat' first
    | ((with_reducible refine wpd_at 4 ?_); refine wpd_hold ?_)
    | with_reducible refine alloc_k fun _ _ _ _ _ _ => ?_
    | ((with_reducible refine at_row ?_); refine row1_k (by rfl) (by decide) fun _ _ _ _ _ _ _ => ?_)
    | with_reducible refine row_k fun _ _ _ _ _ _ => ?_
    | with_reducible refine fork (fun _ => ?_) (fun _ => ?_)
    | with_reducible refine forkp (fun _ => ?_) (fun _ => ?_)
    | with_reducible refine forke (fun _ => ?_) (fun _ _ => ?_)
    | with_reducible refine tail_k fun _ _ _ => ?_
    | with_reducible refine ext_k fun _ _ _ => ?_
    | with_reducible refine need (by first | kernel_rfl | omega | assumption) ?_
    | with_reducible refine st_agg (by kernel_rfl) rfl (by simp only [natV, intV, S3, *]) fun _ _ _ _ => ?_
    | with_reducible refine wpd_quiet_lit (by kernel_rfl) (by kernel_rfl) (by kernel_rfl) ?_
    | ((with_reducible refine at_f 10 ?_); refine ret_k (hf _ FR FR) fun _ _ _ => ?_)
    | simp (maxDischargeDepth := 3) only [↓X, ↓Y, ↓Q, S1, ↓reduceIte, Nat.reduceEqDiff, Nat.reduceAdd, Int.reduceLT, Int.reduceLE, Int.reduceNeg, Int.reduceBEq, Int.reduceBNe, Int.reduceEq, Nat.reduceLeDiff, Nat.reduceMul, Nat.reduceLT, natV, intV, putAt, idxOk, flatP, *, siteC]
    | simp (singlePass := true) (maxDischargeDepth := 99) only [*, S2, Nat.reduceLT, siteC])
    rename_i b4 v4 u4 k4 t4 q4 b5 v5 u5 k5 t5 q5 v6 u6 t6 b9 v9 u9 k9 t9 q9 w1 n1 k1 s1
    unfold wpdH
    refine wpd_rel 39 (fun iI v w9 => match iI with
      | 0 => v = .agg #[hv, rv]
      | 1 => v = intV svc
      | 2 => v = natV (whereL x svc).length
      | 3 => v = .agg #[hv, rv]
      | 4 => v = intV svc
      | 5 => v = natV (whereL x svc).length
      | 6 => v = .bool true
      | 7 => v = .bool true
      | 8 => v = .agg #[hv, rv]
      | 9 => v = intV svc
      | 10 => Own w9 w1.heap.size 3 1 v ((whereL x svc).map intC)
      | 11 => v = .agg #[hv, rv]
      | 12 => v = intV svc
      | 13 => Own w9 w1.heap.size 3 1 v ((whereL x svc).map intC)
      | 14 => v = .bool true
      | 15 => v = .bool true
      | 16 => v = .bool true
      | 17 => v = .agg #[hv, rv]
      | 18 => v = .agg #[intV svc, intV host]
      | 19 => v = .bool (hasB x.replicas ⟨svc, host⟩)
      | 20 => v = .agg #[hv, rv]
      | 21 => v = .agg #[intV svc, intV host]
      | 22 => v = .bool (hasB x.replicas ⟨svc, host⟩)
      | 23 => v = .bool true
      | 24 => v = .bool true
      | 25 => v = .bool true
      | 26 => v = .agg #[wv]
      | 27 => v = .agg #[hv, rv]
      | 28 => v = intV host
      | 29 => v = intV (usedI (l.map (·.x)) x host)
      | 30 => v = .agg #[wv]
      | 31 => v = .agg #[hv, rv]
      | 32 => v = intV host
      | 33 => v = intV (usedI (l.map (·.x)) x host)
      | 34 => v = .bool true
      | 35 => v = .bool true
      | 36 => v = .bool true
      | 37 => v = .bool true
      | 38 => v = .bool true
      | _ => False) (by kernel_rfl) (by kernel_rfl) (by kernel_rfl) ?_ ?_ ?_
    · intro iI v w1 w2 hR hx9
      match iI, hR with
      | 0, h => exact h
      | 1, h => exact h
      | 2, h => exact h
      | 3, h => exact h
      | 4, h => exact h
      | 5, h => exact h
      | 6, h => exact h
      | 7, h => exact h
      | 8, h => exact h
      | 9, h => exact h
      | 10, h => exact Own.ext h hx9
      | 11, h => exact h
      | 12, h => exact h
      | 13, h => exact Own.ext h hx9
      | 14, h => exact h
      | 15, h => exact h
      | 16, h => exact h
      | 17, h => exact h
      | 18, h => exact h
      | 19, h => exact h
      | 20, h => exact h
      | 21, h => exact h
      | 22, h => exact h
      | 23, h => exact h
      | 24, h => exact h
      | 25, h => exact h
      | 26, h => exact h
      | 27, h => exact h
      | 28, h => exact h
      | 29, h => exact h
      | 30, h => exact h
      | 31, h => exact h
      | 32, h => exact h
      | 33, h => exact h
      | 34, h => exact h
      | 35, h => exact h
      | 36, h => exact h
      | 37, h => exact h
      | 38, h => exact h
    · intro iI oO hi ho gF w9 hx9 hdep hag
      have s9 := hx9.st
      have n9 : Now w9 := trivial
      have r9 := Ext.refl w9
      have z9 := hx9.size
      rcases iI with _|_|_|_|_|_|_|_|_|_|_|_|_|_|_|_|_|_|_|_|_|_|_|_|_|_|_|_|_|_|_|_|_|_|_|_|_|_|_|iI
      · have e := Option.some.inj ho
        subst e
        have a5 := hag.at 5 (by kernel_rfl)
        simp only [U, ↓reduceIte, Nat.reduceEqDiff, initF, U2, List.getElem?_cons_zero, List.getElem?_cons_succ, *] at a5
        clear hag hdep ho
        refine relStep_off rfl ?_
        (repeat' first
    | with_reducible refine alloc_k fun _ _ _ _ _ _ => ?_
    | ((with_reducible refine at_row ?_); refine row1_k (by rfl) (by decide) fun _ _ _ _ _ _ _ => ?_)
    | with_reducible refine row_k fun _ _ _ _ _ _ => ?_
    | with_reducible refine fork (fun _ => ?_) (fun _ => ?_)
    | with_reducible refine forkp (fun _ => ?_) (fun _ => ?_)
    | with_reducible refine forke (fun _ => ?_) (fun _ _ => ?_)
    | with_reducible refine tail_k fun _ _ _ => ?_
    | with_reducible refine ext_k fun _ _ _ => ?_
    | with_reducible refine need (by first | kernel_rfl | omega | assumption) ?_
    | with_reducible refine st_agg (by kernel_rfl) rfl (by simp only [natV, intV, S3, *]) fun _ _ _ _ => ?_
    | with_reducible refine wpd_quiet_lit (by kernel_rfl) (by kernel_rfl) (by kernel_rfl) ?_
    | ((with_reducible refine at_f 19 ?_); refine ret_k (worldRuns (B := B) FR (hX _ FR) hlen.out) fun _ _ _ => ?_)
    | ((with_reducible refine at_f 20 ?_); refine ret_k (ref13Runs (B := B) FR (hX _ FR) hlen.out) fun _ _ _ => ?_)
    | ((with_reducible refine at_f 21 ?_); refine ret_k (ref12Ints (a := whereL x svc) (b := whereL x svc) (Nat.le_refl _) (Nat.le_refl _) (d10.sl1 (f := intV)) (d13.sl1 (f := intV))) fun _ _ _ => ?_)
    | ((with_reducible refine at_f 24 ?_); refine ret_k (worldHas (r := ⟨svc, host⟩) (B := B) FR (hX _ FR)) fun _ _ _ => ?_)
    | ((with_reducible refine at_f 25 ?_); refine ret_k (ref13Has (r := ⟨svc, host⟩) (B := B) FR (hX _ FR)) fun _ _ _ => ?_)
    | ((with_reducible refine at_f 26 ?_); refine ret_k (worldUsed (B := B) FR (hW _ FR) (hX _ FR)) fun _ _ _ => ?_)
    | ((with_reducible refine at_f 27 ?_); refine ret_k (ref13Used (B := B) FR (hW _ FR) (hX _ FR)) fun _ _ _ => ?_)
    | ((with_reducible refine at_f 11 ?_); refine ret_k (live13) fun _ _ _ => ?_)
    | simp (maxDischargeDepth := 3) only [↓X, ↓Y, ↓Q, S1, ↓reduceIte, Nat.reduceEqDiff, Nat.reduceAdd, Int.reduceLT, Int.reduceLE, Int.reduceNeg, Int.reduceBEq, Int.reduceBNe, Int.reduceEq, Nat.reduceLeDiff, Nat.reduceMul, Nat.reduceLT, natV, intV, putAt, idxOk, flatP, *, replicaV]
    | simp (singlePass := true) (maxDischargeDepth := 99) only [*, S2, Nat.reduceLT, replicaV])
      · have e := Option.some.inj ho
        subst e
        have a2 := hag.at 2 (by kernel_rfl)
        simp only [U, ↓reduceIte, Nat.reduceEqDiff, initF, U2, List.getElem?_cons_zero, List.getElem?_cons_succ, *] at a2
        clear hag hdep ho
        refine relStep_off rfl ?_
        (repeat' first
    | with_reducible refine alloc_k fun _ _ _ _ _ _ => ?_
    | ((with_reducible refine at_row ?_); refine row1_k (by rfl) (by decide) fun _ _ _ _ _ _ _ => ?_)
    | with_reducible refine row_k fun _ _ _ _ _ _ => ?_
    | with_reducible refine fork (fun _ => ?_) (fun _ => ?_)
    | with_reducible refine forkp (fun _ => ?_) (fun _ => ?_)
    | with_reducible refine forke (fun _ => ?_) (fun _ _ => ?_)
    | with_reducible refine tail_k fun _ _ _ => ?_
    | with_reducible refine ext_k fun _ _ _ => ?_
    | with_reducible refine need (by first | kernel_rfl | omega | assumption) ?_
    | with_reducible refine st_agg (by kernel_rfl) rfl (by simp only [natV, intV, S3, *]) fun _ _ _ _ => ?_
    | with_reducible refine wpd_quiet_lit (by kernel_rfl) (by kernel_rfl) (by kernel_rfl) ?_
    | ((with_reducible refine at_f 19 ?_); refine ret_k (worldRuns (B := B) FR (hX _ FR) hlen.out) fun _ _ _ => ?_)
    | ((with_reducible refine at_f 20 ?_); refine ret_k (ref13Runs (B := B) FR (hX _ FR) hlen.out) fun _ _ _ => ?_)
    | ((with_reducible refine at_f 21 ?_); refine ret_k (ref12Ints (a := whereL x svc) (b := whereL x svc) (Nat.le_refl _) (Nat.le_refl _) (d10.sl1 (f := intV)) (d13.sl1 (f := intV))) fun _ _ _ => ?_)
    | ((with_reducible refine at_f 24 ?_); refine ret_k (worldHas (r := ⟨svc, host⟩) (B := B) FR (hX _ FR)) fun _ _ _ => ?_)
    | ((with_reducible refine at_f 25 ?_); refine ret_k (ref13Has (r := ⟨svc, host⟩) (B := B) FR (hX _ FR)) fun _ _ _ => ?_)
    | ((with_reducible refine at_f 26 ?_); refine ret_k (worldUsed (B := B) FR (hW _ FR) (hX _ FR)) fun _ _ _ => ?_)
    | ((with_reducible refine at_f 27 ?_); refine ret_k (ref13Used (B := B) FR (hW _ FR) (hX _ FR)) fun _ _ _ => ?_)
    | ((with_reducible refine at_f 11 ?_); refine ret_k (live13) fun _ _ _ => ?_)
    | simp (maxDischargeDepth := 3) only [↓X, ↓Y, ↓Q, S1, ↓reduceIte, Nat.reduceEqDiff, Nat.reduceAdd, Int.reduceLT, Int.reduceLE, Int.reduceNeg, Int.reduceBEq, Int.reduceBNe, Int.reduceEq, Nat.reduceLeDiff, Nat.reduceMul, Nat.reduceLT, natV, intV, putAt, idxOk, flatP, *, replicaV]
    | simp (singlePass := true) (maxDischargeDepth := 99) only [*, S2, Nat.reduceLT, replicaV])
      · have e := Option.some.inj ho
        subst e
        have d0 : (gF 19) = .agg #[hv, rv] := hdep ⟨0, .data⟩ (by simp) rfl _ _ rfl rfl
        have d1 : (gF 20) = intV svc := hdep ⟨1, .data⟩ (by simp) rfl _ _ rfl rfl
        clear hag hdep ho
        refine relStep_off rfl ?_
        (repeat' first
    | with_reducible refine alloc_k fun _ _ _ _ _ _ => ?_
    | ((with_reducible refine at_row ?_); refine row1_k (by rfl) (by decide) fun _ _ _ _ _ _ _ => ?_)
    | with_reducible refine row_k fun _ _ _ _ _ _ => ?_
    | with_reducible refine fork (fun _ => ?_) (fun _ => ?_)
    | with_reducible refine forkp (fun _ => ?_) (fun _ => ?_)
    | with_reducible refine forke (fun _ => ?_) (fun _ _ => ?_)
    | with_reducible refine tail_k fun _ _ _ => ?_
    | with_reducible refine ext_k fun _ _ _ => ?_
    | with_reducible refine need (by first | kernel_rfl | omega | assumption) ?_
    | with_reducible refine st_agg (by kernel_rfl) rfl (by simp only [natV, intV, S3, *]) fun _ _ _ _ => ?_
    | with_reducible refine wpd_quiet_lit (by kernel_rfl) (by kernel_rfl) (by kernel_rfl) ?_
    | ((with_reducible refine at_f 19 ?_); refine ret_k (worldRuns (B := B) FR (hX _ FR) hlen.out) fun _ _ _ => ?_)
    | ((with_reducible refine at_f 20 ?_); refine ret_k (ref13Runs (B := B) FR (hX _ FR) hlen.out) fun _ _ _ => ?_)
    | ((with_reducible refine at_f 21 ?_); refine ret_k (ref12Ints (a := whereL x svc) (b := whereL x svc) (Nat.le_refl _) (Nat.le_refl _) (d10.sl1 (f := intV)) (d13.sl1 (f := intV))) fun _ _ _ => ?_)
    | ((with_reducible refine at_f 24 ?_); refine ret_k (worldHas (r := ⟨svc, host⟩) (B := B) FR (hX _ FR)) fun _ _ _ => ?_)
    | ((with_reducible refine at_f 25 ?_); refine ret_k (ref13Has (r := ⟨svc, host⟩) (B := B) FR (hX _ FR)) fun _ _ _ => ?_)
    | ((with_reducible refine at_f 26 ?_); refine ret_k (worldUsed (B := B) FR (hW _ FR) (hX _ FR)) fun _ _ _ => ?_)
    | ((with_reducible refine at_f 27 ?_); refine ret_k (ref13Used (B := B) FR (hW _ FR) (hX _ FR)) fun _ _ _ => ?_)
    | ((with_reducible refine at_f 11 ?_); refine ret_k (live13) fun _ _ _ => ?_)
    | simp (maxDischargeDepth := 3) only [↓X, ↓Y, ↓Q, S1, ↓reduceIte, Nat.reduceEqDiff, Nat.reduceAdd, Int.reduceLT, Int.reduceLE, Int.reduceNeg, Int.reduceBEq, Int.reduceBNe, Int.reduceEq, Nat.reduceLeDiff, Nat.reduceMul, Nat.reduceLT, natV, intV, putAt, idxOk, flatP, *, replicaV]
    | simp (singlePass := true) (maxDischargeDepth := 99) only [*, S2, Nat.reduceLT, replicaV])
      · have e := Option.some.inj ho
        subst e
        have a5 := hag.at 5 (by kernel_rfl)
        simp only [U, ↓reduceIte, Nat.reduceEqDiff, initF, U2, List.getElem?_cons_zero, List.getElem?_cons_succ, *] at a5
        clear hag hdep ho
        refine relStep_off rfl ?_
        (repeat' first
    | with_reducible refine alloc_k fun _ _ _ _ _ _ => ?_
    | ((with_reducible refine at_row ?_); refine row1_k (by rfl) (by decide) fun _ _ _ _ _ _ _ => ?_)
    | with_reducible refine row_k fun _ _ _ _ _ _ => ?_
    | with_reducible refine fork (fun _ => ?_) (fun _ => ?_)
    | with_reducible refine forkp (fun _ => ?_) (fun _ => ?_)
    | with_reducible refine forke (fun _ => ?_) (fun _ _ => ?_)
    | with_reducible refine tail_k fun _ _ _ => ?_
    | with_reducible refine ext_k fun _ _ _ => ?_
    | with_reducible refine need (by first | kernel_rfl | omega | assumption) ?_
    | with_reducible refine st_agg (by kernel_rfl) rfl (by simp only [natV, intV, S3, *]) fun _ _ _ _ => ?_
    | with_reducible refine wpd_quiet_lit (by kernel_rfl) (by kernel_rfl) (by kernel_rfl) ?_
    | ((with_reducible refine at_f 19 ?_); refine ret_k (worldRuns (B := B) FR (hX _ FR) hlen.out) fun _ _ _ => ?_)
    | ((with_reducible refine at_f 20 ?_); refine ret_k (ref13Runs (B := B) FR (hX _ FR) hlen.out) fun _ _ _ => ?_)
    | ((with_reducible refine at_f 21 ?_); refine ret_k (ref12Ints (a := whereL x svc) (b := whereL x svc) (Nat.le_refl _) (Nat.le_refl _) (d10.sl1 (f := intV)) (d13.sl1 (f := intV))) fun _ _ _ => ?_)
    | ((with_reducible refine at_f 24 ?_); refine ret_k (worldHas (r := ⟨svc, host⟩) (B := B) FR (hX _ FR)) fun _ _ _ => ?_)
    | ((with_reducible refine at_f 25 ?_); refine ret_k (ref13Has (r := ⟨svc, host⟩) (B := B) FR (hX _ FR)) fun _ _ _ => ?_)
    | ((with_reducible refine at_f 26 ?_); refine ret_k (worldUsed (B := B) FR (hW _ FR) (hX _ FR)) fun _ _ _ => ?_)
    | ((with_reducible refine at_f 27 ?_); refine ret_k (ref13Used (B := B) FR (hW _ FR) (hX _ FR)) fun _ _ _ => ?_)
    | ((with_reducible refine at_f 11 ?_); refine ret_k (live13) fun _ _ _ => ?_)
    | simp (maxDischargeDepth := 3) only [↓X, ↓Y, ↓Q, S1, ↓reduceIte, Nat.reduceEqDiff, Nat.reduceAdd, Int.reduceLT, Int.reduceLE, Int.reduceNeg, Int.reduceBEq, Int.reduceBNe, Int.reduceEq, Nat.reduceLeDiff, Nat.reduceMul, Nat.reduceLT, natV, intV, putAt, idxOk, flatP, *, replicaV]
    | simp (singlePass := true) (maxDischargeDepth := 99) only [*, S2, Nat.reduceLT, replicaV])
      · have e := Option.some.inj ho
        subst e
        have a2 := hag.at 2 (by kernel_rfl)
        simp only [U, ↓reduceIte, Nat.reduceEqDiff, initF, U2, List.getElem?_cons_zero, List.getElem?_cons_succ, *] at a2
        clear hag hdep ho
        refine relStep_off rfl ?_
        (repeat' first
    | with_reducible refine alloc_k fun _ _ _ _ _ _ => ?_
    | ((with_reducible refine at_row ?_); refine row1_k (by rfl) (by decide) fun _ _ _ _ _ _ _ => ?_)
    | with_reducible refine row_k fun _ _ _ _ _ _ => ?_
    | with_reducible refine fork (fun _ => ?_) (fun _ => ?_)
    | with_reducible refine forkp (fun _ => ?_) (fun _ => ?_)
    | with_reducible refine forke (fun _ => ?_) (fun _ _ => ?_)
    | with_reducible refine tail_k fun _ _ _ => ?_
    | with_reducible refine ext_k fun _ _ _ => ?_
    | with_reducible refine need (by first | kernel_rfl | omega | assumption) ?_
    | with_reducible refine st_agg (by kernel_rfl) rfl (by simp only [natV, intV, S3, *]) fun _ _ _ _ => ?_
    | with_reducible refine wpd_quiet_lit (by kernel_rfl) (by kernel_rfl) (by kernel_rfl) ?_
    | ((with_reducible refine at_f 19 ?_); refine ret_k (worldRuns (B := B) FR (hX _ FR) hlen.out) fun _ _ _ => ?_)
    | ((with_reducible refine at_f 20 ?_); refine ret_k (ref13Runs (B := B) FR (hX _ FR) hlen.out) fun _ _ _ => ?_)
    | ((with_reducible refine at_f 21 ?_); refine ret_k (ref12Ints (a := whereL x svc) (b := whereL x svc) (Nat.le_refl _) (Nat.le_refl _) (d10.sl1 (f := intV)) (d13.sl1 (f := intV))) fun _ _ _ => ?_)
    | ((with_reducible refine at_f 24 ?_); refine ret_k (worldHas (r := ⟨svc, host⟩) (B := B) FR (hX _ FR)) fun _ _ _ => ?_)
    | ((with_reducible refine at_f 25 ?_); refine ret_k (ref13Has (r := ⟨svc, host⟩) (B := B) FR (hX _ FR)) fun _ _ _ => ?_)
    | ((with_reducible refine at_f 26 ?_); refine ret_k (worldUsed (B := B) FR (hW _ FR) (hX _ FR)) fun _ _ _ => ?_)
    | ((with_reducible refine at_f 27 ?_); refine ret_k (ref13Used (B := B) FR (hW _ FR) (hX _ FR)) fun _ _ _ => ?_)
    | ((with_reducible refine at_f 11 ?_); refine ret_k (live13) fun _ _ _ => ?_)
    | simp (maxDischargeDepth := 3) only [↓X, ↓Y, ↓Q, S1, ↓reduceIte, Nat.reduceEqDiff, Nat.reduceAdd, Int.reduceLT, Int.reduceLE, Int.reduceNeg, Int.reduceBEq, Int.reduceBNe, Int.reduceEq, Nat.reduceLeDiff, Nat.reduceMul, Nat.reduceLT, natV, intV, putAt, idxOk, flatP, *, replicaV]
    | simp (singlePass := true) (maxDischargeDepth := 99) only [*, S2, Nat.reduceLT, replicaV])
      · have e := Option.some.inj ho
        subst e
        have d3 : (gF 22) = .agg #[hv, rv] := hdep ⟨3, .data⟩ (by simp) rfl _ _ rfl rfl
        have d4 : (gF 23) = intV svc := hdep ⟨4, .data⟩ (by simp) rfl _ _ rfl rfl
        clear hag hdep ho
        refine relStep_off rfl ?_
        (repeat' first
    | with_reducible refine alloc_k fun _ _ _ _ _ _ => ?_
    | ((with_reducible refine at_row ?_); refine row1_k (by rfl) (by decide) fun _ _ _ _ _ _ _ => ?_)
    | with_reducible refine row_k fun _ _ _ _ _ _ => ?_
    | with_reducible refine fork (fun _ => ?_) (fun _ => ?_)
    | with_reducible refine forkp (fun _ => ?_) (fun _ => ?_)
    | with_reducible refine forke (fun _ => ?_) (fun _ _ => ?_)
    | with_reducible refine tail_k fun _ _ _ => ?_
    | with_reducible refine ext_k fun _ _ _ => ?_
    | with_reducible refine need (by first | kernel_rfl | omega | assumption) ?_
    | with_reducible refine st_agg (by kernel_rfl) rfl (by simp only [natV, intV, S3, *]) fun _ _ _ _ => ?_
    | with_reducible refine wpd_quiet_lit (by kernel_rfl) (by kernel_rfl) (by kernel_rfl) ?_
    | ((with_reducible refine at_f 19 ?_); refine ret_k (worldRuns (B := B) FR (hX _ FR) hlen.out) fun _ _ _ => ?_)
    | ((with_reducible refine at_f 20 ?_); refine ret_k (ref13Runs (B := B) FR (hX _ FR) hlen.out) fun _ _ _ => ?_)
    | ((with_reducible refine at_f 21 ?_); refine ret_k (ref12Ints (a := whereL x svc) (b := whereL x svc) (Nat.le_refl _) (Nat.le_refl _) (d10.sl1 (f := intV)) (d13.sl1 (f := intV))) fun _ _ _ => ?_)
    | ((with_reducible refine at_f 24 ?_); refine ret_k (worldHas (r := ⟨svc, host⟩) (B := B) FR (hX _ FR)) fun _ _ _ => ?_)
    | ((with_reducible refine at_f 25 ?_); refine ret_k (ref13Has (r := ⟨svc, host⟩) (B := B) FR (hX _ FR)) fun _ _ _ => ?_)
    | ((with_reducible refine at_f 26 ?_); refine ret_k (worldUsed (B := B) FR (hW _ FR) (hX _ FR)) fun _ _ _ => ?_)
    | ((with_reducible refine at_f 27 ?_); refine ret_k (ref13Used (B := B) FR (hW _ FR) (hX _ FR)) fun _ _ _ => ?_)
    | ((with_reducible refine at_f 11 ?_); refine ret_k (live13) fun _ _ _ => ?_)
    | simp (maxDischargeDepth := 3) only [↓X, ↓Y, ↓Q, S1, ↓reduceIte, Nat.reduceEqDiff, Nat.reduceAdd, Int.reduceLT, Int.reduceLE, Int.reduceNeg, Int.reduceBEq, Int.reduceBNe, Int.reduceEq, Nat.reduceLeDiff, Nat.reduceMul, Nat.reduceLT, natV, intV, putAt, idxOk, flatP, *, replicaV]
    | simp (singlePass := true) (maxDischargeDepth := 99) only [*, S2, Nat.reduceLT, replicaV])
      · have e := Option.some.inj ho
        subst e
        have d2 : (gF 21) = natV (whereL x svc).length := hdep ⟨2, .data⟩ (by simp) rfl _ _ rfl rfl
        have d5 : (gF 24) = natV (whereL x svc).length := hdep ⟨5, .data⟩ (by simp) rfl _ _ rfl rfl
        clear hag hdep ho
        refine relStep_off rfl ?_
        (repeat' first
    | with_reducible refine alloc_k fun _ _ _ _ _ _ => ?_
    | ((with_reducible refine at_row ?_); refine row1_k (by rfl) (by decide) fun _ _ _ _ _ _ _ => ?_)
    | with_reducible refine row_k fun _ _ _ _ _ _ => ?_
    | with_reducible refine fork (fun _ => ?_) (fun _ => ?_)
    | with_reducible refine forkp (fun _ => ?_) (fun _ => ?_)
    | with_reducible refine forke (fun _ => ?_) (fun _ _ => ?_)
    | with_reducible refine tail_k fun _ _ _ => ?_
    | with_reducible refine ext_k fun _ _ _ => ?_
    | with_reducible refine need (by first | kernel_rfl | omega | assumption) ?_
    | with_reducible refine st_agg (by kernel_rfl) rfl (by simp only [natV, intV, S3, *]) fun _ _ _ _ => ?_
    | with_reducible refine wpd_quiet_lit (by kernel_rfl) (by kernel_rfl) (by kernel_rfl) ?_
    | ((with_reducible refine at_f 19 ?_); refine ret_k (worldRuns (B := B) FR (hX _ FR) hlen.out) fun _ _ _ => ?_)
    | ((with_reducible refine at_f 20 ?_); refine ret_k (ref13Runs (B := B) FR (hX _ FR) hlen.out) fun _ _ _ => ?_)
    | ((with_reducible refine at_f 21 ?_); refine ret_k (ref12Ints (a := whereL x svc) (b := whereL x svc) (Nat.le_refl _) (Nat.le_refl _) (d10.sl1 (f := intV)) (d13.sl1 (f := intV))) fun _ _ _ => ?_)
    | ((with_reducible refine at_f 24 ?_); refine ret_k (worldHas (r := ⟨svc, host⟩) (B := B) FR (hX _ FR)) fun _ _ _ => ?_)
    | ((with_reducible refine at_f 25 ?_); refine ret_k (ref13Has (r := ⟨svc, host⟩) (B := B) FR (hX _ FR)) fun _ _ _ => ?_)
    | ((with_reducible refine at_f 26 ?_); refine ret_k (worldUsed (B := B) FR (hW _ FR) (hX _ FR)) fun _ _ _ => ?_)
    | ((with_reducible refine at_f 27 ?_); refine ret_k (ref13Used (B := B) FR (hW _ FR) (hX _ FR)) fun _ _ _ => ?_)
    | ((with_reducible refine at_f 11 ?_); refine ret_k (live13) fun _ _ _ => ?_)
    | simp (maxDischargeDepth := 3) only [↓X, ↓Y, ↓Q, S1, ↓reduceIte, Nat.reduceEqDiff, Nat.reduceAdd, Int.reduceLT, Int.reduceLE, Int.reduceNeg, Int.reduceBEq, Int.reduceBNe, Int.reduceEq, Nat.reduceLeDiff, Nat.reduceMul, Nat.reduceLT, natV, intV, putAt, idxOk, flatP, *, replicaV]
    | simp (singlePass := true) (maxDischargeDepth := 99) only [*, S2, Nat.reduceLT, replicaV])
      · have e := Option.some.inj ho
        subst e
        have d6 : (gF 25) = .bool true := hdep ⟨6, .data⟩ (by simp) rfl _ _ rfl rfl
        clear hag hdep ho
        refine relStep_off rfl ?_
        (repeat' first
    | with_reducible refine alloc_k fun _ _ _ _ _ _ => ?_
    | ((with_reducible refine at_row ?_); refine row1_k (by rfl) (by decide) fun _ _ _ _ _ _ _ => ?_)
    | with_reducible refine row_k fun _ _ _ _ _ _ => ?_
    | with_reducible refine fork (fun _ => ?_) (fun _ => ?_)
    | with_reducible refine forkp (fun _ => ?_) (fun _ => ?_)
    | with_reducible refine forke (fun _ => ?_) (fun _ _ => ?_)
    | with_reducible refine tail_k fun _ _ _ => ?_
    | with_reducible refine ext_k fun _ _ _ => ?_
    | with_reducible refine need (by first | kernel_rfl | omega | assumption) ?_
    | with_reducible refine st_agg (by kernel_rfl) rfl (by simp only [natV, intV, S3, *]) fun _ _ _ _ => ?_
    | with_reducible refine wpd_quiet_lit (by kernel_rfl) (by kernel_rfl) (by kernel_rfl) ?_
    | ((with_reducible refine at_f 19 ?_); refine ret_k (worldRuns (B := B) FR (hX _ FR) hlen.out) fun _ _ _ => ?_)
    | ((with_reducible refine at_f 20 ?_); refine ret_k (ref13Runs (B := B) FR (hX _ FR) hlen.out) fun _ _ _ => ?_)
    | ((with_reducible refine at_f 21 ?_); refine ret_k (ref12Ints (a := whereL x svc) (b := whereL x svc) (Nat.le_refl _) (Nat.le_refl _) (d10.sl1 (f := intV)) (d13.sl1 (f := intV))) fun _ _ _ => ?_)
    | ((with_reducible refine at_f 24 ?_); refine ret_k (worldHas (r := ⟨svc, host⟩) (B := B) FR (hX _ FR)) fun _ _ _ => ?_)
    | ((with_reducible refine at_f 25 ?_); refine ret_k (ref13Has (r := ⟨svc, host⟩) (B := B) FR (hX _ FR)) fun _ _ _ => ?_)
    | ((with_reducible refine at_f 26 ?_); refine ret_k (worldUsed (B := B) FR (hW _ FR) (hX _ FR)) fun _ _ _ => ?_)
    | ((with_reducible refine at_f 27 ?_); refine ret_k (ref13Used (B := B) FR (hW _ FR) (hX _ FR)) fun _ _ _ => ?_)
    | ((with_reducible refine at_f 11 ?_); refine ret_k (live13) fun _ _ _ => ?_)
    | simp (maxDischargeDepth := 3) only [↓X, ↓Y, ↓Q, S1, ↓reduceIte, Nat.reduceEqDiff, Nat.reduceAdd, Int.reduceLT, Int.reduceLE, Int.reduceNeg, Int.reduceBEq, Int.reduceBNe, Int.reduceEq, Nat.reduceLeDiff, Nat.reduceMul, Nat.reduceLT, natV, intV, putAt, idxOk, flatP, *, replicaV]
    | simp (singlePass := true) (maxDischargeDepth := 99) only [*, S2, Nat.reduceLT, replicaV])
      · have e := Option.some.inj ho
        subst e
        have a5 := hag.at 5 (by kernel_rfl)
        simp only [U, ↓reduceIte, Nat.reduceEqDiff, initF, U2, List.getElem?_cons_zero, List.getElem?_cons_succ, *] at a5
        have d7 : (gF 26) = .bool true := hdep ⟨7, .guard⟩ (by simp) rfl _ _ rfl rfl
        clear hag hdep ho
        refine relStep_on (j := 7) (want := true) (t := 26) rfl rfl (by rw [d7]; rfl) ?_
        (repeat' first
    | with_reducible refine alloc_k fun _ _ _ _ _ _ => ?_
    | ((with_reducible refine at_row ?_); refine row1_k (by rfl) (by decide) fun _ _ _ _ _ _ _ => ?_)
    | with_reducible refine row_k fun _ _ _ _ _ _ => ?_
    | with_reducible refine fork (fun _ => ?_) (fun _ => ?_)
    | with_reducible refine forkp (fun _ => ?_) (fun _ => ?_)
    | with_reducible refine forke (fun _ => ?_) (fun _ _ => ?_)
    | with_reducible refine tail_k fun _ _ _ => ?_
    | with_reducible refine ext_k fun _ _ _ => ?_
    | with_reducible refine need (by first | kernel_rfl | omega | assumption) ?_
    | with_reducible refine st_agg (by kernel_rfl) rfl (by simp only [natV, intV, S3, *]) fun _ _ _ _ => ?_
    | with_reducible refine wpd_quiet_lit (by kernel_rfl) (by kernel_rfl) (by kernel_rfl) ?_
    | ((with_reducible refine at_f 19 ?_); refine ret_k (worldRuns (B := B) FR (hX _ FR) hlen.out) fun _ _ _ => ?_)
    | ((with_reducible refine at_f 20 ?_); refine ret_k (ref13Runs (B := B) FR (hX _ FR) hlen.out) fun _ _ _ => ?_)
    | ((with_reducible refine at_f 21 ?_); refine ret_k (ref12Ints (a := whereL x svc) (b := whereL x svc) (Nat.le_refl _) (Nat.le_refl _) (d10.sl1 (f := intV)) (d13.sl1 (f := intV))) fun _ _ _ => ?_)
    | ((with_reducible refine at_f 24 ?_); refine ret_k (worldHas (r := ⟨svc, host⟩) (B := B) FR (hX _ FR)) fun _ _ _ => ?_)
    | ((with_reducible refine at_f 25 ?_); refine ret_k (ref13Has (r := ⟨svc, host⟩) (B := B) FR (hX _ FR)) fun _ _ _ => ?_)
    | ((with_reducible refine at_f 26 ?_); refine ret_k (worldUsed (B := B) FR (hW _ FR) (hX _ FR)) fun _ _ _ => ?_)
    | ((with_reducible refine at_f 27 ?_); refine ret_k (ref13Used (B := B) FR (hW _ FR) (hX _ FR)) fun _ _ _ => ?_)
    | ((with_reducible refine at_f 11 ?_); refine ret_k (live13) fun _ _ _ => ?_)
    | simp (maxDischargeDepth := 3) only [↓X, ↓Y, ↓Q, S1, ↓reduceIte, Nat.reduceEqDiff, Nat.reduceAdd, Int.reduceLT, Int.reduceLE, Int.reduceNeg, Int.reduceBEq, Int.reduceBNe, Int.reduceEq, Nat.reduceLeDiff, Nat.reduceMul, Nat.reduceLT, natV, intV, putAt, idxOk, flatP, *, replicaV]
    | simp (singlePass := true) (maxDischargeDepth := 99) only [*, S2, Nat.reduceLT, replicaV])
      · have e := Option.some.inj ho
        subst e
        have a2 := hag.at 2 (by kernel_rfl)
        simp only [U, ↓reduceIte, Nat.reduceEqDiff, initF, U2, List.getElem?_cons_zero, List.getElem?_cons_succ, *] at a2
        have d7 : (gF 26) = .bool true := hdep ⟨7, .guard⟩ (by simp) rfl _ _ rfl rfl
        clear hag hdep ho
        refine relStep_on (j := 7) (want := true) (t := 26) rfl rfl (by rw [d7]; rfl) ?_
        (repeat' first
    | with_reducible refine alloc_k fun _ _ _ _ _ _ => ?_
    | ((with_reducible refine at_row ?_); refine row1_k (by rfl) (by decide) fun _ _ _ _ _ _ _ => ?_)
    | with_reducible refine row_k fun _ _ _ _ _ _ => ?_
    | with_reducible refine fork (fun _ => ?_) (fun _ => ?_)
    | with_reducible refine forkp (fun _ => ?_) (fun _ => ?_)
    | with_reducible refine forke (fun _ => ?_) (fun _ _ => ?_)
    | with_reducible refine tail_k fun _ _ _ => ?_
    | with_reducible refine ext_k fun _ _ _ => ?_
    | with_reducible refine need (by first | kernel_rfl | omega | assumption) ?_
    | with_reducible refine st_agg (by kernel_rfl) rfl (by simp only [natV, intV, S3, *]) fun _ _ _ _ => ?_
    | with_reducible refine wpd_quiet_lit (by kernel_rfl) (by kernel_rfl) (by kernel_rfl) ?_
    | ((with_reducible refine at_f 19 ?_); refine ret_k (worldRuns (B := B) FR (hX _ FR) hlen.out) fun _ _ _ => ?_)
    | ((with_reducible refine at_f 20 ?_); refine ret_k (ref13Runs (B := B) FR (hX _ FR) hlen.out) fun _ _ _ => ?_)
    | ((with_reducible refine at_f 21 ?_); refine ret_k (ref12Ints (a := whereL x svc) (b := whereL x svc) (Nat.le_refl _) (Nat.le_refl _) (d10.sl1 (f := intV)) (d13.sl1 (f := intV))) fun _ _ _ => ?_)
    | ((with_reducible refine at_f 24 ?_); refine ret_k (worldHas (r := ⟨svc, host⟩) (B := B) FR (hX _ FR)) fun _ _ _ => ?_)
    | ((with_reducible refine at_f 25 ?_); refine ret_k (ref13Has (r := ⟨svc, host⟩) (B := B) FR (hX _ FR)) fun _ _ _ => ?_)
    | ((with_reducible refine at_f 26 ?_); refine ret_k (worldUsed (B := B) FR (hW _ FR) (hX _ FR)) fun _ _ _ => ?_)
    | ((with_reducible refine at_f 27 ?_); refine ret_k (ref13Used (B := B) FR (hW _ FR) (hX _ FR)) fun _ _ _ => ?_)
    | ((with_reducible refine at_f 11 ?_); refine ret_k (live13) fun _ _ _ => ?_)
    | simp (maxDischargeDepth := 3) only [↓X, ↓Y, ↓Q, S1, ↓reduceIte, Nat.reduceEqDiff, Nat.reduceAdd, Int.reduceLT, Int.reduceLE, Int.reduceNeg, Int.reduceBEq, Int.reduceBNe, Int.reduceEq, Nat.reduceLeDiff, Nat.reduceMul, Nat.reduceLT, natV, intV, putAt, idxOk, flatP, *, replicaV]
    | simp (singlePass := true) (maxDischargeDepth := 99) only [*, S2, Nat.reduceLT, replicaV])
      · have e := Option.some.inj ho
        subst e
        have d8 : (gF 27) = .agg #[hv, rv] := hdep ⟨8, .data⟩ (by simp) rfl _ _ rfl rfl
        have d9 : (gF 28) = intV svc := hdep ⟨9, .data⟩ (by simp) rfl _ _ rfl rfl
        have d7 : (gF 26) = .bool true := hdep ⟨7, .guard⟩ (by simp) rfl _ _ rfl rfl
        clear hag hdep ho
        refine relStep_on (j := 7) (want := true) (t := 26) rfl rfl (by rw [d7]; rfl) ?_
        (repeat' first
    | with_reducible refine alloc_k fun _ _ _ _ _ _ => ?_
    | ((with_reducible refine at_row ?_); refine row1_k (by rfl) (by decide) fun _ _ _ _ _ _ _ => ?_)
    | with_reducible refine row_k fun _ _ _ _ _ _ => ?_
    | with_reducible refine fork (fun _ => ?_) (fun _ => ?_)
    | with_reducible refine forkp (fun _ => ?_) (fun _ => ?_)
    | with_reducible refine forke (fun _ => ?_) (fun _ _ => ?_)
    | with_reducible refine tail_k fun _ _ _ => ?_
    | with_reducible refine ext_k fun _ _ _ => ?_
    | with_reducible refine need (by first | kernel_rfl | omega | assumption) ?_
    | with_reducible refine st_agg (by kernel_rfl) rfl (by simp only [natV, intV, S3, *]) fun _ _ _ _ => ?_
    | with_reducible refine wpd_quiet_lit (by kernel_rfl) (by kernel_rfl) (by kernel_rfl) ?_
    | ((with_reducible refine at_f 19 ?_); refine ret_k (worldRuns (B := B) FR (hX _ FR) hlen.out) fun _ _ _ => ?_)
    | ((with_reducible refine at_f 20 ?_); refine ret_k (ref13Runs (B := B) FR (hX _ FR) hlen.out) fun _ _ _ => ?_)
    | ((with_reducible refine at_f 21 ?_); refine ret_k (ref12Ints (a := whereL x svc) (b := whereL x svc) (Nat.le_refl _) (Nat.le_refl _) (d10.sl1 (f := intV)) (d13.sl1 (f := intV))) fun _ _ _ => ?_)
    | ((with_reducible refine at_f 24 ?_); refine ret_k (worldHas (r := ⟨svc, host⟩) (B := B) FR (hX _ FR)) fun _ _ _ => ?_)
    | ((with_reducible refine at_f 25 ?_); refine ret_k (ref13Has (r := ⟨svc, host⟩) (B := B) FR (hX _ FR)) fun _ _ _ => ?_)
    | ((with_reducible refine at_f 26 ?_); refine ret_k (worldUsed (B := B) FR (hW _ FR) (hX _ FR)) fun _ _ _ => ?_)
    | ((with_reducible refine at_f 27 ?_); refine ret_k (ref13Used (B := B) FR (hW _ FR) (hX _ FR)) fun _ _ _ => ?_)
    | ((with_reducible refine at_f 11 ?_); refine ret_k (live13) fun _ _ _ => ?_)
    | simp (maxDischargeDepth := 3) only [↓X, ↓Y, ↓Q, S1, ↓reduceIte, Nat.reduceEqDiff, Nat.reduceAdd, Int.reduceLT, Int.reduceLE, Int.reduceNeg, Int.reduceBEq, Int.reduceBNe, Int.reduceEq, Nat.reduceLeDiff, Nat.reduceMul, Nat.reduceLT, natV, intV, putAt, idxOk, flatP, *, replicaV]
    | simp (singlePass := true) (maxDischargeDepth := 99) only [*, S2, Nat.reduceLT, replicaV])
        refine CallsV.mono (worldWhere (B := B) FR (hX _ FR) hlen.out) fun v w10 hh => ⟨hh.1, Own.more hh.2 z9⟩
      · have e := Option.some.inj ho
        subst e
        have a5 := hag.at 5 (by kernel_rfl)
        simp only [U, ↓reduceIte, Nat.reduceEqDiff, initF, U2, List.getElem?_cons_zero, List.getElem?_cons_succ, *] at a5
        have d7 : (gF 26) = .bool true := hdep ⟨7, .guard⟩ (by simp) rfl _ _ rfl rfl
        clear hag hdep ho
        refine relStep_on (j := 7) (want := true) (t := 26) rfl rfl (by rw [d7]; rfl) ?_
        (repeat' first
    | with_reducible refine alloc_k fun _ _ _ _ _ _ => ?_
    | ((with_reducible refine at_row ?_); refine row1_k (by rfl) (by decide) fun _ _ _ _ _ _ _ => ?_)
    | with_reducible refine row_k fun _ _ _ _ _ _ => ?_
    | with_reducible refine fork (fun _ => ?_) (fun _ => ?_)
    | with_reducible refine forkp (fun _ => ?_) (fun _ => ?_)
    | with_reducible refine forke (fun _ => ?_) (fun _ _ => ?_)
    | with_reducible refine tail_k fun _ _ _ => ?_
    | with_reducible refine ext_k fun _ _ _ => ?_
    | with_reducible refine need (by first | kernel_rfl | omega | assumption) ?_
    | with_reducible refine st_agg (by kernel_rfl) rfl (by simp only [natV, intV, S3, *]) fun _ _ _ _ => ?_
    | with_reducible refine wpd_quiet_lit (by kernel_rfl) (by kernel_rfl) (by kernel_rfl) ?_
    | ((with_reducible refine at_f 19 ?_); refine ret_k (worldRuns (B := B) FR (hX _ FR) hlen.out) fun _ _ _ => ?_)
    | ((with_reducible refine at_f 20 ?_); refine ret_k (ref13Runs (B := B) FR (hX _ FR) hlen.out) fun _ _ _ => ?_)
    | ((with_reducible refine at_f 21 ?_); refine ret_k (ref12Ints (a := whereL x svc) (b := whereL x svc) (Nat.le_refl _) (Nat.le_refl _) (d10.sl1 (f := intV)) (d13.sl1 (f := intV))) fun _ _ _ => ?_)
    | ((with_reducible refine at_f 24 ?_); refine ret_k (worldHas (r := ⟨svc, host⟩) (B := B) FR (hX _ FR)) fun _ _ _ => ?_)
    | ((with_reducible refine at_f 25 ?_); refine ret_k (ref13Has (r := ⟨svc, host⟩) (B := B) FR (hX _ FR)) fun _ _ _ => ?_)
    | ((with_reducible refine at_f 26 ?_); refine ret_k (worldUsed (B := B) FR (hW _ FR) (hX _ FR)) fun _ _ _ => ?_)
    | ((with_reducible refine at_f 27 ?_); refine ret_k (ref13Used (B := B) FR (hW _ FR) (hX _ FR)) fun _ _ _ => ?_)
    | ((with_reducible refine at_f 11 ?_); refine ret_k (live13) fun _ _ _ => ?_)
    | simp (maxDischargeDepth := 3) only [↓X, ↓Y, ↓Q, S1, ↓reduceIte, Nat.reduceEqDiff, Nat.reduceAdd, Int.reduceLT, Int.reduceLE, Int.reduceNeg, Int.reduceBEq, Int.reduceBNe, Int.reduceEq, Nat.reduceLeDiff, Nat.reduceMul, Nat.reduceLT, natV, intV, putAt, idxOk, flatP, *, replicaV]
    | simp (singlePass := true) (maxDischargeDepth := 99) only [*, S2, Nat.reduceLT, replicaV])
      · have e := Option.some.inj ho
        subst e
        have a2 := hag.at 2 (by kernel_rfl)
        simp only [U, ↓reduceIte, Nat.reduceEqDiff, initF, U2, List.getElem?_cons_zero, List.getElem?_cons_succ, *] at a2
        have d7 : (gF 26) = .bool true := hdep ⟨7, .guard⟩ (by simp) rfl _ _ rfl rfl
        clear hag hdep ho
        refine relStep_on (j := 7) (want := true) (t := 26) rfl rfl (by rw [d7]; rfl) ?_
        (repeat' first
    | with_reducible refine alloc_k fun _ _ _ _ _ _ => ?_
    | ((with_reducible refine at_row ?_); refine row1_k (by rfl) (by decide) fun _ _ _ _ _ _ _ => ?_)
    | with_reducible refine row_k fun _ _ _ _ _ _ => ?_
    | with_reducible refine fork (fun _ => ?_) (fun _ => ?_)
    | with_reducible refine forkp (fun _ => ?_) (fun _ => ?_)
    | with_reducible refine forke (fun _ => ?_) (fun _ _ => ?_)
    | with_reducible refine tail_k fun _ _ _ => ?_
    | with_reducible refine ext_k fun _ _ _ => ?_
    | with_reducible refine need (by first | kernel_rfl | omega | assumption) ?_
    | with_reducible refine st_agg (by kernel_rfl) rfl (by simp only [natV, intV, S3, *]) fun _ _ _ _ => ?_
    | with_reducible refine wpd_quiet_lit (by kernel_rfl) (by kernel_rfl) (by kernel_rfl) ?_
    | ((with_reducible refine at_f 19 ?_); refine ret_k (worldRuns (B := B) FR (hX _ FR) hlen.out) fun _ _ _ => ?_)
    | ((with_reducible refine at_f 20 ?_); refine ret_k (ref13Runs (B := B) FR (hX _ FR) hlen.out) fun _ _ _ => ?_)
    | ((with_reducible refine at_f 21 ?_); refine ret_k (ref12Ints (a := whereL x svc) (b := whereL x svc) (Nat.le_refl _) (Nat.le_refl _) (d10.sl1 (f := intV)) (d13.sl1 (f := intV))) fun _ _ _ => ?_)
    | ((with_reducible refine at_f 24 ?_); refine ret_k (worldHas (r := ⟨svc, host⟩) (B := B) FR (hX _ FR)) fun _ _ _ => ?_)
    | ((with_reducible refine at_f 25 ?_); refine ret_k (ref13Has (r := ⟨svc, host⟩) (B := B) FR (hX _ FR)) fun _ _ _ => ?_)
    | ((with_reducible refine at_f 26 ?_); refine ret_k (worldUsed (B := B) FR (hW _ FR) (hX _ FR)) fun _ _ _ => ?_)
    | ((with_reducible refine at_f 27 ?_); refine ret_k (ref13Used (B := B) FR (hW _ FR) (hX _ FR)) fun _ _ _ => ?_)
    | ((with_reducible refine at_f 11 ?_); refine ret_k (live13) fun _ _ _ => ?_)
    | simp (maxDischargeDepth := 3) only [↓X, ↓Y, ↓Q, S1, ↓reduceIte, Nat.reduceEqDiff, Nat.reduceAdd, Int.reduceLT, Int.reduceLE, Int.reduceNeg, Int.reduceBEq, Int.reduceBNe, Int.reduceEq, Nat.reduceLeDiff, Nat.reduceMul, Nat.reduceLT, natV, intV, putAt, idxOk, flatP, *, replicaV]
    | simp (singlePass := true) (maxDischargeDepth := 99) only [*, S2, Nat.reduceLT, replicaV])
      · have e := Option.some.inj ho
        subst e
        have d11 : (gF 30) = .agg #[hv, rv] := hdep ⟨11, .data⟩ (by simp) rfl _ _ rfl rfl
        have d12 : (gF 31) = intV svc := hdep ⟨12, .data⟩ (by simp) rfl _ _ rfl rfl
        have d7 : (gF 26) = .bool true := hdep ⟨7, .guard⟩ (by simp) rfl _ _ rfl rfl
        clear hag hdep ho
        refine relStep_on (j := 7) (want := true) (t := 26) rfl rfl (by rw [d7]; rfl) ?_
        (repeat' first
    | with_reducible refine alloc_k fun _ _ _ _ _ _ => ?_
    | ((with_reducible refine at_row ?_); refine row1_k (by rfl) (by decide) fun _ _ _ _ _ _ _ => ?_)
    | with_reducible refine row_k fun _ _ _ _ _ _ => ?_
    | with_reducible refine fork (fun _ => ?_) (fun _ => ?_)
    | with_reducible refine forkp (fun _ => ?_) (fun _ => ?_)
    | with_reducible refine forke (fun _ => ?_) (fun _ _ => ?_)
    | with_reducible refine tail_k fun _ _ _ => ?_
    | with_reducible refine ext_k fun _ _ _ => ?_
    | with_reducible refine need (by first | kernel_rfl | omega | assumption) ?_
    | with_reducible refine st_agg (by kernel_rfl) rfl (by simp only [natV, intV, S3, *]) fun _ _ _ _ => ?_
    | with_reducible refine wpd_quiet_lit (by kernel_rfl) (by kernel_rfl) (by kernel_rfl) ?_
    | ((with_reducible refine at_f 19 ?_); refine ret_k (worldRuns (B := B) FR (hX _ FR) hlen.out) fun _ _ _ => ?_)
    | ((with_reducible refine at_f 20 ?_); refine ret_k (ref13Runs (B := B) FR (hX _ FR) hlen.out) fun _ _ _ => ?_)
    | ((with_reducible refine at_f 21 ?_); refine ret_k (ref12Ints (a := whereL x svc) (b := whereL x svc) (Nat.le_refl _) (Nat.le_refl _) (d10.sl1 (f := intV)) (d13.sl1 (f := intV))) fun _ _ _ => ?_)
    | ((with_reducible refine at_f 24 ?_); refine ret_k (worldHas (r := ⟨svc, host⟩) (B := B) FR (hX _ FR)) fun _ _ _ => ?_)
    | ((with_reducible refine at_f 25 ?_); refine ret_k (ref13Has (r := ⟨svc, host⟩) (B := B) FR (hX _ FR)) fun _ _ _ => ?_)
    | ((with_reducible refine at_f 26 ?_); refine ret_k (worldUsed (B := B) FR (hW _ FR) (hX _ FR)) fun _ _ _ => ?_)
    | ((with_reducible refine at_f 27 ?_); refine ret_k (ref13Used (B := B) FR (hW _ FR) (hX _ FR)) fun _ _ _ => ?_)
    | ((with_reducible refine at_f 11 ?_); refine ret_k (live13) fun _ _ _ => ?_)
    | simp (maxDischargeDepth := 3) only [↓X, ↓Y, ↓Q, S1, ↓reduceIte, Nat.reduceEqDiff, Nat.reduceAdd, Int.reduceLT, Int.reduceLE, Int.reduceNeg, Int.reduceBEq, Int.reduceBNe, Int.reduceEq, Nat.reduceLeDiff, Nat.reduceMul, Nat.reduceLT, natV, intV, putAt, idxOk, flatP, *, replicaV]
    | simp (singlePass := true) (maxDischargeDepth := 99) only [*, S2, Nat.reduceLT, replicaV])
        refine CallsV.mono (ref13Where (B := B) FR (hX _ FR) hlen.out) fun v w10 hh => ⟨hh.1, Own.more hh.2 z9⟩
      · have e := Option.some.inj ho
        subst e
        have d10 : Own w9 w1.heap.size 3 1 (gF 29) ((whereL x svc).map intC) := hdep ⟨10, .data⟩ (by simp) rfl _ _ rfl rfl
        have d13 : Own w9 w1.heap.size 3 1 (gF 32) ((whereL x svc).map intC) := hdep ⟨13, .data⟩ (by simp) rfl _ _ rfl rfl
        have d7 : (gF 26) = .bool true := hdep ⟨7, .guard⟩ (by simp) rfl _ _ rfl rfl
        clear hag hdep ho
        refine relStep_on (j := 7) (want := true) (t := 26) rfl rfl (by rw [d7]; rfl) ?_
        (repeat' first
    | with_reducible refine alloc_k fun _ _ _ _ _ _ => ?_
    | ((with_reducible refine at_row ?_); refine row1_k (by rfl) (by decide) fun _ _ _ _ _ _ _ => ?_)
    | with_reducible refine row_k fun _ _ _ _ _ _ => ?_
    | with_reducible refine fork (fun _ => ?_) (fun _ => ?_)
    | with_reducible refine forkp (fun _ => ?_) (fun _ => ?_)
    | with_reducible refine forke (fun _ => ?_) (fun _ _ => ?_)
    | with_reducible refine tail_k fun _ _ _ => ?_
    | with_reducible refine ext_k fun _ _ _ => ?_
    | with_reducible refine need (by first | kernel_rfl | omega | assumption) ?_
    | with_reducible refine st_agg (by kernel_rfl) rfl (by simp only [natV, intV, S3, *]) fun _ _ _ _ => ?_
    | with_reducible refine wpd_quiet_lit (by kernel_rfl) (by kernel_rfl) (by kernel_rfl) ?_
    | ((with_reducible refine at_f 19 ?_); refine ret_k (worldRuns (B := B) FR (hX _ FR) hlen.out) fun _ _ _ => ?_)
    | ((with_reducible refine at_f 20 ?_); refine ret_k (ref13Runs (B := B) FR (hX _ FR) hlen.out) fun _ _ _ => ?_)
    | ((with_reducible refine at_f 21 ?_); refine ret_k (ref12Ints (a := whereL x svc) (b := whereL x svc) (Nat.le_refl _) (Nat.le_refl _) (d10.sl1 (f := intV)) (d13.sl1 (f := intV))) fun _ _ _ => ?_)
    | ((with_reducible refine at_f 24 ?_); refine ret_k (worldHas (r := ⟨svc, host⟩) (B := B) FR (hX _ FR)) fun _ _ _ => ?_)
    | ((with_reducible refine at_f 25 ?_); refine ret_k (ref13Has (r := ⟨svc, host⟩) (B := B) FR (hX _ FR)) fun _ _ _ => ?_)
    | ((with_reducible refine at_f 26 ?_); refine ret_k (worldUsed (B := B) FR (hW _ FR) (hX _ FR)) fun _ _ _ => ?_)
    | ((with_reducible refine at_f 27 ?_); refine ret_k (ref13Used (B := B) FR (hW _ FR) (hX _ FR)) fun _ _ _ => ?_)
    | ((with_reducible refine at_f 11 ?_); refine ret_k (live13) fun _ _ _ => ?_)
    | simp (maxDischargeDepth := 3) only [↓X, ↓Y, ↓Q, S1, ↓reduceIte, Nat.reduceEqDiff, Nat.reduceAdd, Int.reduceLT, Int.reduceLE, Int.reduceNeg, Int.reduceBEq, Int.reduceBNe, Int.reduceEq, Nat.reduceLeDiff, Nat.reduceMul, Nat.reduceLT, natV, intV, putAt, idxOk, flatP, *, replicaV]
    | simp (singlePass := true) (maxDischargeDepth := 99) only [*, S2, Nat.reduceLT, replicaV])
      · have e := Option.some.inj ho
        subst e
        have d7 : (gF 26) = .bool true := hdep ⟨7, .data⟩ (by simp) rfl _ _ rfl rfl
        have d14 : (gF 33) = .bool true := hdep ⟨14, .data⟩ (by simp) rfl _ _ rfl rfl
        clear hag hdep ho
        refine relStep_off rfl ?_
        (repeat' first
    | with_reducible refine alloc_k fun _ _ _ _ _ _ => ?_
    | ((with_reducible refine at_row ?_); refine row1_k (by rfl) (by decide) fun _ _ _ _ _ _ _ => ?_)
    | with_reducible refine row_k fun _ _ _ _ _ _ => ?_
    | with_reducible refine fork (fun _ => ?_) (fun _ => ?_)
    | with_reducible refine forkp (fun _ => ?_) (fun _ => ?_)
    | with_reducible refine forke (fun _ => ?_) (fun _ _ => ?_)
    | with_reducible refine tail_k fun _ _ _ => ?_
    | with_reducible refine ext_k fun _ _ _ => ?_
    | with_reducible refine need (by first | kernel_rfl | omega | assumption) ?_
    | with_reducible refine st_agg (by kernel_rfl) rfl (by simp only [natV, intV, S3, *]) fun _ _ _ _ => ?_
    | with_reducible refine wpd_quiet_lit (by kernel_rfl) (by kernel_rfl) (by kernel_rfl) ?_
    | ((with_reducible refine at_f 19 ?_); refine ret_k (worldRuns (B := B) FR (hX _ FR) hlen.out) fun _ _ _ => ?_)
    | ((with_reducible refine at_f 20 ?_); refine ret_k (ref13Runs (B := B) FR (hX _ FR) hlen.out) fun _ _ _ => ?_)
    | ((with_reducible refine at_f 21 ?_); refine ret_k (ref12Ints (a := whereL x svc) (b := whereL x svc) (Nat.le_refl _) (Nat.le_refl _) (d10.sl1 (f := intV)) (d13.sl1 (f := intV))) fun _ _ _ => ?_)
    | ((with_reducible refine at_f 24 ?_); refine ret_k (worldHas (r := ⟨svc, host⟩) (B := B) FR (hX _ FR)) fun _ _ _ => ?_)
    | ((with_reducible refine at_f 25 ?_); refine ret_k (ref13Has (r := ⟨svc, host⟩) (B := B) FR (hX _ FR)) fun _ _ _ => ?_)
    | ((with_reducible refine at_f 26 ?_); refine ret_k (worldUsed (B := B) FR (hW _ FR) (hX _ FR)) fun _ _ _ => ?_)
    | ((with_reducible refine at_f 27 ?_); refine ret_k (ref13Used (B := B) FR (hW _ FR) (hX _ FR)) fun _ _ _ => ?_)
    | ((with_reducible refine at_f 11 ?_); refine ret_k (live13) fun _ _ _ => ?_)
    | simp (maxDischargeDepth := 3) only [↓X, ↓Y, ↓Q, S1, ↓reduceIte, Nat.reduceEqDiff, Nat.reduceAdd, Int.reduceLT, Int.reduceLE, Int.reduceNeg, Int.reduceBEq, Int.reduceBNe, Int.reduceEq, Nat.reduceLeDiff, Nat.reduceMul, Nat.reduceLT, natV, intV, putAt, idxOk, flatP, *, replicaV]
    | simp (singlePass := true) (maxDischargeDepth := 99) only [*, S2, Nat.reduceLT, replicaV])
      · have e := Option.some.inj ho
        subst e
        have d15 : (gF 34) = .bool true := hdep ⟨15, .data⟩ (by simp) rfl _ _ rfl rfl
        clear hag hdep ho
        refine relStep_off rfl ?_
        (repeat' first
    | with_reducible refine alloc_k fun _ _ _ _ _ _ => ?_
    | ((with_reducible refine at_row ?_); refine row1_k (by rfl) (by decide) fun _ _ _ _ _ _ _ => ?_)
    | with_reducible refine row_k fun _ _ _ _ _ _ => ?_
    | with_reducible refine fork (fun _ => ?_) (fun _ => ?_)
    | with_reducible refine forkp (fun _ => ?_) (fun _ => ?_)
    | with_reducible refine forke (fun _ => ?_) (fun _ _ => ?_)
    | with_reducible refine tail_k fun _ _ _ => ?_
    | with_reducible refine ext_k fun _ _ _ => ?_
    | with_reducible refine need (by first | kernel_rfl | omega | assumption) ?_
    | with_reducible refine st_agg (by kernel_rfl) rfl (by simp only [natV, intV, S3, *]) fun _ _ _ _ => ?_
    | with_reducible refine wpd_quiet_lit (by kernel_rfl) (by kernel_rfl) (by kernel_rfl) ?_
    | ((with_reducible refine at_f 19 ?_); refine ret_k (worldRuns (B := B) FR (hX _ FR) hlen.out) fun _ _ _ => ?_)
    | ((with_reducible refine at_f 20 ?_); refine ret_k (ref13Runs (B := B) FR (hX _ FR) hlen.out) fun _ _ _ => ?_)
    | ((with_reducible refine at_f 21 ?_); refine ret_k (ref12Ints (a := whereL x svc) (b := whereL x svc) (Nat.le_refl _) (Nat.le_refl _) (d10.sl1 (f := intV)) (d13.sl1 (f := intV))) fun _ _ _ => ?_)
    | ((with_reducible refine at_f 24 ?_); refine ret_k (worldHas (r := ⟨svc, host⟩) (B := B) FR (hX _ FR)) fun _ _ _ => ?_)
    | ((with_reducible refine at_f 25 ?_); refine ret_k (ref13Has (r := ⟨svc, host⟩) (B := B) FR (hX _ FR)) fun _ _ _ => ?_)
    | ((with_reducible refine at_f 26 ?_); refine ret_k (worldUsed (B := B) FR (hW _ FR) (hX _ FR)) fun _ _ _ => ?_)
    | ((with_reducible refine at_f 27 ?_); refine ret_k (ref13Used (B := B) FR (hW _ FR) (hX _ FR)) fun _ _ _ => ?_)
    | ((with_reducible refine at_f 11 ?_); refine ret_k (live13) fun _ _ _ => ?_)
    | simp (maxDischargeDepth := 3) only [↓X, ↓Y, ↓Q, S1, ↓reduceIte, Nat.reduceEqDiff, Nat.reduceAdd, Int.reduceLT, Int.reduceLE, Int.reduceNeg, Int.reduceBEq, Int.reduceBNe, Int.reduceEq, Nat.reduceLeDiff, Nat.reduceMul, Nat.reduceLT, natV, intV, putAt, idxOk, flatP, *, replicaV]
    | simp (singlePass := true) (maxDischargeDepth := 99) only [*, S2, Nat.reduceLT, replicaV])
      · have e := Option.some.inj ho
        subst e
        have a5 := hag.at 5 (by kernel_rfl)
        simp only [U, ↓reduceIte, Nat.reduceEqDiff, initF, U2, List.getElem?_cons_zero, List.getElem?_cons_succ, *] at a5
        have d16 : (gF 35) = .bool true := hdep ⟨16, .guard⟩ (by simp) rfl _ _ rfl rfl
        clear hag hdep ho
        refine relStep_on (j := 16) (want := true) (t := 35) rfl rfl (by rw [d16]; rfl) ?_
        (repeat' first
    | with_reducible refine alloc_k fun _ _ _ _ _ _ => ?_
    | ((with_reducible refine at_row ?_); refine row1_k (by rfl) (by decide) fun _ _ _ _ _ _ _ => ?_)
    | with_reducible refine row_k fun _ _ _ _ _ _ => ?_
    | with_reducible refine fork (fun _ => ?_) (fun _ => ?_)
    | with_reducible refine forkp (fun _ => ?_) (fun _ => ?_)
    | with_reducible refine forke (fun _ => ?_) (fun _ _ => ?_)
    | with_reducible refine tail_k fun _ _ _ => ?_
    | with_reducible refine ext_k fun _ _ _ => ?_
    | with_reducible refine need (by first | kernel_rfl | omega | assumption) ?_
    | with_reducible refine st_agg (by kernel_rfl) rfl (by simp only [natV, intV, S3, *]) fun _ _ _ _ => ?_
    | with_reducible refine wpd_quiet_lit (by kernel_rfl) (by kernel_rfl) (by kernel_rfl) ?_
    | ((with_reducible refine at_f 19 ?_); refine ret_k (worldRuns (B := B) FR (hX _ FR) hlen.out) fun _ _ _ => ?_)
    | ((with_reducible refine at_f 20 ?_); refine ret_k (ref13Runs (B := B) FR (hX _ FR) hlen.out) fun _ _ _ => ?_)
    | ((with_reducible refine at_f 21 ?_); refine ret_k (ref12Ints (a := whereL x svc) (b := whereL x svc) (Nat.le_refl _) (Nat.le_refl _) (d10.sl1 (f := intV)) (d13.sl1 (f := intV))) fun _ _ _ => ?_)
    | ((with_reducible refine at_f 24 ?_); refine ret_k (worldHas (r := ⟨svc, host⟩) (B := B) FR (hX _ FR)) fun _ _ _ => ?_)
    | ((with_reducible refine at_f 25 ?_); refine ret_k (ref13Has (r := ⟨svc, host⟩) (B := B) FR (hX _ FR)) fun _ _ _ => ?_)
    | ((with_reducible refine at_f 26 ?_); refine ret_k (worldUsed (B := B) FR (hW _ FR) (hX _ FR)) fun _ _ _ => ?_)
    | ((with_reducible refine at_f 27 ?_); refine ret_k (ref13Used (B := B) FR (hW _ FR) (hX _ FR)) fun _ _ _ => ?_)
    | ((with_reducible refine at_f 11 ?_); refine ret_k (live13) fun _ _ _ => ?_)
    | simp (maxDischargeDepth := 3) only [↓X, ↓Y, ↓Q, S1, ↓reduceIte, Nat.reduceEqDiff, Nat.reduceAdd, Int.reduceLT, Int.reduceLE, Int.reduceNeg, Int.reduceBEq, Int.reduceBNe, Int.reduceEq, Nat.reduceLeDiff, Nat.reduceMul, Nat.reduceLT, natV, intV, putAt, idxOk, flatP, *, replicaV]
    | simp (singlePass := true) (maxDischargeDepth := 99) only [*, S2, Nat.reduceLT, replicaV])
      · have e := Option.some.inj ho
        subst e
        have a9 := hag.at 9 (by kernel_rfl)
        simp only [U, ↓reduceIte, Nat.reduceEqDiff, initF, U2, List.getElem?_cons_zero, List.getElem?_cons_succ, *] at a9
        have d16 : (gF 35) = .bool true := hdep ⟨16, .guard⟩ (by simp) rfl _ _ rfl rfl
        clear hag hdep ho
        refine relStep_on (j := 16) (want := true) (t := 35) rfl rfl (by rw [d16]; rfl) ?_
        (repeat' first
    | with_reducible refine alloc_k fun _ _ _ _ _ _ => ?_
    | ((with_reducible refine at_row ?_); refine row1_k (by rfl) (by decide) fun _ _ _ _ _ _ _ => ?_)
    | with_reducible refine row_k fun _ _ _ _ _ _ => ?_
    | with_reducible refine fork (fun _ => ?_) (fun _ => ?_)
    | with_reducible refine forkp (fun _ => ?_) (fun _ => ?_)
    | with_reducible refine forke (fun _ => ?_) (fun _ _ => ?_)
    | with_reducible refine tail_k fun _ _ _ => ?_
    | with_reducible refine ext_k fun _ _ _ => ?_
    | with_reducible refine need (by first | kernel_rfl | omega | assumption) ?_
    | with_reducible refine st_agg (by kernel_rfl) rfl (by simp only [natV, intV, S3, *]) fun _ _ _ _ => ?_
    | with_reducible refine wpd_quiet_lit (by kernel_rfl) (by kernel_rfl) (by kernel_rfl) ?_
    | ((with_reducible refine at_f 19 ?_); refine ret_k (worldRuns (B := B) FR (hX _ FR) hlen.out) fun _ _ _ => ?_)
    | ((with_reducible refine at_f 20 ?_); refine ret_k (ref13Runs (B := B) FR (hX _ FR) hlen.out) fun _ _ _ => ?_)
    | ((with_reducible refine at_f 21 ?_); refine ret_k (ref12Ints (a := whereL x svc) (b := whereL x svc) (Nat.le_refl _) (Nat.le_refl _) (d10.sl1 (f := intV)) (d13.sl1 (f := intV))) fun _ _ _ => ?_)
    | ((with_reducible refine at_f 24 ?_); refine ret_k (worldHas (r := ⟨svc, host⟩) (B := B) FR (hX _ FR)) fun _ _ _ => ?_)
    | ((with_reducible refine at_f 25 ?_); refine ret_k (ref13Has (r := ⟨svc, host⟩) (B := B) FR (hX _ FR)) fun _ _ _ => ?_)
    | ((with_reducible refine at_f 26 ?_); refine ret_k (worldUsed (B := B) FR (hW _ FR) (hX _ FR)) fun _ _ _ => ?_)
    | ((with_reducible refine at_f 27 ?_); refine ret_k (ref13Used (B := B) FR (hW _ FR) (hX _ FR)) fun _ _ _ => ?_)
    | ((with_reducible refine at_f 11 ?_); refine ret_k (live13) fun _ _ _ => ?_)
    | simp (maxDischargeDepth := 3) only [↓X, ↓Y, ↓Q, S1, ↓reduceIte, Nat.reduceEqDiff, Nat.reduceAdd, Int.reduceLT, Int.reduceLE, Int.reduceNeg, Int.reduceBEq, Int.reduceBNe, Int.reduceEq, Nat.reduceLeDiff, Nat.reduceMul, Nat.reduceLT, natV, intV, putAt, idxOk, flatP, *, replicaV]
    | simp (singlePass := true) (maxDischargeDepth := 99) only [*, S2, Nat.reduceLT, replicaV])
      · have e := Option.some.inj ho
        subst e
        have d17 : (gF 36) = .agg #[hv, rv] := hdep ⟨17, .data⟩ (by simp) rfl _ _ rfl rfl
        have d18 : (gF 37) = .agg #[intV svc, intV host] := hdep ⟨18, .data⟩ (by simp) rfl _ _ rfl rfl
        have d16 : (gF 35) = .bool true := hdep ⟨16, .guard⟩ (by simp) rfl _ _ rfl rfl
        clear hag hdep ho
        refine relStep_on (j := 16) (want := true) (t := 35) rfl rfl (by rw [d16]; rfl) ?_
        (repeat' first
    | with_reducible refine alloc_k fun _ _ _ _ _ _ => ?_
    | ((with_reducible refine at_row ?_); refine row1_k (by rfl) (by decide) fun _ _ _ _ _ _ _ => ?_)
    | with_reducible refine row_k fun _ _ _ _ _ _ => ?_
    | with_reducible refine fork (fun _ => ?_) (fun _ => ?_)
    | with_reducible refine forkp (fun _ => ?_) (fun _ => ?_)
    | with_reducible refine forke (fun _ => ?_) (fun _ _ => ?_)
    | with_reducible refine tail_k fun _ _ _ => ?_
    | with_reducible refine ext_k fun _ _ _ => ?_
    | with_reducible refine need (by first | kernel_rfl | omega | assumption) ?_
    | with_reducible refine st_agg (by kernel_rfl) rfl (by simp only [natV, intV, S3, *]) fun _ _ _ _ => ?_
    | with_reducible refine wpd_quiet_lit (by kernel_rfl) (by kernel_rfl) (by kernel_rfl) ?_
    | ((with_reducible refine at_f 19 ?_); refine ret_k (worldRuns (B := B) FR (hX _ FR) hlen.out) fun _ _ _ => ?_)
    | ((with_reducible refine at_f 20 ?_); refine ret_k (ref13Runs (B := B) FR (hX _ FR) hlen.out) fun _ _ _ => ?_)
    | ((with_reducible refine at_f 21 ?_); refine ret_k (ref12Ints (a := whereL x svc) (b := whereL x svc) (Nat.le_refl _) (Nat.le_refl _) (d10.sl1 (f := intV)) (d13.sl1 (f := intV))) fun _ _ _ => ?_)
    | ((with_reducible refine at_f 24 ?_); refine ret_k (worldHas (r := ⟨svc, host⟩) (B := B) FR (hX _ FR)) fun _ _ _ => ?_)
    | ((with_reducible refine at_f 25 ?_); refine ret_k (ref13Has (r := ⟨svc, host⟩) (B := B) FR (hX _ FR)) fun _ _ _ => ?_)
    | ((with_reducible refine at_f 26 ?_); refine ret_k (worldUsed (B := B) FR (hW _ FR) (hX _ FR)) fun _ _ _ => ?_)
    | ((with_reducible refine at_f 27 ?_); refine ret_k (ref13Used (B := B) FR (hW _ FR) (hX _ FR)) fun _ _ _ => ?_)
    | ((with_reducible refine at_f 11 ?_); refine ret_k (live13) fun _ _ _ => ?_)
    | simp (maxDischargeDepth := 3) only [↓X, ↓Y, ↓Q, S1, ↓reduceIte, Nat.reduceEqDiff, Nat.reduceAdd, Int.reduceLT, Int.reduceLE, Int.reduceNeg, Int.reduceBEq, Int.reduceBNe, Int.reduceEq, Nat.reduceLeDiff, Nat.reduceMul, Nat.reduceLT, natV, intV, putAt, idxOk, flatP, *, replicaV]
    | simp (singlePass := true) (maxDischargeDepth := 99) only [*, S2, Nat.reduceLT, replicaV])
      · have e := Option.some.inj ho
        subst e
        have a5 := hag.at 5 (by kernel_rfl)
        simp only [U, ↓reduceIte, Nat.reduceEqDiff, initF, U2, List.getElem?_cons_zero, List.getElem?_cons_succ, *] at a5
        have d16 : (gF 35) = .bool true := hdep ⟨16, .guard⟩ (by simp) rfl _ _ rfl rfl
        clear hag hdep ho
        refine relStep_on (j := 16) (want := true) (t := 35) rfl rfl (by rw [d16]; rfl) ?_
        (repeat' first
    | with_reducible refine alloc_k fun _ _ _ _ _ _ => ?_
    | ((with_reducible refine at_row ?_); refine row1_k (by rfl) (by decide) fun _ _ _ _ _ _ _ => ?_)
    | with_reducible refine row_k fun _ _ _ _ _ _ => ?_
    | with_reducible refine fork (fun _ => ?_) (fun _ => ?_)
    | with_reducible refine forkp (fun _ => ?_) (fun _ => ?_)
    | with_reducible refine forke (fun _ => ?_) (fun _ _ => ?_)
    | with_reducible refine tail_k fun _ _ _ => ?_
    | with_reducible refine ext_k fun _ _ _ => ?_
    | with_reducible refine need (by first | kernel_rfl | omega | assumption) ?_
    | with_reducible refine st_agg (by kernel_rfl) rfl (by simp only [natV, intV, S3, *]) fun _ _ _ _ => ?_
    | with_reducible refine wpd_quiet_lit (by kernel_rfl) (by kernel_rfl) (by kernel_rfl) ?_
    | ((with_reducible refine at_f 19 ?_); refine ret_k (worldRuns (B := B) FR (hX _ FR) hlen.out) fun _ _ _ => ?_)
    | ((with_reducible refine at_f 20 ?_); refine ret_k (ref13Runs (B := B) FR (hX _ FR) hlen.out) fun _ _ _ => ?_)
    | ((with_reducible refine at_f 21 ?_); refine ret_k (ref12Ints (a := whereL x svc) (b := whereL x svc) (Nat.le_refl _) (Nat.le_refl _) (d10.sl1 (f := intV)) (d13.sl1 (f := intV))) fun _ _ _ => ?_)
    | ((with_reducible refine at_f 24 ?_); refine ret_k (worldHas (r := ⟨svc, host⟩) (B := B) FR (hX _ FR)) fun _ _ _ => ?_)
    | ((with_reducible refine at_f 25 ?_); refine ret_k (ref13Has (r := ⟨svc, host⟩) (B := B) FR (hX _ FR)) fun _ _ _ => ?_)
    | ((with_reducible refine at_f 26 ?_); refine ret_k (worldUsed (B := B) FR (hW _ FR) (hX _ FR)) fun _ _ _ => ?_)
    | ((with_reducible refine at_f 27 ?_); refine ret_k (ref13Used (B := B) FR (hW _ FR) (hX _ FR)) fun _ _ _ => ?_)
    | ((with_reducible refine at_f 11 ?_); refine ret_k (live13) fun _ _ _ => ?_)
    | simp (maxDischargeDepth := 3) only [↓X, ↓Y, ↓Q, S1, ↓reduceIte, Nat.reduceEqDiff, Nat.reduceAdd, Int.reduceLT, Int.reduceLE, Int.reduceNeg, Int.reduceBEq, Int.reduceBNe, Int.reduceEq, Nat.reduceLeDiff, Nat.reduceMul, Nat.reduceLT, natV, intV, putAt, idxOk, flatP, *, replicaV]
    | simp (singlePass := true) (maxDischargeDepth := 99) only [*, S2, Nat.reduceLT, replicaV])
      · have e := Option.some.inj ho
        subst e
        have a9 := hag.at 9 (by kernel_rfl)
        simp only [U, ↓reduceIte, Nat.reduceEqDiff, initF, U2, List.getElem?_cons_zero, List.getElem?_cons_succ, *] at a9
        have d16 : (gF 35) = .bool true := hdep ⟨16, .guard⟩ (by simp) rfl _ _ rfl rfl
        clear hag hdep ho
        refine relStep_on (j := 16) (want := true) (t := 35) rfl rfl (by rw [d16]; rfl) ?_
        (repeat' first
    | with_reducible refine alloc_k fun _ _ _ _ _ _ => ?_
    | ((with_reducible refine at_row ?_); refine row1_k (by rfl) (by decide) fun _ _ _ _ _ _ _ => ?_)
    | with_reducible refine row_k fun _ _ _ _ _ _ => ?_
    | with_reducible refine fork (fun _ => ?_) (fun _ => ?_)
    | with_reducible refine forkp (fun _ => ?_) (fun _ => ?_)
    | with_reducible refine forke (fun _ => ?_) (fun _ _ => ?_)
    | with_reducible refine tail_k fun _ _ _ => ?_
    | with_reducible refine ext_k fun _ _ _ => ?_
    | with_reducible refine need (by first | kernel_rfl | omega | assumption) ?_
    | with_reducible refine st_agg (by kernel_rfl) rfl (by simp only [natV, intV, S3, *]) fun _ _ _ _ => ?_
    | with_reducible refine wpd_quiet_lit (by kernel_rfl) (by kernel_rfl) (by kernel_rfl) ?_
    | ((with_reducible refine at_f 19 ?_); refine ret_k (worldRuns (B := B) FR (hX _ FR) hlen.out) fun _ _ _ => ?_)
    | ((with_reducible refine at_f 20 ?_); refine ret_k (ref13Runs (B := B) FR (hX _ FR) hlen.out) fun _ _ _ => ?_)
    | ((with_reducible refine at_f 21 ?_); refine ret_k (ref12Ints (a := whereL x svc) (b := whereL x svc) (Nat.le_refl _) (Nat.le_refl _) (d10.sl1 (f := intV)) (d13.sl1 (f := intV))) fun _ _ _ => ?_)
    | ((with_reducible refine at_f 24 ?_); refine ret_k (worldHas (r := ⟨svc, host⟩) (B := B) FR (hX _ FR)) fun _ _ _ => ?_)
    | ((with_reducible refine at_f 25 ?_); refine ret_k (ref13Has (r := ⟨svc, host⟩) (B := B) FR (hX _ FR)) fun _ _ _ => ?_)
    | ((with_reducible refine at_f 26 ?_); refine ret_k (worldUsed (B := B) FR (hW _ FR) (hX _ FR)) fun _ _ _ => ?_)
    | ((with_reducible refine at_f 27 ?_); refine ret_k (ref13Used (B := B) FR (hW _ FR) (hX _ FR)) fun _ _ _ => ?_)
    | ((with_reducible refine at_f 11 ?_); refine ret_k (live13) fun _ _ _ => ?_)
    | simp (maxDischargeDepth := 3) only [↓X, ↓Y, ↓Q, S1, ↓reduceIte, Nat.reduceEqDiff, Nat.reduceAdd, Int.reduceLT, Int.reduceLE, Int.reduceNeg, Int.reduceBEq, Int.reduceBNe, Int.reduceEq, Nat.reduceLeDiff, Nat.reduceMul, Nat.reduceLT, natV, intV, putAt, idxOk, flatP, *, replicaV]
    | simp (singlePass := true) (maxDischargeDepth := 99) only [*, S2, Nat.reduceLT, replicaV])
      · have e := Option.some.inj ho
        subst e
        have d20 : (gF 39) = .agg #[hv, rv] := hdep ⟨20, .data⟩ (by simp) rfl _ _ rfl rfl
        have d21 : (gF 40) = .agg #[intV svc, intV host] := hdep ⟨21, .data⟩ (by simp) rfl _ _ rfl rfl
        have d16 : (gF 35) = .bool true := hdep ⟨16, .guard⟩ (by simp) rfl _ _ rfl rfl
        clear hag hdep ho
        refine relStep_on (j := 16) (want := true) (t := 35) rfl rfl (by rw [d16]; rfl) ?_
        (repeat' first
    | with_reducible refine alloc_k fun _ _ _ _ _ _ => ?_
    | ((with_reducible refine at_row ?_); refine row1_k (by rfl) (by decide) fun _ _ _ _ _ _ _ => ?_)
    | with_reducible refine row_k fun _ _ _ _ _ _ => ?_
    | with_reducible refine fork (fun _ => ?_) (fun _ => ?_)
    | with_reducible refine forkp (fun _ => ?_) (fun _ => ?_)
    | with_reducible refine forke (fun _ => ?_) (fun _ _ => ?_)
    | with_reducible refine tail_k fun _ _ _ => ?_
    | with_reducible refine ext_k fun _ _ _ => ?_
    | with_reducible refine need (by first | kernel_rfl | omega | assumption) ?_
    | with_reducible refine st_agg (by kernel_rfl) rfl (by simp only [natV, intV, S3, *]) fun _ _ _ _ => ?_
    | with_reducible refine wpd_quiet_lit (by kernel_rfl) (by kernel_rfl) (by kernel_rfl) ?_
    | ((with_reducible refine at_f 19 ?_); refine ret_k (worldRuns (B := B) FR (hX _ FR) hlen.out) fun _ _ _ => ?_)
    | ((with_reducible refine at_f 20 ?_); refine ret_k (ref13Runs (B := B) FR (hX _ FR) hlen.out) fun _ _ _ => ?_)
    | ((with_reducible refine at_f 21 ?_); refine ret_k (ref12Ints (a := whereL x svc) (b := whereL x svc) (Nat.le_refl _) (Nat.le_refl _) (d10.sl1 (f := intV)) (d13.sl1 (f := intV))) fun _ _ _ => ?_)
    | ((with_reducible refine at_f 24 ?_); refine ret_k (worldHas (r := ⟨svc, host⟩) (B := B) FR (hX _ FR)) fun _ _ _ => ?_)
    | ((with_reducible refine at_f 25 ?_); refine ret_k (ref13Has (r := ⟨svc, host⟩) (B := B) FR (hX _ FR)) fun _ _ _ => ?_)
    | ((with_reducible refine at_f 26 ?_); refine ret_k (worldUsed (B := B) FR (hW _ FR) (hX _ FR)) fun _ _ _ => ?_)
    | ((with_reducible refine at_f 27 ?_); refine ret_k (ref13Used (B := B) FR (hW _ FR) (hX _ FR)) fun _ _ _ => ?_)
    | ((with_reducible refine at_f 11 ?_); refine ret_k (live13) fun _ _ _ => ?_)
    | simp (maxDischargeDepth := 3) only [↓X, ↓Y, ↓Q, S1, ↓reduceIte, Nat.reduceEqDiff, Nat.reduceAdd, Int.reduceLT, Int.reduceLE, Int.reduceNeg, Int.reduceBEq, Int.reduceBNe, Int.reduceEq, Nat.reduceLeDiff, Nat.reduceMul, Nat.reduceLT, natV, intV, putAt, idxOk, flatP, *, replicaV]
    | simp (singlePass := true) (maxDischargeDepth := 99) only [*, S2, Nat.reduceLT, replicaV])
      · have e := Option.some.inj ho
        subst e
        have d19 : (gF 38) = .bool (hasB x.replicas ⟨svc, host⟩) := hdep ⟨19, .data⟩ (by simp) rfl _ _ rfl rfl
        have d22 : (gF 41) = .bool (hasB x.replicas ⟨svc, host⟩) := hdep ⟨22, .data⟩ (by simp) rfl _ _ rfl rfl
        have d16 : (gF 35) = .bool true := hdep ⟨16, .guard⟩ (by simp) rfl _ _ rfl rfl
        clear hag hdep ho
        refine relStep_on (j := 16) (want := true) (t := 35) rfl rfl (by rw [d16]; rfl) ?_
        (repeat' first
    | with_reducible refine alloc_k fun _ _ _ _ _ _ => ?_
    | ((with_reducible refine at_row ?_); refine row1_k (by rfl) (by decide) fun _ _ _ _ _ _ _ => ?_)
    | with_reducible refine row_k fun _ _ _ _ _ _ => ?_
    | with_reducible refine fork (fun _ => ?_) (fun _ => ?_)
    | with_reducible refine forkp (fun _ => ?_) (fun _ => ?_)
    | with_reducible refine forke (fun _ => ?_) (fun _ _ => ?_)
    | with_reducible refine tail_k fun _ _ _ => ?_
    | with_reducible refine ext_k fun _ _ _ => ?_
    | with_reducible refine need (by first | kernel_rfl | omega | assumption) ?_
    | with_reducible refine st_agg (by kernel_rfl) rfl (by simp only [natV, intV, S3, *]) fun _ _ _ _ => ?_
    | with_reducible refine wpd_quiet_lit (by kernel_rfl) (by kernel_rfl) (by kernel_rfl) ?_
    | ((with_reducible refine at_f 19 ?_); refine ret_k (worldRuns (B := B) FR (hX _ FR) hlen.out) fun _ _ _ => ?_)
    | ((with_reducible refine at_f 20 ?_); refine ret_k (ref13Runs (B := B) FR (hX _ FR) hlen.out) fun _ _ _ => ?_)
    | ((with_reducible refine at_f 21 ?_); refine ret_k (ref12Ints (a := whereL x svc) (b := whereL x svc) (Nat.le_refl _) (Nat.le_refl _) (d10.sl1 (f := intV)) (d13.sl1 (f := intV))) fun _ _ _ => ?_)
    | ((with_reducible refine at_f 24 ?_); refine ret_k (worldHas (r := ⟨svc, host⟩) (B := B) FR (hX _ FR)) fun _ _ _ => ?_)
    | ((with_reducible refine at_f 25 ?_); refine ret_k (ref13Has (r := ⟨svc, host⟩) (B := B) FR (hX _ FR)) fun _ _ _ => ?_)
    | ((with_reducible refine at_f 26 ?_); refine ret_k (worldUsed (B := B) FR (hW _ FR) (hX _ FR)) fun _ _ _ => ?_)
    | ((with_reducible refine at_f 27 ?_); refine ret_k (ref13Used (B := B) FR (hW _ FR) (hX _ FR)) fun _ _ _ => ?_)
    | ((with_reducible refine at_f 11 ?_); refine ret_k (live13) fun _ _ _ => ?_)
    | simp (maxDischargeDepth := 3) only [↓X, ↓Y, ↓Q, S1, ↓reduceIte, Nat.reduceEqDiff, Nat.reduceAdd, Int.reduceLT, Int.reduceLE, Int.reduceNeg, Int.reduceBEq, Int.reduceBNe, Int.reduceEq, Nat.reduceLeDiff, Nat.reduceMul, Nat.reduceLT, natV, intV, putAt, idxOk, flatP, *, replicaV]
    | simp (singlePass := true) (maxDischargeDepth := 99) only [*, S2, Nat.reduceLT, replicaV])
      · have e := Option.some.inj ho
        subst e
        have d16 : (gF 35) = .bool true := hdep ⟨16, .data⟩ (by simp) rfl _ _ rfl rfl
        have d23 : (gF 42) = .bool true := hdep ⟨23, .data⟩ (by simp) rfl _ _ rfl rfl
        clear hag hdep ho
        refine relStep_off rfl ?_
        (repeat' first
    | with_reducible refine alloc_k fun _ _ _ _ _ _ => ?_
    | ((with_reducible refine at_row ?_); refine row1_k (by rfl) (by decide) fun _ _ _ _ _ _ _ => ?_)
    | with_reducible refine row_k fun _ _ _ _ _ _ => ?_
    | with_reducible refine fork (fun _ => ?_) (fun _ => ?_)
    | with_reducible refine forkp (fun _ => ?_) (fun _ => ?_)
    | with_reducible refine forke (fun _ => ?_) (fun _ _ => ?_)
    | with_reducible refine tail_k fun _ _ _ => ?_
    | with_reducible refine ext_k fun _ _ _ => ?_
    | with_reducible refine need (by first | kernel_rfl | omega | assumption) ?_
    | with_reducible refine st_agg (by kernel_rfl) rfl (by simp only [natV, intV, S3, *]) fun _ _ _ _ => ?_
    | with_reducible refine wpd_quiet_lit (by kernel_rfl) (by kernel_rfl) (by kernel_rfl) ?_
    | ((with_reducible refine at_f 19 ?_); refine ret_k (worldRuns (B := B) FR (hX _ FR) hlen.out) fun _ _ _ => ?_)
    | ((with_reducible refine at_f 20 ?_); refine ret_k (ref13Runs (B := B) FR (hX _ FR) hlen.out) fun _ _ _ => ?_)
    | ((with_reducible refine at_f 21 ?_); refine ret_k (ref12Ints (a := whereL x svc) (b := whereL x svc) (Nat.le_refl _) (Nat.le_refl _) (d10.sl1 (f := intV)) (d13.sl1 (f := intV))) fun _ _ _ => ?_)
    | ((with_reducible refine at_f 24 ?_); refine ret_k (worldHas (r := ⟨svc, host⟩) (B := B) FR (hX _ FR)) fun _ _ _ => ?_)
    | ((with_reducible refine at_f 25 ?_); refine ret_k (ref13Has (r := ⟨svc, host⟩) (B := B) FR (hX _ FR)) fun _ _ _ => ?_)
    | ((with_reducible refine at_f 26 ?_); refine ret_k (worldUsed (B := B) FR (hW _ FR) (hX _ FR)) fun _ _ _ => ?_)
    | ((with_reducible refine at_f 27 ?_); refine ret_k (ref13Used (B := B) FR (hW _ FR) (hX _ FR)) fun _ _ _ => ?_)
    | ((with_reducible refine at_f 11 ?_); refine ret_k (live13) fun _ _ _ => ?_)
    | simp (maxDischargeDepth := 3) only [↓X, ↓Y, ↓Q, S1, ↓reduceIte, Nat.reduceEqDiff, Nat.reduceAdd, Int.reduceLT, Int.reduceLE, Int.reduceNeg, Int.reduceBEq, Int.reduceBNe, Int.reduceEq, Nat.reduceLeDiff, Nat.reduceMul, Nat.reduceLT, natV, intV, putAt, idxOk, flatP, *, replicaV]
    | simp (singlePass := true) (maxDischargeDepth := 99) only [*, S2, Nat.reduceLT, replicaV])
      · have e := Option.some.inj ho
        subst e
        have d24 : (gF 43) = .bool true := hdep ⟨24, .data⟩ (by simp) rfl _ _ rfl rfl
        clear hag hdep ho
        refine relStep_off rfl ?_
        (repeat' first
    | with_reducible refine alloc_k fun _ _ _ _ _ _ => ?_
    | ((with_reducible refine at_row ?_); refine row1_k (by rfl) (by decide) fun _ _ _ _ _ _ _ => ?_)
    | with_reducible refine row_k fun _ _ _ _ _ _ => ?_
    | with_reducible refine fork (fun _ => ?_) (fun _ => ?_)
    | with_reducible refine forkp (fun _ => ?_) (fun _ => ?_)
    | with_reducible refine forke (fun _ => ?_) (fun _ _ => ?_)
    | with_reducible refine tail_k fun _ _ _ => ?_
    | with_reducible refine ext_k fun _ _ _ => ?_
    | with_reducible refine need (by first | kernel_rfl | omega | assumption) ?_
    | with_reducible refine st_agg (by kernel_rfl) rfl (by simp only [natV, intV, S3, *]) fun _ _ _ _ => ?_
    | with_reducible refine wpd_quiet_lit (by kernel_rfl) (by kernel_rfl) (by kernel_rfl) ?_
    | ((with_reducible refine at_f 19 ?_); refine ret_k (worldRuns (B := B) FR (hX _ FR) hlen.out) fun _ _ _ => ?_)
    | ((with_reducible refine at_f 20 ?_); refine ret_k (ref13Runs (B := B) FR (hX _ FR) hlen.out) fun _ _ _ => ?_)
    | ((with_reducible refine at_f 21 ?_); refine ret_k (ref12Ints (a := whereL x svc) (b := whereL x svc) (Nat.le_refl _) (Nat.le_refl _) (d10.sl1 (f := intV)) (d13.sl1 (f := intV))) fun _ _ _ => ?_)
    | ((with_reducible refine at_f 24 ?_); refine ret_k (worldHas (r := ⟨svc, host⟩) (B := B) FR (hX _ FR)) fun _ _ _ => ?_)
    | ((with_reducible refine at_f 25 ?_); refine ret_k (ref13Has (r := ⟨svc, host⟩) (B := B) FR (hX _ FR)) fun _ _ _ => ?_)
    | ((with_reducible refine at_f 26 ?_); refine ret_k (worldUsed (B := B) FR (hW _ FR) (hX _ FR)) fun _ _ _ => ?_)
    | ((with_reducible refine at_f 27 ?_); refine ret_k (ref13Used (B := B) FR (hW _ FR) (hX _ FR)) fun _ _ _ => ?_)
    | ((with_reducible refine at_f 11 ?_); refine ret_k (live13) fun _ _ _ => ?_)
    | simp (maxDischargeDepth := 3) only [↓X, ↓Y, ↓Q, S1, ↓reduceIte, Nat.reduceEqDiff, Nat.reduceAdd, Int.reduceLT, Int.reduceLE, Int.reduceNeg, Int.reduceBEq, Int.reduceBNe, Int.reduceEq, Nat.reduceLeDiff, Nat.reduceMul, Nat.reduceLT, natV, intV, putAt, idxOk, flatP, *, replicaV]
    | simp (singlePass := true) (maxDischargeDepth := 99) only [*, S2, Nat.reduceLT, replicaV])
      · have e := Option.some.inj ho
        subst e
        have a4 := hag.at 4 (by kernel_rfl)
        simp only [U, ↓reduceIte, Nat.reduceEqDiff, initF, U2, List.getElem?_cons_zero, List.getElem?_cons_succ, *] at a4
        have d25 : (gF 44) = .bool true := hdep ⟨25, .guard⟩ (by simp) rfl _ _ rfl rfl
        clear hag hdep ho
        refine relStep_on (j := 25) (want := true) (t := 44) rfl rfl (by rw [d25]; rfl) ?_
        (repeat' first
    | with_reducible refine alloc_k fun _ _ _ _ _ _ => ?_
    | ((with_reducible refine at_row ?_); refine row1_k (by rfl) (by decide) fun _ _ _ _ _ _ _ => ?_)
    | with_reducible refine row_k fun _ _ _ _ _ _ => ?_
    | with_reducible refine fork (fun _ => ?_) (fun _ => ?_)
    | with_reducible refine forkp (fun _ => ?_) (fun _ => ?_)
    | with_reducible refine forke (fun _ => ?_) (fun _ _ => ?_)
    | with_reducible refine tail_k fun _ _ _ => ?_
    | with_reducible refine ext_k fun _ _ _ => ?_
    | with_reducible refine need (by first | kernel_rfl | omega | assumption) ?_
    | with_reducible refine st_agg (by kernel_rfl) rfl (by simp only [natV, intV, S3, *]) fun _ _ _ _ => ?_
    | with_reducible refine wpd_quiet_lit (by kernel_rfl) (by kernel_rfl) (by kernel_rfl) ?_
    | ((with_reducible refine at_f 19 ?_); refine ret_k (worldRuns (B := B) FR (hX _ FR) hlen.out) fun _ _ _ => ?_)
    | ((with_reducible refine at_f 20 ?_); refine ret_k (ref13Runs (B := B) FR (hX _ FR) hlen.out) fun _ _ _ => ?_)
    | ((with_reducible refine at_f 21 ?_); refine ret_k (ref12Ints (a := whereL x svc) (b := whereL x svc) (Nat.le_refl _) (Nat.le_refl _) (d10.sl1 (f := intV)) (d13.sl1 (f := intV))) fun _ _ _ => ?_)
    | ((with_reducible refine at_f 24 ?_); refine ret_k (worldHas (r := ⟨svc, host⟩) (B := B) FR (hX _ FR)) fun _ _ _ => ?_)
    | ((with_reducible refine at_f 25 ?_); refine ret_k (ref13Has (r := ⟨svc, host⟩) (B := B) FR (hX _ FR)) fun _ _ _ => ?_)
    | ((with_reducible refine at_f 26 ?_); refine ret_k (worldUsed (B := B) FR (hW _ FR) (hX _ FR)) fun _ _ _ => ?_)
    | ((with_reducible refine at_f 27 ?_); refine ret_k (ref13Used (B := B) FR (hW _ FR) (hX _ FR)) fun _ _ _ => ?_)
    | ((with_reducible refine at_f 11 ?_); refine ret_k (live13) fun _ _ _ => ?_)
    | simp (maxDischargeDepth := 3) only [↓X, ↓Y, ↓Q, S1, ↓reduceIte, Nat.reduceEqDiff, Nat.reduceAdd, Int.reduceLT, Int.reduceLE, Int.reduceNeg, Int.reduceBEq, Int.reduceBNe, Int.reduceEq, Nat.reduceLeDiff, Nat.reduceMul, Nat.reduceLT, natV, intV, putAt, idxOk, flatP, *, replicaV]
    | simp (singlePass := true) (maxDischargeDepth := 99) only [*, S2, Nat.reduceLT, replicaV])
      · have e := Option.some.inj ho
        subst e
        have a5 := hag.at 5 (by kernel_rfl)
        simp only [U, ↓reduceIte, Nat.reduceEqDiff, initF, U2, List.getElem?_cons_zero, List.getElem?_cons_succ, *] at a5
        have d25 : (gF 44) = .bool true := hdep ⟨25, .guard⟩ (by simp) rfl _ _ rfl rfl
        clear hag hdep ho
        refine relStep_on (j := 25) (want := true) (t := 44) rfl rfl (by rw [d25]; rfl) ?_
        (repeat' first
    | with_reducible refine alloc_k fun _ _ _ _ _ _ => ?_
    | ((with_reducible refine at_row ?_); refine row1_k (by rfl) (by decide) fun _ _ _ _ _ _ _ => ?_)
    | with_reducible refine row_k fun _ _ _ _ _ _ => ?_
    | with_reducible refine fork (fun _ => ?_) (fun _ => ?_)
    | with_reducible refine forkp (fun _ => ?_) (fun _ => ?_)
    | with_reducible refine forke (fun _ => ?_) (fun _ _ => ?_)
    | with_reducible refine tail_k fun _ _ _ => ?_
    | with_reducible refine ext_k fun _ _ _ => ?_
    | with_reducible refine need (by first | kernel_rfl | omega | assumption) ?_
    | with_reducible refine st_agg (by kernel_rfl) rfl (by simp only [natV, intV, S3, *]) fun _ _ _ _ => ?_
    | with_reducible refine wpd_quiet_lit (by kernel_rfl) (by kernel_rfl) (by kernel_rfl) ?_
    | ((with_reducible refine at_f 19 ?_); refine ret_k (worldRuns (B := B) FR (hX _ FR) hlen.out) fun _ _ _ => ?_)
    | ((with_reducible refine at_f 20 ?_); refine ret_k (ref13Runs (B := B) FR (hX _ FR) hlen.out) fun _ _ _ => ?_)
    | ((with_reducible refine at_f 21 ?_); refine ret_k (ref12Ints (a := whereL x svc) (b := whereL x svc) (Nat.le_refl _) (Nat.le_refl _) (d10.sl1 (f := intV)) (d13.sl1 (f := intV))) fun _ _ _ => ?_)
    | ((with_reducible refine at_f 24 ?_); refine ret_k (worldHas (r := ⟨svc, host⟩) (B := B) FR (hX _ FR)) fun _ _ _ => ?_)
    | ((with_reducible refine at_f 25 ?_); refine ret_k (ref13Has (r := ⟨svc, host⟩) (B := B) FR (hX _ FR)) fun _ _ _ => ?_)
    | ((with_reducible refine at_f 26 ?_); refine ret_k (worldUsed (B := B) FR (hW _ FR) (hX _ FR)) fun _ _ _ => ?_)
    | ((with_reducible refine at_f 27 ?_); refine ret_k (ref13Used (B := B) FR (hW _ FR) (hX _ FR)) fun _ _ _ => ?_)
    | ((with_reducible refine at_f 11 ?_); refine ret_k (live13) fun _ _ _ => ?_)
    | simp (maxDischargeDepth := 3) only [↓X, ↓Y, ↓Q, S1, ↓reduceIte, Nat.reduceEqDiff, Nat.reduceAdd, Int.reduceLT, Int.reduceLE, Int.reduceNeg, Int.reduceBEq, Int.reduceBNe, Int.reduceEq, Nat.reduceLeDiff, Nat.reduceMul, Nat.reduceLT, natV, intV, putAt, idxOk, flatP, *, replicaV]
    | simp (singlePass := true) (maxDischargeDepth := 99) only [*, S2, Nat.reduceLT, replicaV])
      · have e := Option.some.inj ho
        subst e
        have a3 := hag.at 3 (by kernel_rfl)
        simp only [U, ↓reduceIte, Nat.reduceEqDiff, initF, U2, List.getElem?_cons_zero, List.getElem?_cons_succ, *] at a3
        have d25 : (gF 44) = .bool true := hdep ⟨25, .guard⟩ (by simp) rfl _ _ rfl rfl
        clear hag hdep ho
        refine relStep_on (j := 25) (want := true) (t := 44) rfl rfl (by rw [d25]; rfl) ?_
        (repeat' first
    | with_reducible refine alloc_k fun _ _ _ _ _ _ => ?_
    | ((with_reducible refine at_row ?_); refine row1_k (by rfl) (by decide) fun _ _ _ _ _ _ _ => ?_)
    | with_reducible refine row_k fun _ _ _ _ _ _ => ?_
    | with_reducible refine fork (fun _ => ?_) (fun _ => ?_)
    | with_reducible refine forkp (fun _ => ?_) (fun _ => ?_)
    | with_reducible refine forke (fun _ => ?_) (fun _ _ => ?_)
    | with_reducible refine tail_k fun _ _ _ => ?_
    | with_reducible refine ext_k fun _ _ _ => ?_
    | with_reducible refine need (by first | kernel_rfl | omega | assumption) ?_
    | with_reducible refine st_agg (by kernel_rfl) rfl (by simp only [natV, intV, S3, *]) fun _ _ _ _ => ?_
    | with_reducible refine wpd_quiet_lit (by kernel_rfl) (by kernel_rfl) (by kernel_rfl) ?_
    | ((with_reducible refine at_f 19 ?_); refine ret_k (worldRuns (B := B) FR (hX _ FR) hlen.out) fun _ _ _ => ?_)
    | ((with_reducible refine at_f 20 ?_); refine ret_k (ref13Runs (B := B) FR (hX _ FR) hlen.out) fun _ _ _ => ?_)
    | ((with_reducible refine at_f 21 ?_); refine ret_k (ref12Ints (a := whereL x svc) (b := whereL x svc) (Nat.le_refl _) (Nat.le_refl _) (d10.sl1 (f := intV)) (d13.sl1 (f := intV))) fun _ _ _ => ?_)
    | ((with_reducible refine at_f 24 ?_); refine ret_k (worldHas (r := ⟨svc, host⟩) (B := B) FR (hX _ FR)) fun _ _ _ => ?_)
    | ((with_reducible refine at_f 25 ?_); refine ret_k (ref13Has (r := ⟨svc, host⟩) (B := B) FR (hX _ FR)) fun _ _ _ => ?_)
    | ((with_reducible refine at_f 26 ?_); refine ret_k (worldUsed (B := B) FR (hW _ FR) (hX _ FR)) fun _ _ _ => ?_)
    | ((with_reducible refine at_f 27 ?_); refine ret_k (ref13Used (B := B) FR (hW _ FR) (hX _ FR)) fun _ _ _ => ?_)
    | ((with_reducible refine at_f 11 ?_); refine ret_k (live13) fun _ _ _ => ?_)
    | simp (maxDischargeDepth := 3) only [↓X, ↓Y, ↓Q, S1, ↓reduceIte, Nat.reduceEqDiff, Nat.reduceAdd, Int.reduceLT, Int.reduceLE, Int.reduceNeg, Int.reduceBEq, Int.reduceBNe, Int.reduceEq, Nat.reduceLeDiff, Nat.reduceMul, Nat.reduceLT, natV, intV, putAt, idxOk, flatP, *, replicaV]
    | simp (singlePass := true) (maxDischargeDepth := 99) only [*, S2, Nat.reduceLT, replicaV])
      · have e := Option.some.inj ho
        subst e
        have d26 : (gF 45) = .agg #[wv] := hdep ⟨26, .data⟩ (by simp) rfl _ _ rfl rfl
        have d27 : (gF 46) = .agg #[hv, rv] := hdep ⟨27, .data⟩ (by simp) rfl _ _ rfl rfl
        have d28 : (gF 47) = intV host := hdep ⟨28, .data⟩ (by simp) rfl _ _ rfl rfl
        have d25 : (gF 44) = .bool true := hdep ⟨25, .guard⟩ (by simp) rfl _ _ rfl rfl
        clear hag hdep ho
        refine relStep_on (j := 25) (want := true) (t := 44) rfl rfl (by rw [d25]; rfl) ?_
        (repeat' first
    | with_reducible refine alloc_k fun _ _ _ _ _ _ => ?_
    | ((with_reducible refine at_row ?_); refine row1_k (by rfl) (by decide) fun _ _ _ _ _ _ _ => ?_)
    | with_reducible refine row_k fun _ _ _ _ _ _ => ?_
    | with_reducible refine fork (fun _ => ?_) (fun _ => ?_)
    | with_reducible refine forkp (fun _ => ?_) (fun _ => ?_)
    | with_reducible refine forke (fun _ => ?_) (fun _ _ => ?_)
    | with_reducible refine tail_k fun _ _ _ => ?_
    | with_reducible refine ext_k fun _ _ _ => ?_
    | with_reducible refine need (by first | kernel_rfl | omega | assumption) ?_
    | with_reducible refine st_agg (by kernel_rfl) rfl (by simp only [natV, intV, S3, *]) fun _ _ _ _ => ?_
    | with_reducible refine wpd_quiet_lit (by kernel_rfl) (by kernel_rfl) (by kernel_rfl) ?_
    | ((with_reducible refine at_f 19 ?_); refine ret_k (worldRuns (B := B) FR (hX _ FR) hlen.out) fun _ _ _ => ?_)
    | ((with_reducible refine at_f 20 ?_); refine ret_k (ref13Runs (B := B) FR (hX _ FR) hlen.out) fun _ _ _ => ?_)
    | ((with_reducible refine at_f 21 ?_); refine ret_k (ref12Ints (a := whereL x svc) (b := whereL x svc) (Nat.le_refl _) (Nat.le_refl _) (d10.sl1 (f := intV)) (d13.sl1 (f := intV))) fun _ _ _ => ?_)
    | ((with_reducible refine at_f 24 ?_); refine ret_k (worldHas (r := ⟨svc, host⟩) (B := B) FR (hX _ FR)) fun _ _ _ => ?_)
    | ((with_reducible refine at_f 25 ?_); refine ret_k (ref13Has (r := ⟨svc, host⟩) (B := B) FR (hX _ FR)) fun _ _ _ => ?_)
    | ((with_reducible refine at_f 26 ?_); refine ret_k (worldUsed (B := B) FR (hW _ FR) (hX _ FR)) fun _ _ _ => ?_)
    | ((with_reducible refine at_f 27 ?_); refine ret_k (ref13Used (B := B) FR (hW _ FR) (hX _ FR)) fun _ _ _ => ?_)
    | ((with_reducible refine at_f 11 ?_); refine ret_k (live13) fun _ _ _ => ?_)
    | simp (maxDischargeDepth := 3) only [↓X, ↓Y, ↓Q, S1, ↓reduceIte, Nat.reduceEqDiff, Nat.reduceAdd, Int.reduceLT, Int.reduceLE, Int.reduceNeg, Int.reduceBEq, Int.reduceBNe, Int.reduceEq, Nat.reduceLeDiff, Nat.reduceMul, Nat.reduceLT, natV, intV, putAt, idxOk, flatP, *, replicaV]
    | simp (singlePass := true) (maxDischargeDepth := 99) only [*, S2, Nat.reduceLT, replicaV])
      · have e := Option.some.inj ho
        subst e
        have a4 := hag.at 4 (by kernel_rfl)
        simp only [U, ↓reduceIte, Nat.reduceEqDiff, initF, U2, List.getElem?_cons_zero, List.getElem?_cons_succ, *] at a4
        have d25 : (gF 44) = .bool true := hdep ⟨25, .guard⟩ (by simp) rfl _ _ rfl rfl
        clear hag hdep ho
        refine relStep_on (j := 25) (want := true) (t := 44) rfl rfl (by rw [d25]; rfl) ?_
        (repeat' first
    | with_reducible refine alloc_k fun _ _ _ _ _ _ => ?_
    | ((with_reducible refine at_row ?_); refine row1_k (by rfl) (by decide) fun _ _ _ _ _ _ _ => ?_)
    | with_reducible refine row_k fun _ _ _ _ _ _ => ?_
    | with_reducible refine fork (fun _ => ?_) (fun _ => ?_)
    | with_reducible refine forkp (fun _ => ?_) (fun _ => ?_)
    | with_reducible refine forke (fun _ => ?_) (fun _ _ => ?_)
    | with_reducible refine tail_k fun _ _ _ => ?_
    | with_reducible refine ext_k fun _ _ _ => ?_
    | with_reducible refine need (by first | kernel_rfl | omega | assumption) ?_
    | with_reducible refine st_agg (by kernel_rfl) rfl (by simp only [natV, intV, S3, *]) fun _ _ _ _ => ?_
    | with_reducible refine wpd_quiet_lit (by kernel_rfl) (by kernel_rfl) (by kernel_rfl) ?_
    | ((with_reducible refine at_f 19 ?_); refine ret_k (worldRuns (B := B) FR (hX _ FR) hlen.out) fun _ _ _ => ?_)
    | ((with_reducible refine at_f 20 ?_); refine ret_k (ref13Runs (B := B) FR (hX _ FR) hlen.out) fun _ _ _ => ?_)
    | ((with_reducible refine at_f 21 ?_); refine ret_k (ref12Ints (a := whereL x svc) (b := whereL x svc) (Nat.le_refl _) (Nat.le_refl _) (d10.sl1 (f := intV)) (d13.sl1 (f := intV))) fun _ _ _ => ?_)
    | ((with_reducible refine at_f 24 ?_); refine ret_k (worldHas (r := ⟨svc, host⟩) (B := B) FR (hX _ FR)) fun _ _ _ => ?_)
    | ((with_reducible refine at_f 25 ?_); refine ret_k (ref13Has (r := ⟨svc, host⟩) (B := B) FR (hX _ FR)) fun _ _ _ => ?_)
    | ((with_reducible refine at_f 26 ?_); refine ret_k (worldUsed (B := B) FR (hW _ FR) (hX _ FR)) fun _ _ _ => ?_)
    | ((with_reducible refine at_f 27 ?_); refine ret_k (ref13Used (B := B) FR (hW _ FR) (hX _ FR)) fun _ _ _ => ?_)
    | ((with_reducible refine at_f 11 ?_); refine ret_k (live13) fun _ _ _ => ?_)
    | simp (maxDischargeDepth := 3) only [↓X, ↓Y, ↓Q, S1, ↓reduceIte, Nat.reduceEqDiff, Nat.reduceAdd, Int.reduceLT, Int.reduceLE, Int.reduceNeg, Int.reduceBEq, Int.reduceBNe, Int.reduceEq, Nat.reduceLeDiff, Nat.reduceMul, Nat.reduceLT, natV, intV, putAt, idxOk, flatP, *, replicaV]
    | simp (singlePass := true) (maxDischargeDepth := 99) only [*, S2, Nat.reduceLT, replicaV])
      · have e := Option.some.inj ho
        subst e
        have a5 := hag.at 5 (by kernel_rfl)
        simp only [U, ↓reduceIte, Nat.reduceEqDiff, initF, U2, List.getElem?_cons_zero, List.getElem?_cons_succ, *] at a5
        have d25 : (gF 44) = .bool true := hdep ⟨25, .guard⟩ (by simp) rfl _ _ rfl rfl
        clear hag hdep ho
        refine relStep_on (j := 25) (want := true) (t := 44) rfl rfl (by rw [d25]; rfl) ?_
        (repeat' first
    | with_reducible refine alloc_k fun _ _ _ _ _ _ => ?_
    | ((with_reducible refine at_row ?_); refine row1_k (by rfl) (by decide) fun _ _ _ _ _ _ _ => ?_)
    | with_reducible refine row_k fun _ _ _ _ _ _ => ?_
    | with_reducible refine fork (fun _ => ?_) (fun _ => ?_)
    | with_reducible refine forkp (fun _ => ?_) (fun _ => ?_)
    | with_reducible refine forke (fun _ => ?_) (fun _ _ => ?_)
    | with_reducible refine tail_k fun _ _ _ => ?_
    | with_reducible refine ext_k fun _ _ _ => ?_
    | with_reducible refine need (by first | kernel_rfl | omega | assumption) ?_
    | with_reducible refine st_agg (by kernel_rfl) rfl (by simp only [natV, intV, S3, *]) fun _ _ _ _ => ?_
    | with_reducible refine wpd_quiet_lit (by kernel_rfl) (by kernel_rfl) (by kernel_rfl) ?_
    | ((with_reducible refine at_f 19 ?_); refine ret_k (worldRuns (B := B) FR (hX _ FR) hlen.out) fun _ _ _ => ?_)
    | ((with_reducible refine at_f 20 ?_); refine ret_k (ref13Runs (B := B) FR (hX _ FR) hlen.out) fun _ _ _ => ?_)
    | ((with_reducible refine at_f 21 ?_); refine ret_k (ref12Ints (a := whereL x svc) (b := whereL x svc) (Nat.le_refl _) (Nat.le_refl _) (d10.sl1 (f := intV)) (d13.sl1 (f := intV))) fun _ _ _ => ?_)
    | ((with_reducible refine at_f 24 ?_); refine ret_k (worldHas (r := ⟨svc, host⟩) (B := B) FR (hX _ FR)) fun _ _ _ => ?_)
    | ((with_reducible refine at_f 25 ?_); refine ret_k (ref13Has (r := ⟨svc, host⟩) (B := B) FR (hX _ FR)) fun _ _ _ => ?_)
    | ((with_reducible refine at_f 26 ?_); refine ret_k (worldUsed (B := B) FR (hW _ FR) (hX _ FR)) fun _ _ _ => ?_)
    | ((with_reducible refine at_f 27 ?_); refine ret_k (ref13Used (B := B) FR (hW _ FR) (hX _ FR)) fun _ _ _ => ?_)
    | ((with_reducible refine at_f 11 ?_); refine ret_k (live13) fun _ _ _ => ?_)
    | simp (maxDischargeDepth := 3) only [↓X, ↓Y, ↓Q, S1, ↓reduceIte, Nat.reduceEqDiff, Nat.reduceAdd, Int.reduceLT, Int.reduceLE, Int.reduceNeg, Int.reduceBEq, Int.reduceBNe, Int.reduceEq, Nat.reduceLeDiff, Nat.reduceMul, Nat.reduceLT, natV, intV, putAt, idxOk, flatP, *, replicaV]
    | simp (singlePass := true) (maxDischargeDepth := 99) only [*, S2, Nat.reduceLT, replicaV])
      · have e := Option.some.inj ho
        subst e
        have a3 := hag.at 3 (by kernel_rfl)
        simp only [U, ↓reduceIte, Nat.reduceEqDiff, initF, U2, List.getElem?_cons_zero, List.getElem?_cons_succ, *] at a3
        have d25 : (gF 44) = .bool true := hdep ⟨25, .guard⟩ (by simp) rfl _ _ rfl rfl
        clear hag hdep ho
        refine relStep_on (j := 25) (want := true) (t := 44) rfl rfl (by rw [d25]; rfl) ?_
        (repeat' first
    | with_reducible refine alloc_k fun _ _ _ _ _ _ => ?_
    | ((with_reducible refine at_row ?_); refine row1_k (by rfl) (by decide) fun _ _ _ _ _ _ _ => ?_)
    | with_reducible refine row_k fun _ _ _ _ _ _ => ?_
    | with_reducible refine fork (fun _ => ?_) (fun _ => ?_)
    | with_reducible refine forkp (fun _ => ?_) (fun _ => ?_)
    | with_reducible refine forke (fun _ => ?_) (fun _ _ => ?_)
    | with_reducible refine tail_k fun _ _ _ => ?_
    | with_reducible refine ext_k fun _ _ _ => ?_
    | with_reducible refine need (by first | kernel_rfl | omega | assumption) ?_
    | with_reducible refine st_agg (by kernel_rfl) rfl (by simp only [natV, intV, S3, *]) fun _ _ _ _ => ?_
    | with_reducible refine wpd_quiet_lit (by kernel_rfl) (by kernel_rfl) (by kernel_rfl) ?_
    | ((with_reducible refine at_f 19 ?_); refine ret_k (worldRuns (B := B) FR (hX _ FR) hlen.out) fun _ _ _ => ?_)
    | ((with_reducible refine at_f 20 ?_); refine ret_k (ref13Runs (B := B) FR (hX _ FR) hlen.out) fun _ _ _ => ?_)
    | ((with_reducible refine at_f 21 ?_); refine ret_k (ref12Ints (a := whereL x svc) (b := whereL x svc) (Nat.le_refl _) (Nat.le_refl _) (d10.sl1 (f := intV)) (d13.sl1 (f := intV))) fun _ _ _ => ?_)
    | ((with_reducible refine at_f 24 ?_); refine ret_k (worldHas (r := ⟨svc, host⟩) (B := B) FR (hX _ FR)) fun _ _ _ => ?_)
    | ((with_reducible refine at_f 25 ?_); refine ret_k (ref13Has (r := ⟨svc, host⟩) (B := B) FR (hX _ FR)) fun _ _ _ => ?_)
    | ((with_reducible refine at_f 26 ?_); refine ret_k (worldUsed (B := B) FR (hW _ FR) (hX _ FR)) fun _ _ _ => ?_)
    | ((with_reducible refine at_f 27 ?_); refine ret_k (ref13Used (B := B) FR (hW _ FR) (hX _ FR)) fun _ _ _ => ?_)
    | ((with_reducible refine at_f 11 ?_); refine ret_k (live13) fun _ _ _ => ?_)
    | simp (maxDischargeDepth := 3) only [↓X, ↓Y, ↓Q, S1, ↓reduceIte, Nat.reduceEqDiff, Nat.reduceAdd, Int.reduceLT, Int.reduceLE, Int.reduceNeg, Int.reduceBEq, Int.reduceBNe, Int.reduceEq, Nat.reduceLeDiff, Nat.reduceMul, Nat.reduceLT, natV, intV, putAt, idxOk, flatP, *, replicaV]
    | simp (singlePass := true) (maxDischargeDepth := 99) only [*, S2, Nat.reduceLT, replicaV])
      · have e := Option.some.inj ho
        subst e
        have d30 : (gF 49) = .agg #[wv] := hdep ⟨30, .data⟩ (by simp) rfl _ _ rfl rfl
        have d31 : (gF 50) = .agg #[hv, rv] := hdep ⟨31, .data⟩ (by simp) rfl _ _ rfl rfl
        have d32 : (gF 51) = intV host := hdep ⟨32, .data⟩ (by simp) rfl _ _ rfl rfl
        have d25 : (gF 44) = .bool true := hdep ⟨25, .guard⟩ (by simp) rfl _ _ rfl rfl
        clear hag hdep ho
        refine relStep_on (j := 25) (want := true) (t := 44) rfl rfl (by rw [d25]; rfl) ?_
        (repeat' first
    | with_reducible refine alloc_k fun _ _ _ _ _ _ => ?_
    | ((with_reducible refine at_row ?_); refine row1_k (by rfl) (by decide) fun _ _ _ _ _ _ _ => ?_)
    | with_reducible refine row_k fun _ _ _ _ _ _ => ?_
    | with_reducible refine fork (fun _ => ?_) (fun _ => ?_)
    | with_reducible refine forkp (fun _ => ?_) (fun _ => ?_)
    | with_reducible refine forke (fun _ => ?_) (fun _ _ => ?_)
    | with_reducible refine tail_k fun _ _ _ => ?_
    | with_reducible refine ext_k fun _ _ _ => ?_
    | with_reducible refine need (by first | kernel_rfl | omega | assumption) ?_
    | with_reducible refine st_agg (by kernel_rfl) rfl (by simp only [natV, intV, S3, *]) fun _ _ _ _ => ?_
    | with_reducible refine wpd_quiet_lit (by kernel_rfl) (by kernel_rfl) (by kernel_rfl) ?_
    | ((with_reducible refine at_f 19 ?_); refine ret_k (worldRuns (B := B) FR (hX _ FR) hlen.out) fun _ _ _ => ?_)
    | ((with_reducible refine at_f 20 ?_); refine ret_k (ref13Runs (B := B) FR (hX _ FR) hlen.out) fun _ _ _ => ?_)
    | ((with_reducible refine at_f 21 ?_); refine ret_k (ref12Ints (a := whereL x svc) (b := whereL x svc) (Nat.le_refl _) (Nat.le_refl _) (d10.sl1 (f := intV)) (d13.sl1 (f := intV))) fun _ _ _ => ?_)
    | ((with_reducible refine at_f 24 ?_); refine ret_k (worldHas (r := ⟨svc, host⟩) (B := B) FR (hX _ FR)) fun _ _ _ => ?_)
    | ((with_reducible refine at_f 25 ?_); refine ret_k (ref13Has (r := ⟨svc, host⟩) (B := B) FR (hX _ FR)) fun _ _ _ => ?_)
    | ((with_reducible refine at_f 26 ?_); refine ret_k (worldUsed (B := B) FR (hW _ FR) (hX _ FR)) fun _ _ _ => ?_)
    | ((with_reducible refine at_f 27 ?_); refine ret_k (ref13Used (B := B) FR (hW _ FR) (hX _ FR)) fun _ _ _ => ?_)
    | ((with_reducible refine at_f 11 ?_); refine ret_k (live13) fun _ _ _ => ?_)
    | simp (maxDischargeDepth := 3) only [↓X, ↓Y, ↓Q, S1, ↓reduceIte, Nat.reduceEqDiff, Nat.reduceAdd, Int.reduceLT, Int.reduceLE, Int.reduceNeg, Int.reduceBEq, Int.reduceBNe, Int.reduceEq, Nat.reduceLeDiff, Nat.reduceMul, Nat.reduceLT, natV, intV, putAt, idxOk, flatP, *, replicaV]
    | simp (singlePass := true) (maxDischargeDepth := 99) only [*, S2, Nat.reduceLT, replicaV])
      · have e := Option.some.inj ho
        subst e
        have d29 : (gF 48) = intV (usedI (l.map (·.x)) x host) := hdep ⟨29, .data⟩ (by simp) rfl _ _ rfl rfl
        have d33 : (gF 52) = intV (usedI (l.map (·.x)) x host) := hdep ⟨33, .data⟩ (by simp) rfl _ _ rfl rfl
        have d25 : (gF 44) = .bool true := hdep ⟨25, .guard⟩ (by simp) rfl _ _ rfl rfl
        clear hag hdep ho
        refine relStep_on (j := 25) (want := true) (t := 44) rfl rfl (by rw [d25]; rfl) ?_
        (repeat' first
    | with_reducible refine alloc_k fun _ _ _ _ _ _ => ?_
    | ((with_reducible refine at_row ?_); refine row1_k (by rfl) (by decide) fun _ _ _ _ _ _ _ => ?_)
    | with_reducible refine row_k fun _ _ _ _ _ _ => ?_
    | with_reducible refine fork (fun _ => ?_) (fun _ => ?_)
    | with_reducible refine forkp (fun _ => ?_) (fun _ => ?_)
    | with_reducible refine forke (fun _ => ?_) (fun _ _ => ?_)
    | with_reducible refine tail_k fun _ _ _ => ?_
    | with_reducible refine ext_k fun _ _ _ => ?_
    | with_reducible refine need (by first | kernel_rfl | omega | assumption) ?_
    | with_reducible refine st_agg (by kernel_rfl) rfl (by simp only [natV, intV, S3, *]) fun _ _ _ _ => ?_
    | with_reducible refine wpd_quiet_lit (by kernel_rfl) (by kernel_rfl) (by kernel_rfl) ?_
    | ((with_reducible refine at_f 19 ?_); refine ret_k (worldRuns (B := B) FR (hX _ FR) hlen.out) fun _ _ _ => ?_)
    | ((with_reducible refine at_f 20 ?_); refine ret_k (ref13Runs (B := B) FR (hX _ FR) hlen.out) fun _ _ _ => ?_)
    | ((with_reducible refine at_f 21 ?_); refine ret_k (ref12Ints (a := whereL x svc) (b := whereL x svc) (Nat.le_refl _) (Nat.le_refl _) (d10.sl1 (f := intV)) (d13.sl1 (f := intV))) fun _ _ _ => ?_)
    | ((with_reducible refine at_f 24 ?_); refine ret_k (worldHas (r := ⟨svc, host⟩) (B := B) FR (hX _ FR)) fun _ _ _ => ?_)
    | ((with_reducible refine at_f 25 ?_); refine ret_k (ref13Has (r := ⟨svc, host⟩) (B := B) FR (hX _ FR)) fun _ _ _ => ?_)
    | ((with_reducible refine at_f 26 ?_); refine ret_k (worldUsed (B := B) FR (hW _ FR) (hX _ FR)) fun _ _ _ => ?_)
    | ((with_reducible refine at_f 27 ?_); refine ret_k (ref13Used (B := B) FR (hW _ FR) (hX _ FR)) fun _ _ _ => ?_)
    | ((with_reducible refine at_f 11 ?_); refine ret_k (live13) fun _ _ _ => ?_)
    | simp (maxDischargeDepth := 3) only [↓X, ↓Y, ↓Q, S1, ↓reduceIte, Nat.reduceEqDiff, Nat.reduceAdd, Int.reduceLT, Int.reduceLE, Int.reduceNeg, Int.reduceBEq, Int.reduceBNe, Int.reduceEq, Nat.reduceLeDiff, Nat.reduceMul, Nat.reduceLT, natV, intV, putAt, idxOk, flatP, *, replicaV]
    | simp (singlePass := true) (maxDischargeDepth := 99) only [*, S2, Nat.reduceLT, replicaV])
      · have e := Option.some.inj ho
        subst e
        have d25 : (gF 44) = .bool true := hdep ⟨25, .data⟩ (by simp) rfl _ _ rfl rfl
        have d34 : (gF 53) = .bool true := hdep ⟨34, .data⟩ (by simp) rfl _ _ rfl rfl
        clear hag hdep ho
        refine relStep_off rfl ?_
        (repeat' first
    | with_reducible refine alloc_k fun _ _ _ _ _ _ => ?_
    | ((with_reducible refine at_row ?_); refine row1_k (by rfl) (by decide) fun _ _ _ _ _ _ _ => ?_)
    | with_reducible refine row_k fun _ _ _ _ _ _ => ?_
    | with_reducible refine fork (fun _ => ?_) (fun _ => ?_)
    | with_reducible refine forkp (fun _ => ?_) (fun _ => ?_)
    | with_reducible refine forke (fun _ => ?_) (fun _ _ => ?_)
    | with_reducible refine tail_k fun _ _ _ => ?_
    | with_reducible refine ext_k fun _ _ _ => ?_
    | with_reducible refine need (by first | kernel_rfl | omega | assumption) ?_
    | with_reducible refine st_agg (by kernel_rfl) rfl (by simp only [natV, intV, S3, *]) fun _ _ _ _ => ?_
    | with_reducible refine wpd_quiet_lit (by kernel_rfl) (by kernel_rfl) (by kernel_rfl) ?_
    | ((with_reducible refine at_f 19 ?_); refine ret_k (worldRuns (B := B) FR (hX _ FR) hlen.out) fun _ _ _ => ?_)
    | ((with_reducible refine at_f 20 ?_); refine ret_k (ref13Runs (B := B) FR (hX _ FR) hlen.out) fun _ _ _ => ?_)
    | ((with_reducible refine at_f 21 ?_); refine ret_k (ref12Ints (a := whereL x svc) (b := whereL x svc) (Nat.le_refl _) (Nat.le_refl _) (d10.sl1 (f := intV)) (d13.sl1 (f := intV))) fun _ _ _ => ?_)
    | ((with_reducible refine at_f 24 ?_); refine ret_k (worldHas (r := ⟨svc, host⟩) (B := B) FR (hX _ FR)) fun _ _ _ => ?_)
    | ((with_reducible refine at_f 25 ?_); refine ret_k (ref13Has (r := ⟨svc, host⟩) (B := B) FR (hX _ FR)) fun _ _ _ => ?_)
    | ((with_reducible refine at_f 26 ?_); refine ret_k (worldUsed (B := B) FR (hW _ FR) (hX _ FR)) fun _ _ _ => ?_)
    | ((with_reducible refine at_f 27 ?_); refine ret_k (ref13Used (B := B) FR (hW _ FR) (hX _ FR)) fun _ _ _ => ?_)
    | ((with_reducible refine at_f 11 ?_); refine ret_k (live13) fun _ _ _ => ?_)
    | simp (maxDischargeDepth := 3) only [↓X, ↓Y, ↓Q, S1, ↓reduceIte, Nat.reduceEqDiff, Nat.reduceAdd, Int.reduceLT, Int.reduceLE, Int.reduceNeg, Int.reduceBEq, Int.reduceBNe, Int.reduceEq, Nat.reduceLeDiff, Nat.reduceMul, Nat.reduceLT, natV, intV, putAt, idxOk, flatP, *, replicaV]
    | simp (singlePass := true) (maxDischargeDepth := 99) only [*, S2, Nat.reduceLT, replicaV])
      · have e := Option.some.inj ho
        subst e
        have d35 : (gF 54) = .bool true := hdep ⟨35, .data⟩ (by simp) rfl _ _ rfl rfl
        clear hag hdep ho
        refine relStep_off rfl ?_
        (repeat' first
    | with_reducible refine alloc_k fun _ _ _ _ _ _ => ?_
    | ((with_reducible refine at_row ?_); refine row1_k (by rfl) (by decide) fun _ _ _ _ _ _ _ => ?_)
    | with_reducible refine row_k fun _ _ _ _ _ _ => ?_
    | with_reducible refine fork (fun _ => ?_) (fun _ => ?_)
    | with_reducible refine forkp (fun _ => ?_) (fun _ => ?_)
    | with_reducible refine forke (fun _ => ?_) (fun _ _ => ?_)
    | with_reducible refine tail_k fun _ _ _ => ?_
    | with_reducible refine ext_k fun _ _ _ => ?_
    | with_reducible refine need (by first | kernel_rfl | omega | assumption) ?_
    | with_reducible refine st_agg (by kernel_rfl) rfl (by simp only [natV, intV, S3, *]) fun _ _ _ _ => ?_
    | with_reducible refine wpd_quiet_lit (by kernel_rfl) (by kernel_rfl) (by kernel_rfl) ?_
    | ((with_reducible refine at_f 19 ?_); refine ret_k (worldRuns (B := B) FR (hX _ FR) hlen.out) fun _ _ _ => ?_)
    | ((with_reducible refine at_f 20 ?_); refine ret_k (ref13Runs (B := B) FR (hX _ FR) hlen.out) fun _ _ _ => ?_)
    | ((with_reducible refine at_f 21 ?_); refine ret_k (ref12Ints (a := whereL x svc) (b := whereL x svc) (Nat.le_refl _) (Nat.le_refl _) (d10.sl1 (f := intV)) (d13.sl1 (f := intV))) fun _ _ _ => ?_)
    | ((with_reducible refine at_f 24 ?_); refine ret_k (worldHas (r := ⟨svc, host⟩) (B := B) FR (hX _ FR)) fun _ _ _ => ?_)
    | ((with_reducible refine at_f 25 ?_); refine ret_k (ref13Has (r := ⟨svc, host⟩) (B := B) FR (hX _ FR)) fun _ _ _ => ?_)
    | ((with_reducible refine at_f 26 ?_); refine ret_k (worldUsed (B := B) FR (hW _ FR) (hX _ FR)) fun _ _ _ => ?_)
    | ((with_reducible refine at_f 27 ?_); refine ret_k (ref13Used (B := B) FR (hW _ FR) (hX _ FR)) fun _ _ _ => ?_)
    | ((with_reducible refine at_f 11 ?_); refine ret_k (live13) fun _ _ _ => ?_)
    | simp (maxDischargeDepth := 3) only [↓X, ↓Y, ↓Q, S1, ↓reduceIte, Nat.reduceEqDiff, Nat.reduceAdd, Int.reduceLT, Int.reduceLE, Int.reduceNeg, Int.reduceBEq, Int.reduceBNe, Int.reduceEq, Nat.reduceLeDiff, Nat.reduceMul, Nat.reduceLT, natV, intV, putAt, idxOk, flatP, *, replicaV]
    | simp (singlePass := true) (maxDischargeDepth := 99) only [*, S2, Nat.reduceLT, replicaV])
      · have e := Option.some.inj ho
        subst e
        have d36 : (gF 55) = .bool true := hdep ⟨36, .guard⟩ (by simp) rfl _ _ rfl rfl
        clear hag hdep ho
        refine relStep_on (j := 36) (want := true) (t := 55) rfl rfl (by rw [d36]; rfl) ?_
        (repeat' first
    | with_reducible refine alloc_k fun _ _ _ _ _ _ => ?_
    | ((with_reducible refine at_row ?_); refine row1_k (by rfl) (by decide) fun _ _ _ _ _ _ _ => ?_)
    | with_reducible refine row_k fun _ _ _ _ _ _ => ?_
    | with_reducible refine fork (fun _ => ?_) (fun _ => ?_)
    | with_reducible refine forkp (fun _ => ?_) (fun _ => ?_)
    | with_reducible refine forke (fun _ => ?_) (fun _ _ => ?_)
    | with_reducible refine tail_k fun _ _ _ => ?_
    | with_reducible refine ext_k fun _ _ _ => ?_
    | with_reducible refine need (by first | kernel_rfl | omega | assumption) ?_
    | with_reducible refine st_agg (by kernel_rfl) rfl (by simp only [natV, intV, S3, *]) fun _ _ _ _ => ?_
    | with_reducible refine wpd_quiet_lit (by kernel_rfl) (by kernel_rfl) (by kernel_rfl) ?_
    | ((with_reducible refine at_f 19 ?_); refine ret_k (worldRuns (B := B) FR (hX _ FR) hlen.out) fun _ _ _ => ?_)
    | ((with_reducible refine at_f 20 ?_); refine ret_k (ref13Runs (B := B) FR (hX _ FR) hlen.out) fun _ _ _ => ?_)
    | ((with_reducible refine at_f 21 ?_); refine ret_k (ref12Ints (a := whereL x svc) (b := whereL x svc) (Nat.le_refl _) (Nat.le_refl _) (d10.sl1 (f := intV)) (d13.sl1 (f := intV))) fun _ _ _ => ?_)
    | ((with_reducible refine at_f 24 ?_); refine ret_k (worldHas (r := ⟨svc, host⟩) (B := B) FR (hX _ FR)) fun _ _ _ => ?_)
    | ((with_reducible refine at_f 25 ?_); refine ret_k (ref13Has (r := ⟨svc, host⟩) (B := B) FR (hX _ FR)) fun _ _ _ => ?_)
    | ((with_reducible refine at_f 26 ?_); refine ret_k (worldUsed (B := B) FR (hW _ FR) (hX _ FR)) fun _ _ _ => ?_)
    | ((with_reducible refine at_f 27 ?_); refine ret_k (ref13Used (B := B) FR (hW _ FR) (hX _ FR)) fun _ _ _ => ?_)
    | ((with_reducible refine at_f 11 ?_); refine ret_k (live13) fun _ _ _ => ?_)
    | simp (maxDischargeDepth := 3) only [↓X, ↓Y, ↓Q, S1, ↓reduceIte, Nat.reduceEqDiff, Nat.reduceAdd, Int.reduceLT, Int.reduceLE, Int.reduceNeg, Int.reduceBEq, Int.reduceBNe, Int.reduceEq, Nat.reduceLeDiff, Nat.reduceMul, Nat.reduceLT, natV, intV, putAt, idxOk, flatP, *, replicaV]
    | simp (singlePass := true) (maxDischargeDepth := 99) only [*, S2, Nat.reduceLT, replicaV])
      · have e := Option.some.inj ho
        subst e
        have d36 : (gF 55) = .bool true := hdep ⟨36, .data⟩ (by simp) rfl _ _ rfl rfl
        have d37 : (gF 56) = .bool true := hdep ⟨37, .data⟩ (by simp) rfl _ _ rfl rfl
        clear hag hdep ho
        refine relStep_off rfl ?_
        (repeat' first
    | with_reducible refine alloc_k fun _ _ _ _ _ _ => ?_
    | ((with_reducible refine at_row ?_); refine row1_k (by rfl) (by decide) fun _ _ _ _ _ _ _ => ?_)
    | with_reducible refine row_k fun _ _ _ _ _ _ => ?_
    | with_reducible refine fork (fun _ => ?_) (fun _ => ?_)
    | with_reducible refine forkp (fun _ => ?_) (fun _ => ?_)
    | with_reducible refine forke (fun _ => ?_) (fun _ _ => ?_)
    | with_reducible refine tail_k fun _ _ _ => ?_
    | with_reducible refine ext_k fun _ _ _ => ?_
    | with_reducible refine need (by first | kernel_rfl | omega | assumption) ?_
    | with_reducible refine st_agg (by kernel_rfl) rfl (by simp only [natV, intV, S3, *]) fun _ _ _ _ => ?_
    | with_reducible refine wpd_quiet_lit (by kernel_rfl) (by kernel_rfl) (by kernel_rfl) ?_
    | ((with_reducible refine at_f 19 ?_); refine ret_k (worldRuns (B := B) FR (hX _ FR) hlen.out) fun _ _ _ => ?_)
    | ((with_reducible refine at_f 20 ?_); refine ret_k (ref13Runs (B := B) FR (hX _ FR) hlen.out) fun _ _ _ => ?_)
    | ((with_reducible refine at_f 21 ?_); refine ret_k (ref12Ints (a := whereL x svc) (b := whereL x svc) (Nat.le_refl _) (Nat.le_refl _) (d10.sl1 (f := intV)) (d13.sl1 (f := intV))) fun _ _ _ => ?_)
    | ((with_reducible refine at_f 24 ?_); refine ret_k (worldHas (r := ⟨svc, host⟩) (B := B) FR (hX _ FR)) fun _ _ _ => ?_)
    | ((with_reducible refine at_f 25 ?_); refine ret_k (ref13Has (r := ⟨svc, host⟩) (B := B) FR (hX _ FR)) fun _ _ _ => ?_)
    | ((with_reducible refine at_f 26 ?_); refine ret_k (worldUsed (B := B) FR (hW _ FR) (hX _ FR)) fun _ _ _ => ?_)
    | ((with_reducible refine at_f 27 ?_); refine ret_k (ref13Used (B := B) FR (hW _ FR) (hX _ FR)) fun _ _ _ => ?_)
    | ((with_reducible refine at_f 11 ?_); refine ret_k (live13) fun _ _ _ => ?_)
    | simp (maxDischargeDepth := 3) only [↓X, ↓Y, ↓Q, S1, ↓reduceIte, Nat.reduceEqDiff, Nat.reduceAdd, Int.reduceLT, Int.reduceLE, Int.reduceNeg, Int.reduceBEq, Int.reduceBNe, Int.reduceEq, Nat.reduceLeDiff, Nat.reduceMul, Nat.reduceLT, natV, intV, putAt, idxOk, flatP, *, replicaV]
    | simp (singlePass := true) (maxDischargeDepth := 99) only [*, S2, Nat.reduceLT, replicaV])
      · omega
    · intro g9 w9 hx9 hR hag
      have s9 := hx9.st
      have n9 : Now w9 := trivial
      have r9 := Ext.refl w9
      have z9 := hx9.size
      have d38 : (g9 57) = .bool true := hR 38 _ _ (by decide) rfl rfl
      clear hag hR
      simp only [List.drop_succ_cons, List.drop_zero]
      (repeat' first
    | with_reducible refine alloc_k fun _ _ _ _ _ _ => ?_
    | ((with_reducible refine at_row ?_); refine row1_k (by rfl) (by decide) fun _ _ _ _ _ _ _ => ?_)
    | with_reducible refine row_k fun _ _ _ _ _ _ => ?_
    | with_reducible refine fork (fun _ => ?_) (fun _ => ?_)
    | with_reducible refine forkp (fun _ => ?_) (fun _ => ?_)
    | with_reducible refine forke (fun _ => ?_) (fun _ _ => ?_)
    | with_reducible refine tail_k fun _ _ _ => ?_
    | with_reducible refine ext_k fun _ _ _ => ?_
    | with_reducible refine need (by first | kernel_rfl | omega | assumption) ?_
    | with_reducible refine st_agg (by kernel_rfl) rfl (by simp only [natV, intV, S3, *]) fun _ _ _ _ => ?_
    | with_reducible refine wpd_quiet_lit (by kernel_rfl) (by kernel_rfl) (by kernel_rfl) ?_
    | simp (maxDischargeDepth := 3) only [↓X, ↓Y, ↓Q, S1, ↓reduceIte, Nat.reduceEqDiff, Nat.reduceAdd, Int.reduceLT, Int.reduceLE, Int.reduceNeg, Int.reduceBEq, Int.reduceBNe, Int.reduceEq, Nat.reduceLeDiff, Nat.reduceMul, Nat.reduceLT, natV, intV, putAt, idxOk, flatP, *]
    | simp (singlePass := true) (maxDischargeDepth := 99) only [*, S2, Nat.reduceLT])
end
end Go.Proofs.Ytbfmabkdggllhaa
