
/- The document's answer, layer 19: Undo. -/
import Derived.Test.YtcdeeoakoljlpaaGreatRef19b
namespace Go.Proofs.YtcdeeoakoljlpaaGreat
set_option linter.unusedSimpArgs false
set_option linter.unusedVariables false
open Go Go.RowKit
set_option maxRecDepth 100000
set_option linter.unusedSectionVars false
set_option maxHeartbeats 2000000
section
variable {w : World} {B : Nat} {u : SiteVs} {s : SiteD} {wv hv rv : Value} {l : List SrvV} {x : WorldD} {st : StepD} {wl : List ServiceD}
theorem ref19Undo (hB : B ≤ w.heap.size) (hs : SiteR w B u s) (hl : WishR w B wv l) (hx0 : WorldR w B hv rv x) : CallsV Tryz.prog 16 #[.agg (siteC u s).toArray, .agg #[wv], .agg #[hv, rv], stepV st] w fun v w' => Ext w w' ∧ ∃ v0, v = .tuple #[v0, .bool (lastB s (l.map (·.x)) x st), intV (applyE s (l.map (·.x)) x st)] ∧ Own w' w.heap.size 39 4 v0 ((undoL s (l.map (·.x)) x st).map stepC) := by
  have hn : Now w := trivial
  have hx : Ext w w := Ext.refl w
  have hs' := hs.sk hB
  have hl' := hl.sk hB
  have hx' := hx0.sk hB
  have hS := hs'.2.2.2.2.2.2
  have hW := hl'.2.2
  have hX := hx'.2.2.2.2
  have hap := fun w' (h1 : Bl B w w') (h3 : B ≤ w'.heap.size) => ref19Apply (st := st) h3 (hS w' h1) (hW w' h1) (hX w' h1)
  have hE : applyE s (l.map (·.x)) x st = 0 → RdyOk s (l.map (·.x)) x st := fun h => rdy_ok (apply_iff.1 h)
  have hL : undoL s (l.map (·.x)) x st = if applyE s (l.map (·.x)) x st = 0 then undoS x st else [] := rfl
  have hT : lastB s (l.map (·.x)) x st = (decide (applyE s (l.map (·.x)) x st = 0) && (undoS x st).isEmpty) := rfl
  rw [hL, hT]
  clear hL hT
  generalize applyE s (l.map (·.x)) x st = E at *
  generalize applyW s (l.map (·.x)) x st = W at *
  replace hE : Hid _ := hE
  (refine callsV_of Tryz.func16 rfl (by kernel_rfl) (by kernel_rfl) ?_; rw [Tryz.results16])
  by_cases hE0 : E = 0
  · subst hE0
    have ho := hE.out rfl
    rw [if_pos rfl, show (decide ((0 : Int) = 0) && (undoS x st).isEmpty) = (undoS x st).isEmpty by simp]
    clear hE
    obtain ⟨kd, hst, sv, vr⟩ := st
    obtain ⟨k, rfl⟩ : ∃ k : Nat, hst = k := ⟨hst.toNat, by have := ho.host; simp only at this; omega⟩
    have hlt : k < x.hosts.length := by have := ho.host; simp only at this; omega
    have hat : hostAt x k = x.hosts[k] := by simp [hostAt, hlt]
    have hus : undoS x ⟨kd, k, sv, vr⟩ = (undoK x ⟨kd, k, sv, vr⟩).map (undoF ⟨kd, k, sv, vr⟩) := rfl
    have hu : Hid (∀ r, (if kd = 1 then [2] else if kd = 2 then (if x.hosts[k].phase = 0 then [1] else if x.hosts[k].phase = 1 then [6, 1, 3] else []) else if kd = 3 then [6] else if kd = 4 then [6, 3] else if kd = 5 then [6, 3, 4]
        else if kd = 6 then (if x.hosts[k].phase = 1 then [3] else if runsB x k = true then [] else if x.hosts[k].phase = 2 then [3, 4] else if x.hosts[k].phase = 3 then [3, 4, 5] else []) else []) = r → undoK x ⟨kd, k, sv, vr⟩ = r) := fun r h => by
      rw [← h]; simp only [undoK, hat]
    have h6 : Hid (kd = 6 → x.hosts[k].phase = 1 ∨ x.hosts[k].phase = 2 ∨ x.hosts[k].phase = 3) := fun h => by
      have := ready6 ho h
      simpa only [hat] using this
    rw [hus]
    clear hus hat ho
    have hru := fun w' (h1 : Bl B w w') (h3 : B ≤ w'.heap.size) => ref19runs (h := k) h3 (hX w' h1)
    have hki := fun kd w' (kv : Value) ks B' => ref19kinds (w := w') (st := ⟨kd, k, sv, vr⟩) (kv := kv) (ks := ks) (B' := B')
    have hF : ∀ kd', undoF ⟨kd', k, sv, vr⟩ = undoF ⟨kd, k, sv, vr⟩ := fun _ => rfl
    simp only [hF] at hki
    generalize runsB x k = rb at *
    generalize undoK x ⟨kd, k, sv, vr⟩ = ks at *
    generalize undoF ⟨kd, k, sv, vr⟩ = F at *
    replace hru : Hid _ := hru
    replace hki : Hid _ := hki
    (repeat' first
    | with_reducible refine alloc_k fun _ _ _ _ _ _ => ?_
    | ((with_reducible refine at_row ?_); refine row1_k (by rfl) (by decide) fun _ _ _ _ _ _ _ => ?_)
    | with_reducible refine row_k fun _ _ _ _ _ _ => ?_
    | with_reducible refine fork (fun _ => ?_) (fun _ => ?_)
    | with_reducible refine forkp (fun _ => ?_) (fun _ => ?_)
    | with_reducible refine forke (fun _ => ?_) (fun _ _ => ?_)
    | with_reducible refine tail_k fun _ _ _ => ?_
    | with_reducible refine ext_k fun _ _ _ => ?_
    | with_reducible refine need (by first | kernel_rfl | omega | assumption) ?_
    | with_reducible refine st_agg (by kernel_rfl) rfl (by simp only [natV, intV, S3, *]) fun _ _ _ _ => ?_
    | with_reducible refine wpd_quiet_lit (by kernel_rfl) (by kernel_rfl) (by kernel_rfl) ?_
    | simp (maxDischargeDepth := 3) only [↓X, ↓Y, ↓Q, S1, ↓reduceIte, Nat.reduceEqDiff, Nat.reduceAdd, Int.reduceLT, Int.reduceLE, Int.reduceNeg, Int.reduceBEq, Int.reduceBNe, Int.reduceEq, Nat.reduceLeDiff, Nat.reduceMul, Nat.reduceLT, natV, intV, putAt, idxOk, flatP, *, siteC, stepV, stepC]
    | simp (singlePass := true) (maxDischargeDepth := 99) only [*, S2, Nat.reduceLT, siteC, stepV, stepC])
    refine call_k (hap _ FR FR) ?_
    rintro _ w1 n1 s1 ⟨u1, rfl, o1⟩
    obtain ⟨h1, r1, rfl, oh, or⟩ := o1
    have a1 := oh.one
    have a2 := or.one
    clear oh or hap hs' hl' hS hW hs hl hF
    (repeat' first
    | with_reducible refine alloc_k fun _ _ _ _ _ _ => ?_
    | ((with_reducible refine at_row ?_); refine row1_k (by rfl) (by decide) fun _ _ _ _ _ _ _ => ?_)
    | with_reducible refine row_k fun _ _ _ _ _ _ => ?_
    | with_reducible refine fork (fun _ => ?_) (fun _ => ?_)
    | with_reducible refine forkp (fun _ => ?_) (fun _ => ?_)
    | with_reducible refine forke (fun _ => ?_) (fun _ _ => ?_)
    | with_reducible refine tail_k fun _ _ _ => ?_
    | with_reducible refine ext_k fun _ _ _ => ?_
    | with_reducible refine need (by first | kernel_rfl | omega | assumption) ?_
    | with_reducible refine st_agg (by kernel_rfl) rfl (by simp only [natV, intV, S3, *]) fun _ _ _ _ => ?_
    | with_reducible refine wpd_quiet_lit (by kernel_rfl) (by kernel_rfl) (by kernel_rfl) ?_
    | ((with_reducible refine at_f 30 ?_); refine ret_k (hru.out _ FR FR) fun _ _ _ => ?_)
    | simp (maxDischargeDepth := 3) only [↓X, ↓Y, ↓Q, S1, ↓reduceIte, Nat.reduceEqDiff, Nat.reduceAdd, Int.reduceLT, Int.reduceLE, Int.reduceNeg, Int.reduceBEq, Int.reduceBNe, Int.reduceEq, Nat.reduceLeDiff, Nat.reduceMul, Nat.reduceLT, natV, intV, putAt, idxOk, flatP, *, siteC, stepV, stepC, stateV]
    | simp (singlePass := true) (maxDischargeDepth := 99) only [*, S2, Nat.reduceLT, siteC, stepV, stepC, stateV])
    · rename_i b6 w6 n6 k6 s6 q6 l6
      obtain rfl := hu.out [2] (by rw [if_pos (by assumption)])
      refine call_k (hki.out _ _ _ [2] _ (Nat.le_refl _) (l6 _ FR) (by decide)) ?_
      rintro v w7 n7 s7 hown
      have hll := hown.l
      simp only [List.length_map, List.length_cons, List.length_nil, Nat.reduceAdd] at hll
      have ok := hown.o
      clear hown hu h6 hki l6
      (repeat' first
    | with_reducible refine alloc_k fun _ _ _ _ _ _ => ?_
    | ((with_reducible refine at_row ?_); refine row1_k (by rfl) (by decide) fun _ _ _ _ _ _ _ => ?_)
    | with_reducible refine row_k fun _ _ _ _ _ _ => ?_
    | with_reducible refine fork (fun _ => ?_) (fun _ => ?_)
    | with_reducible refine forkp (fun _ => ?_) (fun _ => ?_)
    | with_reducible refine forke (fun _ => ?_) (fun _ _ => ?_)
    | with_reducible refine tail_k fun _ _ _ => ?_
    | with_reducible refine ext_k fun _ _ _ => ?_
    | with_reducible refine need (by first | kernel_rfl | omega | assumption) ?_
    | with_reducible refine st_agg (by kernel_rfl) rfl (by simp only [natV, intV, S3, *]) fun _ _ _ _ => ?_
    | with_reducible refine wpd_quiet_lit (by kernel_rfl) (by kernel_rfl) (by kernel_rfl) ?_
    | simp (maxDischargeDepth := 3) only [↓X, ↓Y, ↓Q, S1, ↓reduceIte, Nat.reduceEqDiff, Nat.reduceAdd, Int.reduceLT, Int.reduceLE, Int.reduceNeg, Int.reduceBEq, Int.reduceBNe, Int.reduceEq, Nat.reduceLeDiff, Nat.reduceMul, Nat.reduceLT, natV, intV, putAt, idxOk, flatP, *, hll.1]
    | simp (singlePass := true) (maxDischargeDepth := 99) only [*, S2, Nat.reduceLT, hll.1])
      exact ⟨_, rfl, (ok.1 _ FR).more FR⟩
    · rename_i b6 w6 n6 k6 s6 q6 l6
      obtain rfl := hu.out [1] (by rw [if_neg (by omega), if_pos (by assumption), if_pos (by assumption)])
      refine call_k (hki.out _ _ _ [1] _ (Nat.le_refl _) (l6 _ FR) (by decide)) ?_
      rintro v w7 n7 s7 hown
      have hll := hown.l
      simp only [List.length_map, List.length_cons, List.length_nil, Nat.reduceAdd] at hll
      have ok := hown.o
      clear hown hu h6 hki l6
      (repeat' first
    | with_reducible refine alloc_k fun _ _ _ _ _ _ => ?_
    | ((with_reducible refine at_row ?_); refine row1_k (by rfl) (by decide) fun _ _ _ _ _ _ _ => ?_)
    | with_reducible refine row_k fun _ _ _ _ _ _ => ?_
    | with_reducible refine fork (fun _ => ?_) (fun _ => ?_)
    | with_reducible refine forkp (fun _ => ?_) (fun _ => ?_)
    | with_reducible refine forke (fun _ => ?_) (fun _ _ => ?_)
    | with_reducible refine tail_k fun _ _ _ => ?_
    | with_reducible refine ext_k fun _ _ _ => ?_
    | with_reducible refine need (by first | kernel_rfl | omega | assumption) ?_
    | with_reducible refine st_agg (by kernel_rfl) rfl (by simp only [natV, intV, S3, *]) fun _ _ _ _ => ?_
    | with_reducible refine wpd_quiet_lit (by kernel_rfl) (by kernel_rfl) (by kernel_rfl) ?_
    | simp (maxDischargeDepth := 3) only [↓X, ↓Y, ↓Q, S1, ↓reduceIte, Nat.reduceEqDiff, Nat.reduceAdd, Int.reduceLT, Int.reduceLE, Int.reduceNeg, Int.reduceBEq, Int.reduceBNe, Int.reduceEq, Nat.reduceLeDiff, Nat.reduceMul, Nat.reduceLT, natV, intV, putAt, idxOk, flatP, *, hll.1]
    | simp (singlePass := true) (maxDischargeDepth := 99) only [*, S2, Nat.reduceLT, hll.1])
      exact ⟨_, rfl, (ok.1 _ FR).more FR⟩
    · rename_i b6 w6 n6 k6 s6 q6 l6
      obtain rfl := hu.out [6, 1, 3] (by rw [if_neg (by omega), if_pos (by assumption), if_neg (by assumption), if_pos (by assumption)])
      refine call_k (hki.out _ _ _ [6, 1, 3] _ (Nat.le_refl _) (l6 _ FR) (by decide)) ?_
      rintro v w7 n7 s7 hown
      have hll := hown.l
      simp only [List.length_map, List.length_cons, List.length_nil, Nat.reduceAdd] at hll
      have ok := hown.o
      clear hown hu h6 hki l6
      (repeat' first
    | with_reducible refine alloc_k fun _ _ _ _ _ _ => ?_
    | ((with_reducible refine at_row ?_); refine row1_k (by rfl) (by decide) fun _ _ _ _ _ _ _ => ?_)
    | with_reducible refine row_k fun _ _ _ _ _ _ => ?_
    | with_reducible refine fork (fun _ => ?_) (fun _ => ?_)
    | with_reducible refine forkp (fun _ => ?_) (fun _ => ?_)
    | with_reducible refine forke (fun _ => ?_) (fun _ _ => ?_)
    | with_reducible refine tail_k fun _ _ _ => ?_
    | with_reducible refine ext_k fun _ _ _ => ?_
    | with_reducible refine need (by first | kernel_rfl | omega | assumption) ?_
    | with_reducible refine st_agg (by kernel_rfl) rfl (by simp only [natV, intV, S3, *]) fun _ _ _ _ => ?_
    | with_reducible refine wpd_quiet_lit (by kernel_rfl) (by kernel_rfl) (by kernel_rfl) ?_
    | simp (maxDischargeDepth := 3) only [↓X, ↓Y, ↓Q, S1, ↓reduceIte, Nat.reduceEqDiff, Nat.reduceAdd, Int.reduceLT, Int.reduceLE, Int.reduceNeg, Int.reduceBEq, Int.reduceBNe, Int.reduceEq, Nat.reduceLeDiff, Nat.reduceMul, Nat.reduceLT, natV, intV, putAt, idxOk, flatP, *, hll.1]
    | simp (singlePass := true) (maxDischargeDepth := 99) only [*, S2, Nat.reduceLT, hll.1])
      exact ⟨_, rfl, (ok.1 _ FR).more FR⟩
    · obtain rfl := hu.out [] (by rw [if_neg (by omega), if_pos (by assumption), if_neg (by assumption), if_neg (by assumption)])
      exact ⟨_, rfl, Own.nil _ _ _ _⟩
    · rename_i b6 w6 n6 k6 s6 q6 l6
      obtain rfl := hu.out [6] (by rw [if_neg (by omega), if_neg (by omega), if_pos (by assumption)])
      refine call_k (hki.out _ _ _ [6] _ (Nat.le_refl _) (l6 _ FR) (by decide)) ?_
      rintro v w7 n7 s7 hown
      have hll := hown.l
      simp only [List.length_map, List.length_cons, List.length_nil, Nat.reduceAdd] at hll
      have ok := hown.o
      clear hown hu h6 hki l6
      (repeat' first
    | with_reducible refine alloc_k fun _ _ _ _ _ _ => ?_
    | ((with_reducible refine at_row ?_); refine row1_k (by rfl) (by decide) fun _ _ _ _ _ _ _ => ?_)
    | with_reducible refine row_k fun _ _ _ _ _ _ => ?_
    | with_reducible refine fork (fun _ => ?_) (fun _ => ?_)
    | with_reducible refine forkp (fun _ => ?_) (fun _ => ?_)
    | with_reducible refine forke (fun _ => ?_) (fun _ _ => ?_)
    | with_reducible refine tail_k fun _ _ _ => ?_
    | with_reducible refine ext_k fun _ _ _ => ?_
    | with_reducible refine need (by first | kernel_rfl | omega | assumption) ?_
    | with_reducible refine st_agg (by kernel_rfl) rfl (by simp only [natV, intV, S3, *]) fun _ _ _ _ => ?_
    | with_reducible refine wpd_quiet_lit (by kernel_rfl) (by kernel_rfl) (by kernel_rfl) ?_
    | simp (maxDischargeDepth := 3) only [↓X, ↓Y, ↓Q, S1, ↓reduceIte, Nat.reduceEqDiff, Nat.reduceAdd, Int.reduceLT, Int.reduceLE, Int.reduceNeg, Int.reduceBEq, Int.reduceBNe, Int.reduceEq, Nat.reduceLeDiff, Nat.reduceMul, Nat.reduceLT, natV, intV, putAt, idxOk, flatP, *, hll.1]
    | simp (singlePass := true) (maxDischargeDepth := 99) only [*, S2, Nat.reduceLT, hll.1])
      exact ⟨_, rfl, (ok.1 _ FR).more FR⟩
    · rename_i b6 w6 n6 k6 s6 q6 l6
      obtain rfl := hu.out [6, 3] (by rw [if_neg (by omega), if_neg (by omega), if_neg (by omega), if_pos (by assumption)])
      refine call_k (hki.out _ _ _ [6, 3] _ (Nat.le_refl _) (l6 _ FR) (by decide)) ?_
      rintro v w7 n7 s7 hown
      have hll := hown.l
      simp only [List.length_map, List.length_cons, List.length_nil, Nat.reduceAdd] at hll
      have ok := hown.o
      clear hown hu h6 hki l6
      (repeat' first
    | with_reducible refine alloc_k fun _ _ _ _ _ _ => ?_
    | ((with_reducible refine at_row ?_); refine row1_k (by rfl) (by decide) fun _ _ _ _ _ _ _ => ?_)
    | with_reducible refine row_k fun _ _ _ _ _ _ => ?_
    | with_reducible refine fork (fun _ => ?_) (fun _ => ?_)
    | with_reducible refine forkp (fun _ => ?_) (fun _ => ?_)
    | with_reducible refine forke (fun _ => ?_) (fun _ _ => ?_)
    | with_reducible refine tail_k fun _ _ _ => ?_
    | with_reducible refine ext_k fun _ _ _ => ?_
    | with_reducible refine need (by first | kernel_rfl | omega | assumption) ?_
    | with_reducible refine st_agg (by kernel_rfl) rfl (by simp only [natV, intV, S3, *]) fun _ _ _ _ => ?_
    | with_reducible refine wpd_quiet_lit (by kernel_rfl) (by kernel_rfl) (by kernel_rfl) ?_
    | simp (maxDischargeDepth := 3) only [↓X, ↓Y, ↓Q, S1, ↓reduceIte, Nat.reduceEqDiff, Nat.reduceAdd, Int.reduceLT, Int.reduceLE, Int.reduceNeg, Int.reduceBEq, Int.reduceBNe, Int.reduceEq, Nat.reduceLeDiff, Nat.reduceMul, Nat.reduceLT, natV, intV, putAt, idxOk, flatP, *, hll.1]
    | simp (singlePass := true) (maxDischargeDepth := 99) only [*, S2, Nat.reduceLT, hll.1])
      exact ⟨_, rfl, (ok.1 _ FR).more FR⟩
    · rename_i b6 w6 n6 k6 s6 q6 l6
      obtain rfl := hu.out [6, 3, 4] (by rw [if_neg (by omega), if_neg (by omega), if_neg (by omega), if_neg (by omega), if_pos (by assumption)])
      refine call_k (hki.out _ _ _ [6, 3, 4] _ (Nat.le_refl _) (l6 _ FR) (by decide)) ?_
      rintro v w7 n7 s7 hown
      have hll := hown.l
      simp only [List.length_map, List.length_cons, List.length_nil, Nat.reduceAdd] at hll
      have ok := hown.o
      clear hown hu h6 hki l6
      (repeat' first
    | with_reducible refine alloc_k fun _ _ _ _ _ _ => ?_
    | ((with_reducible refine at_row ?_); refine row1_k (by rfl) (by decide) fun _ _ _ _ _ _ _ => ?_)
    | with_reducible refine row_k fun _ _ _ _ _ _ => ?_
    | with_reducible refine fork (fun _ => ?_) (fun _ => ?_)
    | with_reducible refine forkp (fun _ => ?_) (fun _ => ?_)
    | with_reducible refine forke (fun _ => ?_) (fun _ _ => ?_)
    | with_reducible refine tail_k fun _ _ _ => ?_
    | with_reducible refine ext_k fun _ _ _ => ?_
    | with_reducible refine need (by first | kernel_rfl | omega | assumption) ?_
    | with_reducible refine st_agg (by kernel_rfl) rfl (by simp only [natV, intV, S3, *]) fun _ _ _ _ => ?_
    | with_reducible refine wpd_quiet_lit (by kernel_rfl) (by kernel_rfl) (by kernel_rfl) ?_
    | simp (maxDischargeDepth := 3) only [↓X, ↓Y, ↓Q, S1, ↓reduceIte, Nat.reduceEqDiff, Nat.reduceAdd, Int.reduceLT, Int.reduceLE, Int.reduceNeg, Int.reduceBEq, Int.reduceBNe, Int.reduceEq, Nat.reduceLeDiff, Nat.reduceMul, Nat.reduceLT, natV, intV, putAt, idxOk, flatP, *, hll.1]
    | simp (singlePass := true) (maxDischargeDepth := 99) only [*, S2, Nat.reduceLT, hll.1])
      exact ⟨_, rfl, (ok.1 _ FR).more FR⟩
    · rename_i b6 w6 n6 k6 s6 q6 l6
      obtain rfl := hu.out [3] (by rw [if_neg (by omega), if_neg (by omega), if_neg (by omega), if_neg (by omega), if_neg (by omega), if_pos (by assumption), if_pos (by assumption)])
      refine call_k (hki.out _ _ _ [3] _ (Nat.le_refl _) (l6 _ FR) (by decide)) ?_
      rintro v w7 n7 s7 hown
      have hll := hown.l
      simp only [List.length_map, List.length_cons, List.length_nil, Nat.reduceAdd] at hll
      have ok := hown.o
      clear hown hu h6 hki l6
      (repeat' first
    | with_reducible refine alloc_k fun _ _ _ _ _ _ => ?_
    | ((with_reducible refine at_row ?_); refine row1_k (by rfl) (by decide) fun _ _ _ _ _ _ _ => ?_)
    | with_reducible refine row_k fun _ _ _ _ _ _ => ?_
    | with_reducible refine fork (fun _ => ?_) (fun _ => ?_)
    | with_reducible refine forkp (fun _ => ?_) (fun _ => ?_)
    | with_reducible refine forke (fun _ => ?_) (fun _ _ => ?_)
    | with_reducible refine tail_k fun _ _ _ => ?_
    | with_reducible refine ext_k fun _ _ _ => ?_
    | with_reducible refine need (by first | kernel_rfl | omega | assumption) ?_
    | with_reducible refine st_agg (by kernel_rfl) rfl (by simp only [natV, intV, S3, *]) fun _ _ _ _ => ?_
    | with_reducible refine wpd_quiet_lit (by kernel_rfl) (by kernel_rfl) (by kernel_rfl) ?_
    | simp (maxDischargeDepth := 3) only [↓X, ↓Y, ↓Q, S1, ↓reduceIte, Nat.reduceEqDiff, Nat.reduceAdd, Int.reduceLT, Int.reduceLE, Int.reduceNeg, Int.reduceBEq, Int.reduceBNe, Int.reduceEq, Nat.reduceLeDiff, Nat.reduceMul, Nat.reduceLT, natV, intV, putAt, idxOk, flatP, *, hll.1]
    | simp (singlePass := true) (maxDischargeDepth := 99) only [*, S2, Nat.reduceLT, hll.1])
      exact ⟨_, rfl, (ok.1 _ FR).more FR⟩
    · obtain rfl := hu.out [] (by rw [if_neg (by omega), if_neg (by omega), if_neg (by omega), if_neg (by omega), if_neg (by omega), if_pos (by assumption), if_neg (by omega), if_pos (by assumption)])
      exact ⟨_, rfl, Own.nil _ _ _ _⟩
    · rename_i b6 w6 n6 k6 s6 q6 l6
      obtain rfl := hu.out [3, 4] (by rw [if_neg (by omega), if_neg (by omega), if_neg (by omega), if_neg (by omega), if_neg (by omega), if_pos (by assumption), if_neg (by omega), if_neg (by simp [*]), if_pos (by assumption)])
      refine call_k (hki.out _ _ _ [3, 4] _ (Nat.le_refl _) (l6 _ FR) (by decide)) ?_
      rintro v w7 n7 s7 hown
      have hll := hown.l
      simp only [List.length_map, List.length_cons, List.length_nil, Nat.reduceAdd] at hll
      have ok := hown.o
      clear hown hu h6 hki l6
      (repeat' first
    | with_reducible refine alloc_k fun _ _ _ _ _ _ => ?_
    | ((with_reducible refine at_row ?_); refine row1_k (by rfl) (by decide) fun _ _ _ _ _ _ _ => ?_)
    | with_reducible refine row_k fun _ _ _ _ _ _ => ?_
    | with_reducible refine fork (fun _ => ?_) (fun _ => ?_)
    | with_reducible refine forkp (fun _ => ?_) (fun _ => ?_)
    | with_reducible refine forke (fun _ => ?_) (fun _ _ => ?_)
    | with_reducible refine tail_k fun _ _ _ => ?_
    | with_reducible refine ext_k fun _ _ _ => ?_
    | with_reducible refine need (by first | kernel_rfl | omega | assumption) ?_
    | with_reducible refine st_agg (by kernel_rfl) rfl (by simp only [natV, intV, S3, *]) fun _ _ _ _ => ?_
    | with_reducible refine wpd_quiet_lit (by kernel_rfl) (by kernel_rfl) (by kernel_rfl) ?_
    | simp (maxDischargeDepth := 3) only [↓X, ↓Y, ↓Q, S1, ↓reduceIte, Nat.reduceEqDiff, Nat.reduceAdd, Int.reduceLT, Int.reduceLE, Int.reduceNeg, Int.reduceBEq, Int.reduceBNe, Int.reduceEq, Nat.reduceLeDiff, Nat.reduceMul, Nat.reduceLT, natV, intV, putAt, idxOk, flatP, *, hll.1]
    | simp (singlePass := true) (maxDischargeDepth := 99) only [*, S2, Nat.reduceLT, hll.1])
      exact ⟨_, rfl, (ok.1 _ FR).more FR⟩
    · obtain rfl := hu.out [] (by rw [if_neg (by omega), if_neg (by omega), if_neg (by omega), if_neg (by omega), if_neg (by omega), if_pos (by assumption), if_neg (by omega), if_pos (by assumption)])
      exact ⟨_, rfl, Own.nil _ _ _ _⟩
    · rename_i b6 w6 n6 k6 s6 q6 l6
      obtain rfl := hu.out [3, 4, 5] (by rw [if_neg (by omega), if_neg (by omega), if_neg (by omega), if_neg (by omega), if_neg (by omega), if_pos (by assumption), if_neg (by omega), if_neg (by simp [*]), if_neg (by omega), if_pos (by assumption)])
      refine call_k (hki.out _ _ _ [3, 4, 5] _ (Nat.le_refl _) (l6 _ FR) (by decide)) ?_
      rintro v w7 n7 s7 hown
      have hll := hown.l
      simp only [List.length_map, List.length_cons, List.length_nil, Nat.reduceAdd] at hll
      have ok := hown.o
      clear hown hu h6 hki l6
      (repeat' first
    | with_reducible refine alloc_k fun _ _ _ _ _ _ => ?_
    | ((with_reducible refine at_row ?_); refine row1_k (by rfl) (by decide) fun _ _ _ _ _ _ _ => ?_)
    | with_reducible refine row_k fun _ _ _ _ _ _ => ?_
    | with_reducible refine fork (fun _ => ?_) (fun _ => ?_)
    | with_reducible refine forkp (fun _ => ?_) (fun _ => ?_)
    | with_reducible refine forke (fun _ => ?_) (fun _ _ => ?_)
    | with_reducible refine tail_k fun _ _ _ => ?_
    | with_reducible refine ext_k fun _ _ _ => ?_
    | with_reducible refine need (by first | kernel_rfl | omega | assumption) ?_
    | with_reducible refine st_agg (by kernel_rfl) rfl (by simp only [natV, intV, S3, *]) fun _ _ _ _ => ?_
    | with_reducible refine wpd_quiet_lit (by kernel_rfl) (by kernel_rfl) (by kernel_rfl) ?_
    | simp (maxDischargeDepth := 3) only [↓X, ↓Y, ↓Q, S1, ↓reduceIte, Nat.reduceEqDiff, Nat.reduceAdd, Int.reduceLT, Int.reduceLE, Int.reduceNeg, Int.reduceBEq, Int.reduceBNe, Int.reduceEq, Nat.reduceLeDiff, Nat.reduceMul, Nat.reduceLT, natV, intV, putAt, idxOk, flatP, *, hll.1]
    | simp (singlePass := true) (maxDischargeDepth := 99) only [*, S2, Nat.reduceLT, hll.1])
      exact ⟨_, rfl, (ok.1 _ FR).more FR⟩
    · exfalso
      have := h6.out (by assumption)
      omega
    · obtain rfl := hu.out [] (by rw [if_neg (by omega), if_neg (by omega), if_neg (by omega), if_neg (by omega), if_neg (by omega), if_neg (by omega)])
      exact ⟨_, rfl, Own.nil _ _ _ _⟩
  · rw [if_neg hE0, show (decide (E = 0) && (undoS x st).isEmpty) = false by simp [hE0]]
    (repeat' first
    | with_reducible refine alloc_k fun _ _ _ _ _ _ => ?_
    | ((with_reducible refine at_row ?_); refine row1_k (by rfl) (by decide) fun _ _ _ _ _ _ _ => ?_)
    | with_reducible refine row_k fun _ _ _ _ _ _ => ?_
    | with_reducible refine fork (fun _ => ?_) (fun _ => ?_)
    | with_reducible refine forkp (fun _ => ?_) (fun _ => ?_)
    | with_reducible refine forke (fun _ => ?_) (fun _ _ => ?_)
    | with_reducible refine tail_k fun _ _ _ => ?_
    | with_reducible refine ext_k fun _ _ _ => ?_
    | with_reducible refine need (by first | kernel_rfl | omega | assumption) ?_
    | with_reducible refine st_agg (by kernel_rfl) rfl (by simp only [natV, intV, S3, *]) fun _ _ _ _ => ?_
    | with_reducible refine wpd_quiet_lit (by kernel_rfl) (by kernel_rfl) (by kernel_rfl) ?_
    | simp (maxDischargeDepth := 3) only [↓X, ↓Y, ↓Q, S1, ↓reduceIte, Nat.reduceEqDiff, Nat.reduceAdd, Int.reduceLT, Int.reduceLE, Int.reduceNeg, Int.reduceBEq, Int.reduceBNe, Int.reduceEq, Nat.reduceLeDiff, Nat.reduceMul, Nat.reduceLT, natV, intV, putAt, idxOk, flatP, *, siteC, stepV, stepC]
    | simp (singlePass := true) (maxDischargeDepth := 99) only [*, S2, Nat.reduceLT, siteC, stepV, stepC])
    refine call_k (hap _ FR FR) ?_
    rintro _ w1 n1 s1 ⟨u1, rfl, o1⟩
    obtain ⟨h1, r1, rfl, oh, or⟩ := o1
    have a1 := oh.one
    have a2 := or.one
    clear oh or hap
    have hE1 : (E == 0) = false := by simpa using hE0
    (repeat' first
    | with_reducible refine alloc_k fun _ _ _ _ _ _ => ?_
    | ((with_reducible refine at_row ?_); refine row1_k (by rfl) (by decide) fun _ _ _ _ _ _ _ => ?_)
    | with_reducible refine row_k fun _ _ _ _ _ _ => ?_
    | with_reducible refine fork (fun _ => ?_) (fun _ => ?_)
    | with_reducible refine forkp (fun _ => ?_) (fun _ => ?_)
    | with_reducible refine forke (fun _ => ?_) (fun _ _ => ?_)
    | with_reducible refine tail_k fun _ _ _ => ?_
    | with_reducible refine ext_k fun _ _ _ => ?_
    | with_reducible refine need (by first | kernel_rfl | omega | assumption) ?_
    | with_reducible refine st_agg (by kernel_rfl) rfl (by simp only [natV, intV, S3, *]) fun _ _ _ _ => ?_
    | with_reducible refine wpd_quiet_lit (by kernel_rfl) (by kernel_rfl) (by kernel_rfl) ?_
    | simp (maxDischargeDepth := 3) only [↓X, ↓Y, ↓Q, S1, ↓reduceIte, Nat.reduceEqDiff, Nat.reduceAdd, Int.reduceLT, Int.reduceLE, Int.reduceNeg, Int.reduceBEq, Int.reduceBNe, Int.reduceEq, Nat.reduceLeDiff, Nat.reduceMul, Nat.reduceLT, natV, intV, putAt, idxOk, flatP, *]
    | simp (singlePass := true) (maxDischargeDepth := 99) only [*, S2, Nat.reduceLT])
    exact ⟨_, rfl, Own.nil _ _ _ _⟩
end
end Go.Proofs.YtcdeeoakoljlpaaGreat
