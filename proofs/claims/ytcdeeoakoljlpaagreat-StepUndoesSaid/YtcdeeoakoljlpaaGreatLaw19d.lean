
/- The statement StepUndoes. -/
import Derived.Test.YtcdeeoakoljlpaaGreatLive19
import Derived.Test.YtcdeeoakoljlpaaGreatRelA
namespace Go.Proofs.YtcdeeoakoljlpaaGreat
set_option linter.unusedSimpArgs false
set_option linter.unusedVariables false
open Go Go.RowKit
set_option maxRecDepth 100000
set_option linter.unusedSectionVars false
set_option maxHeartbeats 4000000
section
variable {w : World} {B B' : Nat} {u : SiteVs} {s : SiteD} {wv hv rv : Value} {l : List SrvV} {x : WorldD} {st : StepD}
theorem runU_step {wl : List ServiceD} {v : WorldD} {us : List StepD} {k : Nat} (hk : k < us.length) (h : runU s wl v (us.drop k) = some x) : readyB s wl v us[k] = true ∧ applyE s wl v us[k] = 0 ∧ runU s wl (applyW s wl v us[k]) (us.drop (k + 1)) = some x := by
  rw [List.drop_eq_getElem_cons hk, runU] at h
  split at h
  · rename_i hr
    exact ⟨hr, apply_zero hr, h⟩
  · cases h
theorem lawStepUndoes (hB : B ≤ w.heap.size) (hs : SiteR w B u s) (hl : WishR w B wv l) (hx0 : WorldR w B hv rv x) : Ret Tryz.prog 5 #[.agg (siteC u s).toArray, .agg #[wv], .agg #[hv, rv], stepV st] w (.bool true) := by
  have hn : Now w := trivial
  have hx : Ext w w := Ext.refl w
  have hs' := hs.sk hB
  have hl' := hl.sk hB
  have hx' := hx0.sk hB
  have hS := hs'.2.2.2.2.2.2
  have hW := hl'.2.2
  have hX := hx'.2.2.2.2
  have hf := fun w' (h1 : Bl B w w') (h3 : B ≤ w'.heap.size) => few19 h3 (hS w' h1) (hW w' h1) (hX w' h1)
  have hap := fun w' (h1 : Bl B w w') (h3 : B ≤ w'.heap.size) => stepApply (st := st) h3 (hS w' h1) (hW w' h1) (hX w' h1)
  have hun := fun w' (h1 : Bl B w w') (h3 : B ≤ w'.heap.size) => stepUndo (st := st) h3 (hS w' h1) (hW w' h1) (hX w' h1)
  have hok : applyE s (l.map (·.x)) x st = 0 → Hid (validB s (l.map (·.x)) (applyW s (l.map (·.x)) x st) = true ∧ undoL s (l.map (·.x)) x st = undoS x st ∧ lastB s (l.map (·.x)) x st = (undoS x st).isEmpty ∧ (undoS x st).length ≤ 3 ∧ ((undoS x st).isEmpty = false → runU s (l.map (·.x)) (applyW s (l.map (·.x)) x st) (undoS x st) = some x)) := fun h => by
    have hr := apply_iff.1 h
    refine ⟨apply_valid hr, by rw [undoL, if_pos h], by rw [lastB, h]; simp, by have := undoK_len x st; simpa [undoS] using this, fun hne => undo_back hr fun e => ?_⟩
    rw [undoS, e] at hne
    cases hne
  have hE0 : applyE s (l.map (·.x)) x st = 0 ∨ ¬ applyE s (l.map (·.x)) x st = 0 := by omega
  generalize few19B s (l.map (·.x)) x = fb at hf
  generalize applyE s (l.map (·.x)) x st = E at *
  generalize applyW s (l.map (·.x)) x st = W at *
  generalize undoL s (l.map (·.x)) x st = ul at *
  generalize lastB s (l.map (·.x)) x st = la at *
  generalize undoS x st = us at *
  replace hap : Hid _ := hap
  replace hun : Hid _ := hun
  replace hok : Hid _ := hok
  (refine callsV_of Tryz.func5 rfl (by kernel_rfl) (by kernel_rfl) ?_; rw [Tryz.results5])
  cases fb
  · (repeat' first
    | with_reducible refine alloc_k fun _ _ _ _ _ _ => ?_
    | ((with_reducible refine at_row ?_); refine row1_k (by rfl) (by decide) fun _ _ _ _ _ _ _ => ?_)
    | with_reducible refine row_k fun _ _ _ _ _ _ => ?_
    | with_reducible refine fork (fun _ => ?_) (fun _ => ?_)
    | with_reducible refine forkp (fun _ => ?_) (fun _ => ?_)
    | with_reducible refine forke (fun _ => ?_) (fun _ _ => ?_)
    | with_reducible refine tail_k fun _ _ _ => ?_
    | with_reducible refine ext_k fun _ _ _ => ?_
    | with_reducible refine need (by first | kernel_rfl | omega | assumption) ?_
    | with_reducible refine st_agg (by kernel_rfl) rfl (by simp only [natV, intV, S3, *]) fun _ _ _ _ => ?_
    | with_reducible refine wpd_quiet_lit (by kernel_rfl) (by kernel_rfl) (by kernel_rfl) ?_
    | ((with_reducible refine at_f 6 ?_); refine ret_k (hf _ FR FR) fun _ _ _ => ?_)
    | ((with_reducible refine at_f 7 ?_); refine ret_k (live19) fun _ _ _ => ?_)
    | simp (maxDischargeDepth := 3) only [↓X, ↓Y, ↓Q, S1, ↓reduceIte, Nat.reduceEqDiff, Nat.reduceAdd, Int.reduceLT, Int.reduceLE, Int.reduceNeg, Int.reduceBEq, Int.reduceBNe, Int.reduceEq, Nat.reduceLeDiff, Nat.reduceMul, Nat.reduceLT, natV, intV, putAt, idxOk, flatP, *, siteC, stepV, stepC]
    | simp (singlePass := true) (maxDischargeDepth := 99) only [*, S2, Nat.reduceLT, siteC, stepV, stepC])
  (repeat' first
    | with_reducible refine alloc_k fun _ _ _ _ _ _ => ?_
    | ((with_reducible refine at_row ?_); refine row1_k (by rfl) (by decide) fun _ _ _ _ _ _ _ => ?_)
    | with_reducible refine row_k fun _ _ _ _ _ _ => ?_
    | with_reducible refine fork (fun _ => ?_) (fun _ => ?_)
    | with_reducible refine forkp (fun _ => ?_) (fun _ => ?_)
    | with_reducible refine forke (fun _ => ?_) (fun _ _ => ?_)
    | with_reducible refine tail_k fun _ _ _ => ?_
    | with_reducible refine ext_k fun _ _ _ => ?_
    | with_reducible refine need (by first | kernel_rfl | omega | assumption) ?_
    | with_reducible refine st_agg (by kernel_rfl) rfl (by simp only [natV, intV, S3, *]) fun _ _ _ _ => ?_
    | with_reducible refine wpd_quiet_lit (by kernel_rfl) (by kernel_rfl) (by kernel_rfl) ?_
    | ((with_reducible refine at_f 6 ?_); refine ret_k (hf _ FR FR) fun _ _ _ => ?_)
    | simp (maxDischargeDepth := 3) only [↓X, ↓Y, ↓Q, S1, ↓reduceIte, Nat.reduceEqDiff, Nat.reduceAdd, Int.reduceLT, Int.reduceLE, Int.reduceNeg, Int.reduceBEq, Int.reduceBNe, Int.reduceEq, Nat.reduceLeDiff, Nat.reduceMul, Nat.reduceLT, natV, intV, putAt, idxOk, flatP, *, siteC, stepV, stepC]
    | simp (singlePass := true) (maxDischargeDepth := 99) only [*, S2, Nat.reduceLT, siteC, stepV, stepC])
  refine call_k (hap.out _ FR FR) ?_
  rintro _ w1 n1 s1 ⟨u1, rfl, o1⟩
  obtain ⟨h1, r1, rfl, x1⟩ := o1.r
  have X1 := x1.sk (Nat.le_refl _)
  obtain ⟨_, _, ee, oh1, or1⟩ := o1
  obtain ⟨rfl, rfl⟩ : h1 = _ ∧ r1 = _ := by simpa using ee
  have H1 := oh1.o
  have R1 := or1.o
  clear oh1 or1 ee x1 hf
  (repeat' first
    | with_reducible refine alloc_k fun _ _ _ _ _ _ => ?_
    | ((with_reducible refine at_row ?_); refine row1_k (by rfl) (by decide) fun _ _ _ _ _ _ _ => ?_)
    | with_reducible refine row_k fun _ _ _ _ _ _ => ?_
    | with_reducible refine fork (fun _ => ?_) (fun _ => ?_)
    | with_reducible refine forkp (fun _ => ?_) (fun _ => ?_)
    | with_reducible refine forke (fun _ => ?_) (fun _ _ => ?_)
    | with_reducible refine tail_k fun _ _ _ => ?_
    | with_reducible refine ext_k fun _ _ _ => ?_
    | with_reducible refine need (by first | kernel_rfl | omega | assumption) ?_
    | with_reducible refine st_agg (by kernel_rfl) rfl (by simp only [natV, intV, S3, *]) fun _ _ _ _ => ?_
    | with_reducible refine wpd_quiet_lit (by kernel_rfl) (by kernel_rfl) (by kernel_rfl) ?_
    | simp (maxDischargeDepth := 3) only [↓X, ↓Y, ↓Q, S1, ↓reduceIte, Nat.reduceEqDiff, Nat.reduceAdd, Int.reduceLT, Int.reduceLE, Int.reduceNeg, Int.reduceBEq, Int.reduceBNe, Int.reduceEq, Nat.reduceLeDiff, Nat.reduceMul, Nat.reduceLT, natV, intV, putAt, idxOk, flatP, *, siteC, stepV, stepC]
    | simp (singlePass := true) (maxDischargeDepth := 99) only [*, S2, Nat.reduceLT, siteC, stepV, stepC])
  rename_i b9 wz nz kz sz qz w9 n9 k9 s9
  refine call_k (hun.out _ FR FR) ?_
  rintro _ w2 n2 s2 ⟨v2, rfl, o2⟩
  have L2 := (show Sl w2 w2.heap.size (some 4) 4 _ (ul.map stepV) from o2.slN (f := stepC)).v (Nat.le_refl _)
  have F2 : ¬ blockOf v2 = some b9 := o2.far FR
  have hB9 : B ≤ b9 := FR
  have hw9 : w.heap.size ≤ b9 := FR
  have hmax := (show Sl w2 w2.heap.size (some 4) 4 _ (ul.map stepV) from o2.slN (f := stepC)).max_
  clear o2 hun hap
  rcases hE0 with rfl | hE0
  · obtain ⟨q1, q2, q3, q4, q5⟩ := (hok.out rfl).out
    subst q2
    subst q3
    have hle : Hid _ := len_empty ul
    replace q5 : Hid _ := q5
    replace hmax : Hid _ := hmax
    clear hok
    (repeat' first
    | with_reducible refine alloc_k fun _ _ _ _ _ _ => ?_
    | ((with_reducible refine at_row ?_); refine row1_k (by rfl) (by decide) fun _ _ _ _ _ _ _ => ?_)
    | with_reducible refine row_k fun _ _ _ _ _ _ => ?_
    | with_reducible refine fork (fun _ => ?_) (fun _ => ?_)
    | with_reducible refine forkp (fun _ => ?_) (fun _ => ?_)
    | with_reducible refine forke (fun _ => ?_) (fun _ _ => ?_)
    | with_reducible refine tail_k fun _ _ _ => ?_
    | with_reducible refine ext_k fun _ _ _ => ?_
    | with_reducible refine need (by first | kernel_rfl | omega | assumption) ?_
    | with_reducible refine st_agg (by kernel_rfl) rfl (by simp only [natV, intV, S3, *]) fun _ _ _ _ => ?_
    | with_reducible refine wpd_quiet_lit (by kernel_rfl) (by kernel_rfl) (by kernel_rfl) ?_
    | simp (maxDischargeDepth := 3) only [↓X, ↓Y, ↓Q, S1, ↓reduceIte, Nat.reduceEqDiff, Nat.reduceAdd, Int.reduceLT, Int.reduceLE, Int.reduceNeg, Int.reduceBEq, Int.reduceBNe, Int.reduceEq, Nat.reduceLeDiff, Nat.reduceMul, Nat.reduceLT, natV, intV, putAt, idxOk, flatP, *, siteC, stepV, stepC, hle.out]
    | simp (singlePass := true) (maxDischargeDepth := 99) only [*, S2, Nat.reduceLT, siteC, stepV, stepC, hle.out])
    refine ret_k (ref13Valid (B := w1.heap.size) FR ((hS _ FR).up FR) ((hW _ FR).up FR) (X1.2.2.2.2 _ FR)) fun w3 n3 s3 => ?_
    rw [q1]
    rcases Bool.eq_false_or_eq_true ul.isEmpty with he | he
    · (repeat' first
    | with_reducible refine alloc_k fun _ _ _ _ _ _ => ?_
    | ((with_reducible refine at_row ?_); refine row1_k (by rfl) (by decide) fun _ _ _ _ _ _ _ => ?_)
    | with_reducible refine row_k fun _ _ _ _ _ _ => ?_
    | with_reducible refine fork (fun _ => ?_) (fun _ => ?_)
    | with_reducible refine forkp (fun _ => ?_) (fun _ => ?_)
    | with_reducible refine forke (fun _ => ?_) (fun _ _ => ?_)
    | with_reducible refine tail_k fun _ _ _ => ?_
    | with_reducible refine ext_k fun _ _ _ => ?_
    | with_reducible refine need (by first | kernel_rfl | omega | assumption) ?_
    | with_reducible refine st_agg (by kernel_rfl) rfl (by simp only [natV, intV, S3, *]) fun _ _ _ _ => ?_
    | with_reducible refine wpd_quiet_lit (by kernel_rfl) (by kernel_rfl) (by kernel_rfl) ?_
    | ((with_reducible refine at_f 7 ?_); refine ret_k (live19) fun _ _ _ => ?_)
    | simp (maxDischargeDepth := 3) only [↓X, ↓Y, ↓Q, S1, ↓reduceIte, Nat.reduceEqDiff, Nat.reduceAdd, Int.reduceLT, Int.reduceLE, Int.reduceNeg, Int.reduceBEq, Int.reduceBNe, Int.reduceEq, Nat.reduceLeDiff, Nat.reduceMul, Nat.reduceLT, natV, intV, putAt, idxOk, flatP, *, siteC, stepV, stepC, hle.out]
    | simp (singlePass := true) (maxDischargeDepth := 99) only [*, S2, Nat.reduceLT, siteC, stepV, stepC, hle.out])
    have hru : Hid _ := q5.out he
    clear q1 q5
    have hbl : Bl B w w3 := FR
    (repeat' first
    | with_reducible refine alloc_k fun _ _ _ _ _ _ => ?_
    | ((with_reducible refine at_row ?_); refine row1_k (by rfl) (by decide) fun _ _ _ _ _ _ _ => ?_)
    | with_reducible refine row_k fun _ _ _ _ _ _ => ?_
    | with_reducible refine fork (fun _ => ?_) (fun _ => ?_)
    | with_reducible refine forkp (fun _ => ?_) (fun _ => ?_)
    | with_reducible refine forke (fun _ => ?_) (fun _ _ => ?_)
    | with_reducible refine tail_k fun _ _ _ => ?_
    | with_reducible refine ext_k fun _ _ _ => ?_
    | with_reducible refine need (by first | kernel_rfl | omega | assumption) ?_
    | with_reducible refine st_agg (by kernel_rfl) rfl (by simp only [natV, intV, S3, *]) fun _ _ _ _ => ?_
    | with_reducible refine wpd_quiet_lit (by kernel_rfl) (by kernel_rfl) (by kernel_rfl) ?_
    | simp (maxDischargeDepth := 3) only [↓X, ↓Y, ↓Q, S1, ↓reduceIte, Nat.reduceEqDiff, Nat.reduceAdd, Int.reduceLT, Int.reduceLE, Int.reduceNeg, Int.reduceBEq, Int.reduceBNe, Int.reduceEq, Nat.reduceLeDiff, Nat.reduceMul, Nat.reduceLT, natV, intV, putAt, idxOk, flatP, *, siteC, stepV, stepC, hle.out]
    | simp (singlePass := true) (maxDischargeDepth := 99) only [*, S2, Nat.reduceLT, siteC, stepV, stepC, hle.out])
    refine loop_b b9 ul.length (fun g0 k g w' => g 14 = .int .i64 k ∧ (g 4 = g0 4 ∧ g 5 = g0 5 ∧ g 6 = g0 6 ∧ g 9 = g0 9 ∧ g 11 = g0 11) ∧ ∃ h r V, Blk w' b9 36 [h, r] ∧ OwnH w' 0 h V.hosts ∧ OwnP w' 0 r V.replicas ∧ ¬ blockOf h = some b9 ∧ ¬ blockOf r = some b9 ∧ runU s (l.map (·.x)) V (ul.drop k) = some x) (by kernel_rfl) hmax.out FR ?_ ?_ ?_
    · (repeat' first
    | with_reducible refine alloc_k fun _ _ _ _ _ _ => ?_
    | ((with_reducible refine at_row ?_); refine row1_k (by rfl) (by decide) fun _ _ _ _ _ _ _ => ?_)
    | with_reducible refine row_k fun _ _ _ _ _ _ => ?_
    | with_reducible refine fork (fun _ => ?_) (fun _ => ?_)
    | with_reducible refine forkp (fun _ => ?_) (fun _ => ?_)
    | with_reducible refine forke (fun _ => ?_) (fun _ _ => ?_)
    | with_reducible refine tail_k fun _ _ _ => ?_
    | with_reducible refine ext_k fun _ _ _ => ?_
    | with_reducible refine need (by first | kernel_rfl | omega | assumption) ?_
    | with_reducible refine st_agg (by kernel_rfl) rfl (by simp only [natV, intV, S3, *]) fun _ _ _ _ => ?_
    | with_reducible refine wpd_quiet_lit (by kernel_rfl) (by kernel_rfl) (by kernel_rfl) ?_
    | simp (maxDischargeDepth := 3) only [↓X, ↓Y, ↓Q, S1, ↓reduceIte, Nat.reduceEqDiff, Nat.reduceAdd, Int.reduceLT, Int.reduceLE, Int.reduceNeg, Int.reduceBEq, Int.reduceBNe, Int.reduceEq, Nat.reduceLeDiff, Nat.reduceMul, Nat.reduceLT, natV, intV, putAt, idxOk, flatP, *]
    | simp (singlePass := true) (maxDischargeDepth := 99) only [*, S2, Nat.reduceLT])
      refine ⟨h1, r1, W, k9.2.1 _ FR, (H1.1 _ FR).more (Nat.zero_le _), (R1.1 _ FR).more (Nat.zero_le _), H1.2.2.2.2.2.2.1 _ FR, R1.2.2.2.2.2.2.1 _ FR, ?_⟩
      rw [List.drop_zero]
      exact hru.out
    · rintro k m g wk hk hlt nk sk ck hw hww ⟨hi, hf, h, r, V, hblk, ohk, ork, nh, nr, hrun⟩
      simp (maxDischargeDepth := 3) only [U, ↓reduceIte, Nat.reduceEqDiff, *] at hf
      obtain ⟨p1, p2, p3⟩ := runU_step hlt hrun
      have kk := hblk.bk
      have VK := (WorldR.mk (ohk.slN (f := stateC)) (ork.slN (f := replC)) : WorldR wk wk.heap.size h r V).sk (Nat.le_refl _)
      replace p3 : Hid _ := p3
      have a1 := ohk.one
      have a2 := ork.one
      clear hblk ohk ork hrun
      have hready := fun w' (h1 : Bl wk.heap.size wk w') (h3 : wk.heap.size ≤ w'.heap.size) (h4 : Bl B w w') => stepReady (st := ul[k]) h3 ((hS w' h4).up FR) ((hW w' h4).up FR) (VK.2.2.2.2 w' h1)
      simp only [p1] at hready
      replace hready : Hid _ := hready
      (repeat' first
    | ((with_reducible refine wpd_at 16 ?_); refine wpd_hold ?_)
    | with_reducible refine alloc_k fun _ _ _ _ _ _ => ?_
    | ((with_reducible refine at_row ?_); refine row1_k (by rfl) (by decide) fun _ _ _ _ _ _ _ => ?_)
    | with_reducible refine row_k fun _ _ _ _ _ _ => ?_
    | with_reducible refine fork (fun _ => ?_) (fun _ => ?_)
    | with_reducible refine forkp (fun _ => ?_) (fun _ => ?_)
    | with_reducible refine forke (fun _ => ?_) (fun _ _ => ?_)
    | with_reducible refine tail_k fun _ _ _ => ?_
    | with_reducible refine ext_k fun _ _ _ => ?_
    | with_reducible refine need (by first | kernel_rfl | omega | assumption) ?_
    | with_reducible refine st_agg (by kernel_rfl) rfl (by simp only [natV, intV, S3, *]) fun _ _ _ _ => ?_
    | with_reducible refine wpd_quiet_lit (by kernel_rfl) (by kernel_rfl) (by kernel_rfl) ?_
    | ((with_reducible refine at_q 10 ?_); refine qret_k (fun _ _ _ => hready.out _ FR FR FR) ?_)
    | simp (maxDischargeDepth := 3) only [↓X, ↓Y, ↓Q, S1, ↓reduceIte, Nat.reduceEqDiff, Nat.reduceAdd, Int.reduceLT, Int.reduceLE, Int.reduceNeg, Int.reduceBEq, Int.reduceBNe, Int.reduceEq, Nat.reduceLeDiff, Nat.reduceMul, Nat.reduceLT, natV, intV, putAt, idxOk, flatP, *, siteC, stepV, stepC]
    | simp (singlePass := true) (maxDischargeDepth := 99) only [*, S2, Nat.reduceLT, siteC, stepV, stepC])
      rename_i w5 n5 s5
      unfold wpdH
      refine wpd_relA 9 (fun iI v w9 => match iI with
        | 0 => v = .agg (siteC u s).toArray
        | 1 => v = .agg #[wv]
        | 2 => v = .agg #[h, r]
        | 3 => v = v2
        | 4 => v = .int .i64 k
        | 5 => v = elemAt v2 4 k
        | 6 => v = stepV ul[k]
        | 7 => ∃ u0, v = .tuple #[u0, intV 0] ∧ OwnW w5.heap.size u0 w9 (applyW s (l.map (·.x)) V ul[k])
        | 8 => ∃ u0, v = .tuple #[u0, intV 0] ∧ OwnW w5.heap.size u0 w9 (applyW s (l.map (·.x)) V ul[k])
        | _ => False) (by kernel_rfl) (by kernel_rfl) (by kernel_rfl) ?_ ?_ ?_
      · intro iI v w1 w2 hR hx9
        match iI, hR with
        | 0, h => exact h
        | 1, h => exact h
        | 2, h => exact h
        | 3, h => exact h
        | 4, h => exact h
        | 5, h => exact h
        | 6, h => exact h
        | 7, h => exact (let ⟨v, e, o⟩ := h; ⟨v, e, o.ext hx9⟩)
        | 8, h => exact (let ⟨v, e, o⟩ := h; ⟨v, e, o.ext hx9⟩)
      · intro iI oO hi ho gF w9 hx9 hdep hag
        have s9 := hx9.st
        have n9 : Now w9 := trivial
        have r9 := Ext.refl w9
        have z9 := hx9.size
        rcases iI with _|_|_|_|_|_|_|_|_|iI
        have e := Option.some.inj ho
        subst e
        have a4 := hag.at 4 (by kernel_rfl)
        simp only [U, ↓reduceIte, Nat.reduceEqDiff, initF, U2, List.getElem?_cons_zero, List.getElem?_cons_succ, *] at a4
        clear hag hdep ho
        refine relStep_off rfl ?_
        rotate_left
        have e := Option.some.inj ho
        subst e
        have a5 := hag.at 5 (by kernel_rfl)
        simp only [U, ↓reduceIte, Nat.reduceEqDiff, initF, U2, List.getElem?_cons_zero, List.getElem?_cons_succ, *] at a5
        clear hag hdep ho
        refine relStep_off rfl ?_
        rotate_left
        have e := Option.some.inj ho
        subst e
        have a9 := hag.at 9 (by kernel_rfl)
        simp only [U, ↓reduceIte, Nat.reduceEqDiff, initF, U2, List.getElem?_cons_zero, List.getElem?_cons_succ, *] at a9
        clear hag hdep ho
        refine relStep_off rfl ?_
        rotate_left
        have e := Option.some.inj ho
        subst e
        have a11 := hag.at 11 (by kernel_rfl)
        simp only [U, ↓reduceIte, Nat.reduceEqDiff, initF, U2, List.getElem?_cons_zero, List.getElem?_cons_succ, *] at a11
        clear hag hdep ho
        refine relStep_off rfl ?_
        rotate_left
        have e := Option.some.inj ho
        subst e
        have a14 := hag.at 14 (by kernel_rfl)
        simp only [U, ↓reduceIte, Nat.reduceEqDiff, initF, U2, List.getElem?_cons_zero, List.getElem?_cons_succ, *] at a14
        clear hag hdep ho
        refine relStep_off rfl ?_
        rotate_left
        have e := Option.some.inj ho
        subst e
        have d3 : (gF 83) = v2 := hdep ⟨3, .data⟩ (by simp) rfl _ _ rfl rfl
        have d4 : (gF 84) = .int .i64 k := hdep ⟨4, .data⟩ (by simp) rfl _ _ rfl rfl
        clear hag hdep ho
        refine relStep_off rfl ?_
        rotate_left
        have e := Option.some.inj ho
        subst e
        have d5 : (gF 85) = elemAt v2 4 k := hdep ⟨5, .data⟩ (by simp) rfl _ _ rfl rfl
        clear hag hdep ho
        refine relStep_off rfl ?_
        rotate_left
        · have e := Option.some.inj ho
          subst e
          have d0 : (gF 80) = .agg (siteC u s).toArray := hdep ⟨0, .data⟩ (by simp) rfl _ _ rfl rfl
          have d1 : (gF 81) = .agg #[wv] := hdep ⟨1, .data⟩ (by simp) rfl _ _ rfl rfl
          have d2 : (gF 82) = .agg #[h, r] := hdep ⟨2, .data⟩ (by simp) rfl _ _ rfl rfl
          have d6 : (gF 86) = stepV ul[k] := hdep ⟨6, .data⟩ (by simp) rfl _ _ rfl rfl
          clear hag hdep ho
          refine relStep_off rfl ?_
          (repeat' first
    | with_reducible refine alloc_k fun _ _ _ _ _ _ => ?_
    | ((with_reducible refine at_row ?_); refine row1_k (by rfl) (by decide) fun _ _ _ _ _ _ _ => ?_)
    | with_reducible refine row_k fun _ _ _ _ _ _ => ?_
    | with_reducible refine fork (fun _ => ?_) (fun _ => ?_)
    | with_reducible refine forkp (fun _ => ?_) (fun _ => ?_)
    | with_reducible refine forke (fun _ => ?_) (fun _ _ => ?_)
    | with_reducible refine tail_k fun _ _ _ => ?_
    | with_reducible refine ext_k fun _ _ _ => ?_
    | with_reducible refine need (by first | kernel_rfl | omega | assumption) ?_
    | with_reducible refine st_agg (by kernel_rfl) rfl (by simp only [natV, intV, S3, *]) fun _ _ _ _ => ?_
    | with_reducible refine wpd_quiet_lit (by kernel_rfl) (by kernel_rfl) (by kernel_rfl) ?_
    | simp (maxDischargeDepth := 3) only [↓X, ↓Y, ↓Q, S1, ↓reduceIte, Nat.reduceEqDiff, Nat.reduceAdd, Int.reduceLT, Int.reduceLE, Int.reduceNeg, Int.reduceBEq, Int.reduceBNe, Int.reduceEq, Nat.reduceLeDiff, Nat.reduceMul, Nat.reduceLT, natV, intV, putAt, idxOk, flatP, *, siteC, stepV, stepC]
    | simp (singlePass := true) (maxDischargeDepth := 99) only [*, S2, Nat.reduceLT, siteC, stepV, stepC])
          refine CallsV.mono (stepApply (st := ul[k]) (B := wk.heap.size) FR ((hS _ FR).up FR) ((hW _ FR).up FR) (VK.2.2.2.2 _ FR)) fun v w10 hh => ⟨hh.1, ?_⟩
          obtain ⟨_, u0, rfl, ho⟩ := hh
          exact ⟨u0, by rw [p2]; rfl, ho.more z9⟩
        · have e := Option.some.inj ho
          subst e
          have d7 : ∃ u0, (gF 87) = .tuple #[u0, intV 0] ∧ OwnW w5.heap.size u0 w9 (applyW s (l.map (·.x)) V ul[k]) := hdep ⟨7, .data⟩ (by simp) rfl _ _ rfl rfl
          obtain ⟨u7, e7, o7⟩ := d7
          clear hag hdep ho
          refine relStep_off rfl ?_
          (repeat' first
    | with_reducible refine alloc_k fun _ _ _ _ _ _ => ?_
    | ((with_reducible refine at_row ?_); refine row1_k (by rfl) (by decide) fun _ _ _ _ _ _ _ => ?_)
    | with_reducible refine row_k fun _ _ _ _ _ _ => ?_
    | with_reducible refine fork (fun _ => ?_) (fun _ => ?_)
    | with_reducible refine forkp (fun _ => ?_) (fun _ => ?_)
    | with_reducible refine forke (fun _ => ?_) (fun _ _ => ?_)
    | with_reducible refine tail_k fun _ _ _ => ?_
    | with_reducible refine ext_k fun _ _ _ => ?_
    | with_reducible refine need (by first | kernel_rfl | omega | assumption) ?_
    | with_reducible refine st_agg (by kernel_rfl) rfl (by simp only [natV, intV, S3, *]) fun _ _ _ _ => ?_
    | with_reducible refine wpd_quiet_lit (by kernel_rfl) (by kernel_rfl) (by kernel_rfl) ?_
    | simp (maxDischargeDepth := 3) only [↓X, ↓Y, ↓Q, S1, ↓reduceIte, Nat.reduceEqDiff, Nat.reduceAdd, Int.reduceLT, Int.reduceLE, Int.reduceNeg, Int.reduceBEq, Int.reduceBNe, Int.reduceEq, Nat.reduceLeDiff, Nat.reduceMul, Nat.reduceLT, natV, intV, putAt, idxOk, flatP, *, siteC, stepV, stepC]
    | simp (singlePass := true) (maxDischargeDepth := 99) only [*, S2, Nat.reduceLT, siteC, stepV, stepC])
          exact ⟨u7, rfl, o7⟩
        · omega
        all_goals (repeat' first
    | with_reducible refine alloc_k fun _ _ _ _ _ _ => ?_
    | ((with_reducible refine at_row ?_); refine row1_k (by rfl) (by decide) fun _ _ _ _ _ _ _ => ?_)
    | with_reducible refine row_k fun _ _ _ _ _ _ => ?_
    | with_reducible refine fork (fun _ => ?_) (fun _ => ?_)
    | with_reducible refine forkp (fun _ => ?_) (fun _ => ?_)
    | with_reducible refine forke (fun _ => ?_) (fun _ _ => ?_)
    | with_reducible refine tail_k fun _ _ _ => ?_
    | with_reducible refine ext_k fun _ _ _ => ?_
    | with_reducible refine need (by first | kernel_rfl | omega | assumption) ?_
    | with_reducible refine st_agg (by kernel_rfl) rfl (by simp only [natV, intV, S3, *]) fun _ _ _ _ => ?_
    | with_reducible refine wpd_quiet_lit (by kernel_rfl) (by kernel_rfl) (by kernel_rfl) ?_
    | simp (maxDischargeDepth := 3) only [↓X, ↓Y, ↓Q, S1, ↓reduceIte, Nat.reduceEqDiff, Nat.reduceAdd, Int.reduceLT, Int.reduceLE, Int.reduceNeg, Int.reduceBEq, Int.reduceBNe, Int.reduceEq, Nat.reduceLeDiff, Nat.reduceMul, Nat.reduceLT, natV, intV, putAt, idxOk, flatP, *, siteC, stepV, stepC]
    | simp (singlePass := true) (maxDischargeDepth := 99) only [*, S2, Nat.reduceLT, siteC, stepV, stepC])
      · intro g9 w9 hx9 hR hag
        have s9 := hx9.st
        have n9 : Now w9 := trivial
        have r9 := Ext.refl w9
        have z9 := hx9.size
        have d8 : ∃ u0, (g9 79) = .tuple #[u0, intV 0] ∧ OwnW w5.heap.size u0 w9 (applyW s (l.map (·.x)) V ul[k]) := hR 8 _ _ (by decide) rfl rfl
        obtain ⟨u8, e8, h8, r8, rfl, oh8, or8⟩ := d8
        have H8 := oh8.o
        have R8 := or8.o
        clear oh8 or8
        have a4 := hag.at 4 (by kernel_rfl)
        have a5 := hag.at 5 (by kernel_rfl)
        have a6 := hag.at 6 (by kernel_rfl)
        have a9 := hag.at 9 (by kernel_rfl)
        have a11 := hag.at 11 (by kernel_rfl)
        have a14 := hag.at 14 (by kernel_rfl)
        simp only [U, ↓reduceIte, Nat.reduceEqDiff, initF, U2, List.getElem?_cons_zero, List.getElem?_cons_succ, *] at a4 a5 a6 a9 a11 a14
        clear hag hR
        refine anyX_two (i := 9) (j := 10) (f := 3) (by kernel_rfl) (by kernel_rfl) rfl rfl (relStep_off rfl ?_) (relStep_off rfl ?_)
        · (repeat' first
    | with_reducible refine alloc_k fun _ _ _ _ _ _ => ?_
    | ((with_reducible refine at_row ?_); refine row1_k (by rfl) (by decide) fun _ _ _ _ _ _ _ => ?_)
    | with_reducible refine row_k fun _ _ _ _ _ _ => ?_
    | with_reducible refine fork (fun _ => ?_) (fun _ => ?_)
    | with_reducible refine forkp (fun _ => ?_) (fun _ => ?_)
    | with_reducible refine forke (fun _ => ?_) (fun _ _ => ?_)
    | with_reducible refine tail_k fun _ _ _ => ?_
    | with_reducible refine ext_k fun _ _ _ => ?_
    | with_reducible refine need (by first | kernel_rfl | omega | assumption) ?_
    | with_reducible refine st_agg (by kernel_rfl) rfl (by simp only [natV, intV, S3, *]) fun _ _ _ _ => ?_
    | with_reducible refine wpd_quiet_lit (by kernel_rfl) (by kernel_rfl) (by kernel_rfl) ?_
    | simp (maxDischargeDepth := 3) only [↓X, ↓Y, ↓Q, S1, ↓reduceIte, Nat.reduceEqDiff, Nat.reduceAdd, Int.reduceLT, Int.reduceLE, Int.reduceNeg, Int.reduceBEq, Int.reduceBNe, Int.reduceEq, Nat.reduceLeDiff, Nat.reduceMul, Nat.reduceLT, natV, intV, putAt, idxOk, flatP, *]
    | simp (singlePass := true) (maxDischargeDepth := 99) only [*, S2, Nat.reduceLT])
          refine anyX_two (i := 10) (j := 11) (f := 2) (by kernel_rfl) (by kernel_rfl) rfl rfl (relStep_off rfl ?_) (relStep_off rfl ?_)
          · (repeat' first
    | with_reducible refine alloc_k fun _ _ _ _ _ _ => ?_
    | ((with_reducible refine at_row ?_); refine row1_k (by rfl) (by decide) fun _ _ _ _ _ _ _ => ?_)
    | with_reducible refine row_k fun _ _ _ _ _ _ => ?_
    | with_reducible refine fork (fun _ => ?_) (fun _ => ?_)
    | with_reducible refine forkp (fun _ => ?_) (fun _ => ?_)
    | with_reducible refine forke (fun _ => ?_) (fun _ _ => ?_)
    | with_reducible refine tail_k fun _ _ _ => ?_
    | with_reducible refine ext_k fun _ _ _ => ?_
    | with_reducible refine need (by first | kernel_rfl | omega | assumption) ?_
    | with_reducible refine st_agg (by kernel_rfl) rfl (by simp only [natV, intV, S3, *]) fun _ _ _ _ => ?_
    | with_reducible refine wpd_quiet_lit (by kernel_rfl) (by kernel_rfl) (by kernel_rfl) ?_
    | simp (maxDischargeDepth := 3) only [↓X, ↓Y, ↓Q, S1, ↓reduceIte, Nat.reduceEqDiff, Nat.reduceAdd, Int.reduceLT, Int.reduceLE, Int.reduceNeg, Int.reduceBEq, Int.reduceBNe, Int.reduceEq, Nat.reduceLeDiff, Nat.reduceMul, Nat.reduceLT, natV, intV, putAt, idxOk, flatP, *]
    | simp (singlePass := true) (maxDischargeDepth := 99) only [*, S2, Nat.reduceLT])
            refine anyX_one (i := 11) (f := 1) (by kernel_rfl) (by kernel_rfl) rfl (relStep_off rfl ?_)
            (repeat' first
    | with_reducible refine alloc_k fun _ _ _ _ _ _ => ?_
    | ((with_reducible refine at_row ?_); refine row1_k (by rfl) (by decide) fun _ _ _ _ _ _ _ => ?_)
    | with_reducible refine row_k fun _ _ _ _ _ _ => ?_
    | with_reducible refine fork (fun _ => ?_) (fun _ => ?_)
    | with_reducible refine forkp (fun _ => ?_) (fun _ => ?_)
    | with_reducible refine forke (fun _ => ?_) (fun _ _ => ?_)
    | with_reducible refine tail_k fun _ _ _ => ?_
    | with_reducible refine ext_k fun _ _ _ => ?_
    | with_reducible refine need (by first | kernel_rfl | omega | assumption) ?_
    | with_reducible refine st_agg (by kernel_rfl) rfl (by simp only [natV, intV, S3, *]) fun _ _ _ _ => ?_
    | with_reducible refine wpd_quiet_lit (by kernel_rfl) (by kernel_rfl) (by kernel_rfl) ?_
    | simp (maxDischargeDepth := 3) only [↓X, ↓Y, ↓Q, S1, ↓reduceIte, Nat.reduceEqDiff, Nat.reduceAdd, Int.reduceLT, Int.reduceLE, Int.reduceNeg, Int.reduceBEq, Int.reduceBNe, Int.reduceEq, Nat.reduceLeDiff, Nat.reduceMul, Nat.reduceLT, natV, intV, putAt, idxOk, flatP, *]
    | simp (singlePass := true) (maxDischargeDepth := 99) only [*, S2, Nat.reduceLT])
            rename_i wz1 nz1 kk9 sz1
            refine anyX_one (i := 12) (f := 0) (by kernel_rfl) (by kernel_rfl) rfl (relStep_off rfl ?_)
            (repeat' first
    | with_reducible refine alloc_k fun _ _ _ _ _ _ => ?_
    | ((with_reducible refine at_row ?_); refine row1_k (by rfl) (by decide) fun _ _ _ _ _ _ _ => ?_)
    | with_reducible refine row_k fun _ _ _ _ _ _ => ?_
    | with_reducible refine fork (fun _ => ?_) (fun _ => ?_)
    | with_reducible refine forkp (fun _ => ?_) (fun _ => ?_)
    | with_reducible refine forke (fun _ => ?_) (fun _ _ => ?_)
    | with_reducible refine tail_k fun _ _ _ => ?_
    | with_reducible refine ext_k fun _ _ _ => ?_
    | with_reducible refine need (by first | kernel_rfl | omega | assumption) ?_
    | with_reducible refine st_agg (by kernel_rfl) rfl (by simp only [natV, intV, S3, *]) fun _ _ _ _ => ?_
    | with_reducible refine wpd_quiet_lit (by kernel_rfl) (by kernel_rfl) (by kernel_rfl) ?_
    | simp (maxDischargeDepth := 3) only [↓X, ↓Y, ↓Q, S1, ↓reduceIte, Nat.reduceEqDiff, Nat.reduceAdd, Int.reduceLT, Int.reduceLE, Int.reduceNeg, Int.reduceBEq, Int.reduceBNe, Int.reduceEq, Nat.reduceLeDiff, Nat.reduceMul, Nat.reduceLT, natV, intV, putAt, idxOk, flatP, *]
    | simp (singlePass := true) (maxDischargeDepth := 99) only [*, S2, Nat.reduceLT])
            refine anyX_end (by kernel_rfl) ?_
            (repeat' first
    | with_reducible refine alloc_k fun _ _ _ _ _ _ => ?_
    | ((with_reducible refine at_row ?_); refine row1_k (by rfl) (by decide) fun _ _ _ _ _ _ _ => ?_)
    | with_reducible refine row_k fun _ _ _ _ _ _ => ?_
    | with_reducible refine fork (fun _ => ?_) (fun _ => ?_)
    | with_reducible refine forkp (fun _ => ?_) (fun _ => ?_)
    | with_reducible refine forke (fun _ => ?_) (fun _ _ => ?_)
    | with_reducible refine tail_k fun _ _ _ => ?_
    | with_reducible refine ext_k fun _ _ _ => ?_
    | with_reducible refine need (by first | kernel_rfl | omega | assumption) ?_
    | with_reducible refine st_agg (by kernel_rfl) rfl (by simp only [natV, intV, S3, *]) fun _ _ _ _ => ?_
    | with_reducible refine wpd_quiet_lit (by kernel_rfl) (by kernel_rfl) (by kernel_rfl) ?_
    | simp (maxDischargeDepth := 3) only [↓X, ↓Y, ↓Q, S1, ↓reduceIte, Nat.reduceEqDiff, Nat.reduceAdd, Int.reduceLT, Int.reduceLE, Int.reduceNeg, Int.reduceBEq, Int.reduceBNe, Int.reduceEq, Nat.reduceLeDiff, Nat.reduceMul, Nat.reduceLT, natV, intV, putAt, idxOk, flatP, *]
    | simp (singlePass := true) (maxDischargeDepth := 99) only [*, S2, Nat.reduceLT])
            refine next_b hk hlt ?_ FR
            (repeat' first
    | with_reducible refine alloc_k fun _ _ _ _ _ _ => ?_
    | ((with_reducible refine at_row ?_); refine row1_k (by rfl) (by decide) fun _ _ _ _ _ _ _ => ?_)
    | with_reducible refine row_k fun _ _ _ _ _ _ => ?_
    | with_reducible refine fork (fun _ => ?_) (fun _ => ?_)
    | with_reducible refine forkp (fun _ => ?_) (fun _ => ?_)
    | with_reducible refine forke (fun _ => ?_) (fun _ _ => ?_)
    | with_reducible refine tail_k fun _ _ _ => ?_
    | with_reducible refine ext_k fun _ _ _ => ?_
    | with_reducible refine need (by first | kernel_rfl | omega | assumption) ?_
    | with_reducible refine st_agg (by kernel_rfl) rfl (by simp only [natV, intV, S3, *]) fun _ _ _ _ => ?_
    | with_reducible refine wpd_quiet_lit (by kernel_rfl) (by kernel_rfl) (by kernel_rfl) ?_
    | simp (maxDischargeDepth := 3) only [↓X, ↓Y, ↓Q, S1, ↓reduceIte, Nat.reduceEqDiff, Nat.reduceAdd, Int.reduceLT, Int.reduceLE, Int.reduceNeg, Int.reduceBEq, Int.reduceBNe, Int.reduceEq, Nat.reduceLeDiff, Nat.reduceMul, Nat.reduceLT, natV, intV, putAt, idxOk, flatP, *]
    | simp (singlePass := true) (maxDischargeDepth := 99) only [*, S2, Nat.reduceLT])
            exact ⟨h8, r8, _, kk9.2.1 _ FR, (H8.1 _ FR).more (Nat.zero_le _), (R8.1 _ FR).more (Nat.zero_le _), H8.2.2.1 _ FR, R8.2.2.1 _ FR, p3.out⟩
          · (repeat' first
    | with_reducible refine alloc_k fun _ _ _ _ _ _ => ?_
    | ((with_reducible refine at_row ?_); refine row1_k (by rfl) (by decide) fun _ _ _ _ _ _ _ => ?_)
    | with_reducible refine row_k fun _ _ _ _ _ _ => ?_
    | with_reducible refine fork (fun _ => ?_) (fun _ => ?_)
    | with_reducible refine forkp (fun _ => ?_) (fun _ => ?_)
    | with_reducible refine forke (fun _ => ?_) (fun _ _ => ?_)
    | with_reducible refine tail_k fun _ _ _ => ?_
    | with_reducible refine ext_k fun _ _ _ => ?_
    | with_reducible refine need (by first | kernel_rfl | omega | assumption) ?_
    | with_reducible refine st_agg (by kernel_rfl) rfl (by simp only [natV, intV, S3, *]) fun _ _ _ _ => ?_
    | with_reducible refine wpd_quiet_lit (by kernel_rfl) (by kernel_rfl) (by kernel_rfl) ?_
    | simp (maxDischargeDepth := 3) only [↓X, ↓Y, ↓Q, S1, ↓reduceIte, Nat.reduceEqDiff, Nat.reduceAdd, Int.reduceLT, Int.reduceLE, Int.reduceNeg, Int.reduceBEq, Int.reduceBNe, Int.reduceEq, Nat.reduceLeDiff, Nat.reduceMul, Nat.reduceLT, natV, intV, putAt, idxOk, flatP, *]
    | simp (singlePass := true) (maxDischargeDepth := 99) only [*, S2, Nat.reduceLT])
            rename_i wz1 nz1 kk9 sz1
            refine anyX_one (i := 10) (f := 1) (by kernel_rfl) (by kernel_rfl) rfl (relStep_off rfl ?_)
            (repeat' first
    | with_reducible refine alloc_k fun _ _ _ _ _ _ => ?_
    | ((with_reducible refine at_row ?_); refine row1_k (by rfl) (by decide) fun _ _ _ _ _ _ _ => ?_)
    | with_reducible refine row_k fun _ _ _ _ _ _ => ?_
    | with_reducible refine fork (fun _ => ?_) (fun _ => ?_)
    | with_reducible refine forkp (fun _ => ?_) (fun _ => ?_)
    | with_reducible refine forke (fun _ => ?_) (fun _ _ => ?_)
    | with_reducible refine tail_k fun _ _ _ => ?_
    | with_reducible refine ext_k fun _ _ _ => ?_
    | with_reducible refine need (by first | kernel_rfl | omega | assumption) ?_
    | with_reducible refine st_agg (by kernel_rfl) rfl (by simp only [natV, intV, S3, *]) fun _ _ _ _ => ?_
    | with_reducible refine wpd_quiet_lit (by kernel_rfl) (by kernel_rfl) (by kernel_rfl) ?_
    | simp (maxDischargeDepth := 3) only [↓X, ↓Y, ↓Q, S1, ↓reduceIte, Nat.reduceEqDiff, Nat.reduceAdd, Int.reduceLT, Int.reduceLE, Int.reduceNeg, Int.reduceBEq, Int.reduceBNe, Int.reduceEq, Nat.reduceLeDiff, Nat.reduceMul, Nat.reduceLT, natV, intV, putAt, idxOk, flatP, *]
    | simp (singlePass := true) (maxDischargeDepth := 99) only [*, S2, Nat.reduceLT])
            refine anyX_one (i := 12) (f := 0) (by kernel_rfl) (by kernel_rfl) rfl (relStep_off rfl ?_)
            (repeat' first
    | with_reducible refine alloc_k fun _ _ _ _ _ _ => ?_
    | ((with_reducible refine at_row ?_); refine row1_k (by rfl) (by decide) fun _ _ _ _ _ _ _ => ?_)
    | with_reducible refine row_k fun _ _ _ _ _ _ => ?_
    | with_reducible refine fork (fun _ => ?_) (fun _ => ?_)
    | with_reducible refine forkp (fun _ => ?_) (fun _ => ?_)
    | with_reducible refine forke (fun _ => ?_) (fun _ _ => ?_)
    | with_reducible refine tail_k fun _ _ _ => ?_
    | with_reducible refine ext_k fun _ _ _ => ?_
    | with_reducible refine need (by first | kernel_rfl | omega | assumption) ?_
    | with_reducible refine st_agg (by kernel_rfl) rfl (by simp only [natV, intV, S3, *]) fun _ _ _ _ => ?_
    | with_reducible refine wpd_quiet_lit (by kernel_rfl) (by kernel_rfl) (by kernel_rfl) ?_
    | simp (maxDischargeDepth := 3) only [↓X, ↓Y, ↓Q, S1, ↓reduceIte, Nat.reduceEqDiff, Nat.reduceAdd, Int.reduceLT, Int.reduceLE, Int.reduceNeg, Int.reduceBEq, Int.reduceBNe, Int.reduceEq, Nat.reduceLeDiff, Nat.reduceMul, Nat.reduceLT, natV, intV, putAt, idxOk, flatP, *]
    | simp (singlePass := true) (maxDischargeDepth := 99) only [*, S2, Nat.reduceLT])
            refine anyX_end (by kernel_rfl) ?_
            (repeat' first
    | with_reducible refine alloc_k fun _ _ _ _ _ _ => ?_
    | ((with_reducible refine at_row ?_); refine row1_k (by rfl) (by decide) fun _ _ _ _ _ _ _ => ?_)
    | with_reducible refine row_k fun _ _ _ _ _ _ => ?_
    | with_reducible refine fork (fun _ => ?_) (fun _ => ?_)
    | with_reducible refine forkp (fun _ => ?_) (fun _ => ?_)
    | with_reducible refine forke (fun _ => ?_) (fun _ _ => ?_)
    | with_reducible refine tail_k fun _ _ _ => ?_
    | with_reducible refine ext_k fun _ _ _ => ?_
    | with_reducible refine need (by first | kernel_rfl | omega | assumption) ?_
    | with_reducible refine st_agg (by kernel_rfl) rfl (by simp only [natV, intV, S3, *]) fun _ _ _ _ => ?_
    | with_reducible refine wpd_quiet_lit (by kernel_rfl) (by kernel_rfl) (by kernel_rfl) ?_
    | simp (maxDischargeDepth := 3) only [↓X, ↓Y, ↓Q, S1, ↓reduceIte, Nat.reduceEqDiff, Nat.reduceAdd, Int.reduceLT, Int.reduceLE, Int.reduceNeg, Int.reduceBEq, Int.reduceBNe, Int.reduceEq, Nat.reduceLeDiff, Nat.reduceMul, Nat.reduceLT, natV, intV, putAt, idxOk, flatP, *]
    | simp (singlePass := true) (maxDischargeDepth := 99) only [*, S2, Nat.reduceLT])
            refine next_b hk hlt ?_ FR
            (repeat' first
    | with_reducible refine alloc_k fun _ _ _ _ _ _ => ?_
    | ((with_reducible refine at_row ?_); refine row1_k (by rfl) (by decide) fun _ _ _ _ _ _ _ => ?_)
    | with_reducible refine row_k fun _ _ _ _ _ _ => ?_
    | with_reducible refine fork (fun _ => ?_) (fun _ => ?_)
    | with_reducible refine forkp (fun _ => ?_) (fun _ => ?_)
    | with_reducible refine forke (fun _ => ?_) (fun _ _ => ?_)
    | with_reducible refine tail_k fun _ _ _ => ?_
    | with_reducible refine ext_k fun _ _ _ => ?_
    | with_reducible refine need (by first | kernel_rfl | omega | assumption) ?_
    | with_reducible refine st_agg (by kernel_rfl) rfl (by simp only [natV, intV, S3, *]) fun _ _ _ _ => ?_
    | with_reducible refine wpd_quiet_lit (by kernel_rfl) (by kernel_rfl) (by kernel_rfl) ?_
    | simp (maxDischargeDepth := 3) only [↓X, ↓Y, ↓Q, S1, ↓reduceIte, Nat.reduceEqDiff, Nat.reduceAdd, Int.reduceLT, Int.reduceLE, Int.reduceNeg, Int.reduceBEq, Int.reduceBNe, Int.reduceEq, Nat.reduceLeDiff, Nat.reduceMul, Nat.reduceLT, natV, intV, putAt, idxOk, flatP, *]
    | simp (singlePass := true) (maxDischargeDepth := 99) only [*, S2, Nat.reduceLT])
            exact ⟨h8, r8, _, kk9.2.1 _ FR, (H8.1 _ FR).more (Nat.zero_le _), (R8.1 _ FR).more (Nat.zero_le _), H8.2.2.1 _ FR, R8.2.2.1 _ FR, p3.out⟩
        · (repeat' first
    | with_reducible refine alloc_k fun _ _ _ _ _ _ => ?_
    | ((with_reducible refine at_row ?_); refine row1_k (by rfl) (by decide) fun _ _ _ _ _ _ _ => ?_)
    | with_reducible refine row_k fun _ _ _ _ _ _ => ?_
    | with_reducible refine fork (fun _ => ?_) (fun _ => ?_)
    | with_reducible refine forkp (fun _ => ?_) (fun _ => ?_)
    | with_reducible refine forke (fun _ => ?_) (fun _ _ => ?_)
    | with_reducible refine tail_k fun _ _ _ => ?_
    | with_reducible refine ext_k fun _ _ _ => ?_
    | with_reducible refine need (by first | kernel_rfl | omega | assumption) ?_
    | with_reducible refine st_agg (by kernel_rfl) rfl (by simp only [natV, intV, S3, *]) fun _ _ _ _ => ?_
    | with_reducible refine wpd_quiet_lit (by kernel_rfl) (by kernel_rfl) (by kernel_rfl) ?_
    | simp (maxDischargeDepth := 3) only [↓X, ↓Y, ↓Q, S1, ↓reduceIte, Nat.reduceEqDiff, Nat.reduceAdd, Int.reduceLT, Int.reduceLE, Int.reduceNeg, Int.reduceBEq, Int.reduceBNe, Int.reduceEq, Nat.reduceLeDiff, Nat.reduceMul, Nat.reduceLT, natV, intV, putAt, idxOk, flatP, *]
    | simp (singlePass := true) (maxDischargeDepth := 99) only [*, S2, Nat.reduceLT])
          refine anyX_one (i := 9) (f := 2) (by kernel_rfl) (by kernel_rfl) rfl (relStep_off rfl ?_)
          (repeat' first
    | with_reducible refine alloc_k fun _ _ _ _ _ _ => ?_
    | ((with_reducible refine at_row ?_); refine row1_k (by rfl) (by decide) fun _ _ _ _ _ _ _ => ?_)
    | with_reducible refine row_k fun _ _ _ _ _ _ => ?_
    | with_reducible refine fork (fun _ => ?_) (fun _ => ?_)
    | with_reducible refine forkp (fun _ => ?_) (fun _ => ?_)
    | with_reducible refine forke (fun _ => ?_) (fun _ _ => ?_)
    | with_reducible refine tail_k fun _ _ _ => ?_
    | with_reducible refine ext_k fun _ _ _ => ?_
    | with_reducible refine need (by first | kernel_rfl | omega | assumption) ?_
    | with_reducible refine st_agg (by kernel_rfl) rfl (by simp only [natV, intV, S3, *]) fun _ _ _ _ => ?_
    | with_reducible refine wpd_quiet_lit (by kernel_rfl) (by kernel_rfl) (by kernel_rfl) ?_
    | simp (maxDischargeDepth := 3) only [↓X, ↓Y, ↓Q, S1, ↓reduceIte, Nat.reduceEqDiff, Nat.reduceAdd, Int.reduceLT, Int.reduceLE, Int.reduceNeg, Int.reduceBEq, Int.reduceBNe, Int.reduceEq, Nat.reduceLeDiff, Nat.reduceMul, Nat.reduceLT, natV, intV, putAt, idxOk, flatP, *]
    | simp (singlePass := true) (maxDischargeDepth := 99) only [*, S2, Nat.reduceLT])
          refine anyX_one (i := 11) (f := 1) (by kernel_rfl) (by kernel_rfl) rfl (relStep_off rfl ?_)
          (repeat' first
    | with_reducible refine alloc_k fun _ _ _ _ _ _ => ?_
    | ((with_reducible refine at_row ?_); refine row1_k (by rfl) (by decide) fun _ _ _ _ _ _ _ => ?_)
    | with_reducible refine row_k fun _ _ _ _ _ _ => ?_
    | with_reducible refine fork (fun _ => ?_) (fun _ => ?_)
    | with_reducible refine forkp (fun _ => ?_) (fun _ => ?_)
    | with_reducible refine forke (fun _ => ?_) (fun _ _ => ?_)
    | with_reducible refine tail_k fun _ _ _ => ?_
    | with_reducible refine ext_k fun _ _ _ => ?_
    | with_reducible refine need (by first | kernel_rfl | omega | assumption) ?_
    | with_reducible refine st_agg (by kernel_rfl) rfl (by simp only [natV, intV, S3, *]) fun _ _ _ _ => ?_
    | with_reducible refine wpd_quiet_lit (by kernel_rfl) (by kernel_rfl) (by kernel_rfl) ?_
    | simp (maxDischargeDepth := 3) only [↓X, ↓Y, ↓Q, S1, ↓reduceIte, Nat.reduceEqDiff, Nat.reduceAdd, Int.reduceLT, Int.reduceLE, Int.reduceNeg, Int.reduceBEq, Int.reduceBNe, Int.reduceEq, Nat.reduceLeDiff, Nat.reduceMul, Nat.reduceLT, natV, intV, putAt, idxOk, flatP, *]
    | simp (singlePass := true) (maxDischargeDepth := 99) only [*, S2, Nat.reduceLT])
          rename_i wz1 nz1 kk9 sz1
          refine anyX_one (i := 12) (f := 0) (by kernel_rfl) (by kernel_rfl) rfl (relStep_off rfl ?_)
          (repeat' first
    | with_reducible refine alloc_k fun _ _ _ _ _ _ => ?_
    | ((with_reducible refine at_row ?_); refine row1_k (by rfl) (by decide) fun _ _ _ _ _ _ _ => ?_)
    | with_reducible refine row_k fun _ _ _ _ _ _ => ?_
    | with_reducible refine fork (fun _ => ?_) (fun _ => ?_)
    | with_reducible refine forkp (fun _ => ?_) (fun _ => ?_)
    | with_reducible refine forke (fun _ => ?_) (fun _ _ => ?_)
    | with_reducible refine tail_k fun _ _ _ => ?_
    | with_reducible refine ext_k fun _ _ _ => ?_
    | with_reducible refine need (by first | kernel_rfl | omega | assumption) ?_
    | with_reducible refine st_agg (by kernel_rfl) rfl (by simp only [natV, intV, S3, *]) fun _ _ _ _ => ?_
    | with_reducible refine wpd_quiet_lit (by kernel_rfl) (by kernel_rfl) (by kernel_rfl) ?_
    | simp (maxDischargeDepth := 3) only [↓X, ↓Y, ↓Q, S1, ↓reduceIte, Nat.reduceEqDiff, Nat.reduceAdd, Int.reduceLT, Int.reduceLE, Int.reduceNeg, Int.reduceBEq, Int.reduceBNe, Int.reduceEq, Nat.reduceLeDiff, Nat.reduceMul, Nat.reduceLT, natV, intV, putAt, idxOk, flatP, *]
    | simp (singlePass := true) (maxDischargeDepth := 99) only [*, S2, Nat.reduceLT])
          refine anyX_end (by kernel_rfl) ?_
          (repeat' first
    | with_reducible refine alloc_k fun _ _ _ _ _ _ => ?_
    | ((with_reducible refine at_row ?_); refine row1_k (by rfl) (by decide) fun _ _ _ _ _ _ _ => ?_)
    | with_reducible refine row_k fun _ _ _ _ _ _ => ?_
    | with_reducible refine fork (fun _ => ?_) (fun _ => ?_)
    | with_reducible refine forkp (fun _ => ?_) (fun _ => ?_)
    | with_reducible refine forke (fun _ => ?_) (fun _ _ => ?_)
    | with_reducible refine tail_k fun _ _ _ => ?_
    | with_reducible refine ext_k fun _ _ _ => ?_
    | with_reducible refine need (by first | kernel_rfl | omega | assumption) ?_
    | with_reducible refine st_agg (by kernel_rfl) rfl (by simp only [natV, intV, S3, *]) fun _ _ _ _ => ?_
    | with_reducible refine wpd_quiet_lit (by kernel_rfl) (by kernel_rfl) (by kernel_rfl) ?_
    | simp (maxDischargeDepth := 3) only [↓X, ↓Y, ↓Q, S1, ↓reduceIte, Nat.reduceEqDiff, Nat.reduceAdd, Int.reduceLT, Int.reduceLE, Int.reduceNeg, Int.reduceBEq, Int.reduceBNe, Int.reduceEq, Nat.reduceLeDiff, Nat.reduceMul, Nat.reduceLT, natV, intV, putAt, idxOk, flatP, *]
    | simp (singlePass := true) (maxDischargeDepth := 99) only [*, S2, Nat.reduceLT])
          refine next_b hk hlt ?_ FR
          (repeat' first
    | with_reducible refine alloc_k fun _ _ _ _ _ _ => ?_
    | ((with_reducible refine at_row ?_); refine row1_k (by rfl) (by decide) fun _ _ _ _ _ _ _ => ?_)
    | with_reducible refine row_k fun _ _ _ _ _ _ => ?_
    | with_reducible refine fork (fun _ => ?_) (fun _ => ?_)
    | with_reducible refine forkp (fun _ => ?_) (fun _ => ?_)
    | with_reducible refine forke (fun _ => ?_) (fun _ _ => ?_)
    | with_reducible refine tail_k fun _ _ _ => ?_
    | with_reducible refine ext_k fun _ _ _ => ?_
    | with_reducible refine need (by first | kernel_rfl | omega | assumption) ?_
    | with_reducible refine st_agg (by kernel_rfl) rfl (by simp only [natV, intV, S3, *]) fun _ _ _ _ => ?_
    | with_reducible refine wpd_quiet_lit (by kernel_rfl) (by kernel_rfl) (by kernel_rfl) ?_
    | simp (maxDischargeDepth := 3) only [↓X, ↓Y, ↓Q, S1, ↓reduceIte, Nat.reduceEqDiff, Nat.reduceAdd, Int.reduceLT, Int.reduceLE, Int.reduceNeg, Int.reduceBEq, Int.reduceBNe, Int.reduceEq, Nat.reduceLeDiff, Nat.reduceMul, Nat.reduceLT, natV, intV, putAt, idxOk, flatP, *]
    | simp (singlePass := true) (maxDischargeDepth := 99) only [*, S2, Nat.reduceLT])
          exact ⟨h8, r8, _, kk9.2.1 _ FR, (H8.1 _ FR).more (Nat.zero_le _), (R8.1 _ FR).more (Nat.zero_le _), H8.2.2.1 _ FR, R8.2.2.1 _ FR, p3.out⟩
    · rintro g wk nk sk ck hw ⟨hi, hf, h, r, V, hblk, ohk, ork, nh, nr, hrun⟩
      simp (maxDischargeDepth := 3) only [U, ↓reduceIte, Nat.reduceEqDiff, *] at hf
      rw [List.drop_length, runU] at hrun
      obtain rfl := Option.some.inj hrun
      have kk := hblk.bk
      have VK := (WorldR.mk (ohk.slN (f := stateC)) (ork.slN (f := replC)) : WorldR wk wk.heap.size h r V).sk (Nat.le_refl _)
      clear hblk ohk ork
      (repeat' first
    | with_reducible refine alloc_k fun _ _ _ _ _ _ => ?_
    | ((with_reducible refine at_row ?_); refine row1_k (by rfl) (by decide) fun _ _ _ _ _ _ _ => ?_)
    | with_reducible refine row_k fun _ _ _ _ _ _ => ?_
    | with_reducible refine fork (fun _ => ?_) (fun _ => ?_)
    | with_reducible refine forkp (fun _ => ?_) (fun _ => ?_)
    | with_reducible refine forke (fun _ => ?_) (fun _ _ => ?_)
    | with_reducible refine tail_k fun _ _ _ => ?_
    | with_reducible refine ext_k fun _ _ _ => ?_
    | with_reducible refine need (by first | kernel_rfl | omega | assumption) ?_
    | with_reducible refine st_agg (by kernel_rfl) rfl (by simp only [natV, intV, S3, *]) fun _ _ _ _ => ?_
    | with_reducible refine wpd_quiet_lit (by kernel_rfl) (by kernel_rfl) (by kernel_rfl) ?_
    | simp (maxDischargeDepth := 3) only [↓X, ↓Y, ↓Q, S1, ↓reduceIte, Nat.reduceEqDiff, Nat.reduceAdd, Int.reduceLT, Int.reduceLE, Int.reduceNeg, Int.reduceBEq, Int.reduceBNe, Int.reduceEq, Nat.reduceLeDiff, Nat.reduceMul, Nat.reduceLT, natV, intV, putAt, idxOk, flatP, *, siteC]
    | simp (singlePass := true) (maxDischargeDepth := 99) only [*, S2, Nat.reduceLT, siteC])
      refine ret_k (ref13Same (B := wk.heap.size) (B' := B) FR FR (VK.2.2.2.2 _ FR) (hX _ FR)) fun wz nz sz => ?_
      rw [decide_eq_true rfl]
      (repeat' first
    | with_reducible refine alloc_k fun _ _ _ _ _ _ => ?_
    | ((with_reducible refine at_row ?_); refine row1_k (by rfl) (by decide) fun _ _ _ _ _ _ _ => ?_)
    | with_reducible refine row_k fun _ _ _ _ _ _ => ?_
    | with_reducible refine fork (fun _ => ?_) (fun _ => ?_)
    | with_reducible refine forkp (fun _ => ?_) (fun _ => ?_)
    | with_reducible refine forke (fun _ => ?_) (fun _ _ => ?_)
    | with_reducible refine tail_k fun _ _ _ => ?_
    | with_reducible refine ext_k fun _ _ _ => ?_
    | with_reducible refine need (by first | kernel_rfl | omega | assumption) ?_
    | with_reducible refine st_agg (by kernel_rfl) rfl (by simp only [natV, intV, S3, *]) fun _ _ _ _ => ?_
    | with_reducible refine wpd_quiet_lit (by kernel_rfl) (by kernel_rfl) (by kernel_rfl) ?_
    | ((with_reducible refine at_f 7 ?_); refine ret_k (live19) fun _ _ _ => ?_)
    | simp (maxDischargeDepth := 3) only [↓X, ↓Y, ↓Q, S1, ↓reduceIte, Nat.reduceEqDiff, Nat.reduceAdd, Int.reduceLT, Int.reduceLE, Int.reduceNeg, Int.reduceBEq, Int.reduceBNe, Int.reduceEq, Nat.reduceLeDiff, Nat.reduceMul, Nat.reduceLT, natV, intV, putAt, idxOk, flatP, *, siteC]
    | simp (singlePass := true) (maxDischargeDepth := 99) only [*, S2, Nat.reduceLT, siteC])
  · have hE1 : (E == 0) = false := by simpa using hE0
    (repeat' first
    | with_reducible refine alloc_k fun _ _ _ _ _ _ => ?_
    | ((with_reducible refine at_row ?_); refine row1_k (by rfl) (by decide) fun _ _ _ _ _ _ _ => ?_)
    | with_reducible refine row_k fun _ _ _ _ _ _ => ?_
    | with_reducible refine fork (fun _ => ?_) (fun _ => ?_)
    | with_reducible refine forkp (fun _ => ?_) (fun _ => ?_)
    | with_reducible refine forke (fun _ => ?_) (fun _ _ => ?_)
    | with_reducible refine tail_k fun _ _ _ => ?_
    | with_reducible refine ext_k fun _ _ _ => ?_
    | with_reducible refine need (by first | kernel_rfl | omega | assumption) ?_
    | with_reducible refine st_agg (by kernel_rfl) rfl (by simp only [natV, intV, S3, *]) fun _ _ _ _ => ?_
    | with_reducible refine wpd_quiet_lit (by kernel_rfl) (by kernel_rfl) (by kernel_rfl) ?_
    | ((with_reducible refine at_f 7 ?_); refine ret_k (live19) fun _ _ _ => ?_)
    | simp (maxDischargeDepth := 3) only [↓X, ↓Y, ↓Q, S1, ↓reduceIte, Nat.reduceEqDiff, Nat.reduceAdd, Int.reduceLT, Int.reduceLE, Int.reduceNeg, Int.reduceBEq, Int.reduceBNe, Int.reduceEq, Nat.reduceLeDiff, Nat.reduceMul, Nat.reduceLT, natV, intV, putAt, idxOk, flatP, *, siteC, stepV, stepC]
    | simp (singlePass := true) (maxDischargeDepth := 99) only [*, S2, Nat.reduceLT, siteC, stepV, stepC])
end
end Go.Proofs.YtcdeeoakoljlpaaGreat
