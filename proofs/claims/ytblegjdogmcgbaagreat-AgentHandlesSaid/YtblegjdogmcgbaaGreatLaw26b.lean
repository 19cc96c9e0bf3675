
/- The statements AgentHandles and AgentFails. -/
import Derived.Test.YtblegjdogmcgbaaGreatLaw26a
import Derived.Test.YtblegjdogmcgbaaGreatAgent5
namespace Go.Proofs.YtblegjdogmcgbaaGreat
set_option linter.unusedSimpArgs false
set_option linter.unusedVariables false
open Go Go.RowKit
set_option maxRecDepth 100000
set_option linter.unusedSectionVars false
set_option maxHeartbeats 4000000
section
variable {w : World} {B : Nat} {u : SiteVs} {s : SiteD} {wv hv rv av : Value} {sl : List SrvV} {x : WorldD} {r : RequestD} {now : Int} {l : List ReplyD}
theorem lawAgentHandles (hB : B ≤ w.heap.size) (hs : SiteR w B u s) (hl : WishR w B wv sl) (hx0 : WorldR w B hv rv x) (ha0 : Sl w B (some 2) 2 av (l.map replyV)) : Ret Tryz.prog 3 #[.agg (siteC u s).toArray, .agg #[wv], .agg #[hv, rv], .agg #[av], requestV r, intV now] w (.bool true) := by
  have hn : Now w := trivial
  have hx : Ext w w := Ext.refl w
  obtain ⟨rid, rl, kd, hto, sv, vr⟩ := r
  have hs' := hs.sk hB
  have hl' := hl.sk hB
  have hx' := hx0.sk hB
  have ha' := ha0.k hB
  have hS := hs'.2.2.2.2.2.2
  have hW := hl'.2.2
  have hX := hx'.2.2.2.2
  have hA := ha'.2.2.2.2.2.2.1
  have hf := fun w' (h1 : Bl B w w') (h3 : B ≤ w'.heap.size) => few26 h3 (hS w' h1) (hW w' h1) (hX w' h1)
  generalize few26B s (sl.map (·.x)) x = fb at hf
  (refine callsV_of Tryz.func3 rfl (by kernel_rfl) (by kernel_rfl) ?_; rw [Tryz.results3])
  cases fb
  · (repeat' first
    | ((with_reducible refine at_row ?_); refine row1_k (by rfl) (by decide) fun _ _ _ _ _ _ _ => ?_)
    | with_reducible first | refine alloc_k fun _ _ _ _ _ _ => ?_ | refine row_k fun _ _ _ _ _ _ => ?_ | refine fork (fun _ => ?_) fun _ => ?_ | refine forkp (fun _ => ?_) fun _ => ?_ | refine forke (fun _ => ?_) fun _ _ => ?_ | refine tail_k fun _ _ _ => ?_ | refine ext_k fun _ _ _ => ?_ | refine need_a ?_ | refine st_agg (by kernel_rfl) rfl (by simp only [natV, intV, S3, *]) fun _ _ _ _ => ?_ | refine wpd_q_a ?_
    | ((with_reducible refine at_f 8 ?_); refine ret_k (hf _ FR FR) fun _ _ _ => ?_)
    | ((with_reducible refine at_f 9 ?_); refine ret_k (law26lives) fun _ _ _ => ?_)
    | simp (maxDischargeDepth := 3) only [↓X, ↓Y, ↓Q, S1, ↓reduceIte, Nat.reduceEqDiff, Nat.reduceAdd, Int.reduceLT, Int.reduceLE, Int.reduceNeg, Int.reduceBEq, Int.reduceBNe, Int.reduceEq, Nat.reduceLeDiff, Nat.reduceMul, Nat.reduceLT, natV, intV, putAt, idxOk, flatP, *, siteC, requestV, requestC]
    | simp (singlePass := true) (maxDischargeDepth := 99) only [*, S2, Nat.reduceLT, siteC, requestV, requestC])
  (repeat' first
    | ((with_reducible refine at_row ?_); refine row1_k (by rfl) (by decide) fun _ _ _ _ _ _ _ => ?_)
    | with_reducible first | refine alloc_k fun _ _ _ _ _ _ => ?_ | refine row_k fun _ _ _ _ _ _ => ?_ | refine fork (fun _ => ?_) fun _ => ?_ | refine forkp (fun _ => ?_) fun _ => ?_ | refine forke (fun _ => ?_) fun _ _ => ?_ | refine tail_k fun _ _ _ => ?_ | refine ext_k fun _ _ _ => ?_ | refine need_a ?_ | refine st_agg (by kernel_rfl) rfl (by simp only [natV, intV, S3, *]) fun _ _ _ _ => ?_ | refine wpd_q_a ?_
    | ((with_reducible refine at_f 8 ?_); refine ret_k (hf _ FR FR) fun _ _ _ => ?_)
    | simp (maxDischargeDepth := 3) only [↓X, ↓Y, ↓Q, S1, ↓reduceIte, Nat.reduceEqDiff, Nat.reduceAdd, Int.reduceLT, Int.reduceLE, Int.reduceNeg, Int.reduceBEq, Int.reduceBNe, Int.reduceEq, Nat.reduceLeDiff, Nat.reduceMul, Nat.reduceLT, natV, intV, putAt, idxOk, flatP, *, siteC, requestV, requestC]
    | simp (singlePass := true) (maxDischargeDepth := 99) only [*, S2, Nat.reduceLT, siteC, requestV, requestC])
  refine call_k (law26cut (B := B) FR (hA _ FR)) ?_
  rintro _ w1 n1 s1 ⟨a, rfl, oa⟩
  have A := oa.o
  have al := oa.one
  clear oa
  (repeat' first
    | ((with_reducible refine at_row ?_); refine row1_k (by rfl) (by decide) fun _ _ _ _ _ _ _ => ?_)
    | with_reducible first | refine alloc_k fun _ _ _ _ _ _ => ?_ | refine row_k fun _ _ _ _ _ _ => ?_ | refine fork (fun _ => ?_) fun _ => ?_ | refine forkp (fun _ => ?_) fun _ => ?_ | refine forke (fun _ => ?_) fun _ _ => ?_ | refine tail_k fun _ _ _ => ?_ | refine ext_k fun _ _ _ => ?_ | refine need_a ?_ | refine st_agg (by kernel_rfl) rfl (by simp only [natV, intV, S3, *]) fun _ _ _ _ => ?_ | refine wpd_q_a ?_
    | simp (maxDischargeDepth := 3) only [↓X, ↓Y, ↓Q, S1, ↓reduceIte, Nat.reduceEqDiff, Nat.reduceAdd, Int.reduceLT, Int.reduceLE, Int.reduceNeg, Int.reduceBEq, Int.reduceBNe, Int.reduceEq, Nat.reduceLeDiff, Nat.reduceMul, Nat.reduceLT, natV, intV, putAt, idxOk, flatP, *, siteC, requestV, requestC]
    | simp (singlePass := true) (maxDischargeDepth := 99) only [*, S2, Nat.reduceLT, siteC, requestV, requestC])
  have hL : (l.take 402).length ≤ 1000000 := by rw [List.length_take]; omega
  generalize l.take 402 = L at *
  replace hL : Hid _ := hL
  replace hS : Hid _ := hS
  replace hW : Hid _ := hW
  refine call_k (agentHandle (r := ⟨rid, rl, ⟨kd, hto, sv, vr⟩⟩) (now := now) (Nat.le_refl _) ((hS.out _ FR).up FR) ((hW.out _ FR).up FR) ((hX _ FR).up FR) ((A.1 _ FR).slN (f := replyC)) hL.out) ?_
  rintro _ w2 n2 s2 ⟨_, a2, rfl, ⟨h2, r2, rfl, oh2, or2⟩, oa2⟩
  have H2 := oh2.o
  have R2 := or2.o
  have A2 := oa2.o
  clear oh2 or2 oa2
  (repeat' first
    | ((with_reducible refine at_row ?_); refine row1_k (by rfl) (by decide) fun _ _ _ _ _ _ _ => ?_)
    | with_reducible first | refine alloc_k fun _ _ _ _ _ _ => ?_ | refine row_k fun _ _ _ _ _ _ => ?_ | refine fork (fun _ => ?_) fun _ => ?_ | refine forkp (fun _ => ?_) fun _ => ?_ | refine forke (fun _ => ?_) fun _ _ => ?_ | refine tail_k fun _ _ _ => ?_ | refine ext_k fun _ _ _ => ?_ | refine need_a ?_ | refine st_agg (by kernel_rfl) rfl (by simp only [natV, intV, S3, *]) fun _ _ _ _ => ?_ | refine wpd_q_a ?_
    | simp (maxDischargeDepth := 3) only [↓X, ↓Y, ↓Q, S1, ↓reduceIte, Nat.reduceEqDiff, Nat.reduceAdd, Int.reduceLT, Int.reduceLE, Int.reduceNeg, Int.reduceBEq, Int.reduceBNe, Int.reduceEq, Nat.reduceLeDiff, Nat.reduceMul, Nat.reduceLT, natV, intV, putAt, idxOk, flatP, *, siteC, requestV, requestC, replyV, replyC]
    | simp (singlePass := true) (maxDischargeDepth := 99) only [*, S2, Nat.reduceLT, siteC, requestV, requestC, replyV, replyC])
  refine call_k (ref26Handle (r := ⟨rid, rl, ⟨kd, hto, sv, vr⟩⟩) (now := now) (Nat.le_refl _) ((hS.out _ FR).up FR) ((hW.out _ FR).up FR) ((hX _ FR).up FR) ((A.1 _ FR).slN (f := replyC)) hL.out) ?_
  rintro _ w3 n3 s3 ⟨_, a3, rfl, ⟨h3, r3, rfl, oh3, or3⟩, oa3⟩
  have H3 := oh3.o
  have R3 := or3.o
  have A3 := oa3.o
  clear oh3 or3 oa3
  generalize handleD s (sl.map (·.x)) x L ⟨rid, rl, ⟨kd, hto, sv, vr⟩⟩ now = D at *
  obtain ⟨pk, bk, hk⟩ : ∃ (p : ReplyD) (b : Bool), knownV (knownO L rid) = .tuple #[replyV p, .bool b] := by
    unfold knownV
    split
    · exact ⟨_, _, rfl⟩
    · exact ⟨⟨0, 0⟩, _, rfl⟩
  have hk1 := fun w' (h : Bp a w1 w') => agentKnown (w := w') (id := rid) (Nat.le_refl _) ((A.1 w' h).slN (f := replyC))
  have hk2 := fun w' (h : Bp a w1 w') => ref26Known (w := w') (id := rid) (Nat.le_refl _) ((A.1 w' h).slN (f := replyC))
  rw [hk] at hk1 hk2
  replace hk1 : Hid _ := hk1
  replace hk2 : Hid _ := hk2
  (repeat' first
    | ((with_reducible refine at_row ?_); refine row1_k (by rfl) (by decide) fun _ _ _ _ _ _ _ => ?_)
    | with_reducible first | refine alloc_k fun _ _ _ _ _ _ => ?_ | refine row_k fun _ _ _ _ _ _ => ?_ | refine fork (fun _ => ?_) fun _ => ?_ | refine forkp (fun _ => ?_) fun _ => ?_ | refine forke (fun _ => ?_) fun _ _ => ?_ | refine tail_k fun _ _ _ => ?_ | refine ext_k fun _ _ _ => ?_ | refine need_a ?_ | refine st_agg (by kernel_rfl) rfl (by simp only [natV, intV, S3, *]) fun _ _ _ _ => ?_ | refine wpd_q_a ?_
    | ((with_reducible refine at_f 13 ?_); refine ret_k (hk1.out _ FR) fun _ _ _ => ?_)
    | ((with_reducible refine at_f 14 ?_); refine ret_k (hk2.out _ FR) fun _ _ _ => ?_)
    | simp (maxDischargeDepth := 3) only [↓X, ↓Y, ↓Q, S1, ↓reduceIte, Nat.reduceEqDiff, Nat.reduceAdd, Int.reduceLT, Int.reduceLE, Int.reduceNeg, Int.reduceBEq, Int.reduceBNe, Int.reduceEq, Nat.reduceLeDiff, Nat.reduceMul, Nat.reduceLT, natV, intV, putAt, idxOk, flatP, *, siteC, requestV, requestC, replyV, replyC]
    | simp (singlePass := true) (maxDischargeDepth := 99) only [*, S2, Nat.reduceLT, siteC, requestV, requestC, replyV, replyC])
  refine ret_k (ref13Same (Nat.le_refl _) (Nat.le_refl _) ⟨(H2.1 _ FR).slN (f := stateC), (R2.1 _ FR).slN (f := replC)⟩ ⟨(H3.1 _ FR).slN (f := stateC), (R3.1 _ FR).slN (f := replC)⟩) fun w6 n6 s6 => ?_
  rw [decide_eq_true rfl]
  (repeat' first
    | ((with_reducible refine at_row ?_); refine row1_k (by rfl) (by decide) fun _ _ _ _ _ _ _ => ?_)
    | with_reducible first | refine alloc_k fun _ _ _ _ _ _ => ?_ | refine row_k fun _ _ _ _ _ _ => ?_ | refine fork (fun _ => ?_) fun _ => ?_ | refine forkp (fun _ => ?_) fun _ => ?_ | refine forke (fun _ => ?_) fun _ _ => ?_ | refine tail_k fun _ _ _ => ?_ | refine ext_k fun _ _ _ => ?_ | refine need_a ?_ | refine st_agg (by kernel_rfl) rfl (by simp only [natV, intV, S3, *]) fun _ _ _ _ => ?_ | refine wpd_q_a ?_
    | simp (maxDischargeDepth := 3) only [↓X, ↓Y, ↓Q, S1, ↓reduceIte, Nat.reduceEqDiff, Nat.reduceAdd, Int.reduceLT, Int.reduceLE, Int.reduceNeg, Int.reduceBEq, Int.reduceBNe, Int.reduceEq, Nat.reduceLeDiff, Nat.reduceMul, Nat.reduceLT, natV, intV, putAt, idxOk, flatP, *]
    | simp (singlePass := true) (maxDischargeDepth := 99) only [*, S2, Nat.reduceLT])
  refine ret_k (ref26Same (Nat.le_refl _) (Nat.le_refl _) ((A2.1 _ FR).slN (f := replyC)) ((A3.1 _ FR).slN (f := replyC))) fun w7 n7 s7 => ?_
  rw [decide_eq_true rfl]
  (repeat' first
    | ((with_reducible refine at_row ?_); refine row1_k (by rfl) (by decide) fun _ _ _ _ _ _ _ => ?_)
    | with_reducible first | refine alloc_k fun _ _ _ _ _ _ => ?_ | refine row_k fun _ _ _ _ _ _ => ?_ | refine fork (fun _ => ?_) fun _ => ?_ | refine forkp (fun _ => ?_) fun _ => ?_ | refine forke (fun _ => ?_) fun _ _ => ?_ | refine tail_k fun _ _ _ => ?_ | refine ext_k fun _ _ _ => ?_ | refine need_a ?_ | refine st_agg (by kernel_rfl) rfl (by simp only [natV, intV, S3, *]) fun _ _ _ _ => ?_ | refine wpd_q_a ?_
    | ((with_reducible refine at_f 9 ?_); refine ret_k (law26lives) fun _ _ _ => ?_)
    | simp (maxDischargeDepth := 3) only [↓X, ↓Y, ↓Q, S1, ↓reduceIte, Nat.reduceEqDiff, Nat.reduceAdd, Int.reduceLT, Int.reduceLE, Int.reduceNeg, Int.reduceBEq, Int.reduceBNe, Int.reduceEq, Nat.reduceLeDiff, Nat.reduceMul, Nat.reduceLT, natV, intV, putAt, idxOk, flatP, *]
    | simp (singlePass := true) (maxDischargeDepth := 99) only [*, S2, Nat.reduceLT])
  trace_state
end
end Go.Proofs.YtblegjdogmcgbaaGreat
