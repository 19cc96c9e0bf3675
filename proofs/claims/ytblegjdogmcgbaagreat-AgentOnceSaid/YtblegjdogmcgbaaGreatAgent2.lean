
/- The layer agent, and the document's answer, layer 26: the answer to a request. -/
import Derived.Test.YtblegjdogmcgbaaGreatAgent1
import Derived.Test.YtblegjdogmcgbaaGreatRef19
namespace Go.Proofs.YtblegjdogmcgbaaGreat
set_option linter.unusedSimpArgs false
set_option linter.unusedVariables false
open Go Go.RowKit
set_option maxRecDepth 100000
set_option linter.unusedSectionVars false
set_option maxHeartbeats 2000000
section
variable {w : World} {B : Nat} {u : SiteVs} {s : SiteD} {wv hv rv : Value} {sl : List SrvV} {x : WorldD} {r : RequestD} {now : Int}
theorem agentAnswer1 {b7 b8 : Nat} (hB : B ≤ w.heap.size) (hx0 : WorldR w B hv rv x) (hb7 : Blk w b7 36 [hv, rv]) (hb8 : Blk w b8 44 (requestC r)) (hh : 0 ≤ r.step.host ∧ r.step.host < x.hosts.length) : Ret Tryz.prog 56 #[.pointer (some ⟨b7, 0, none⟩), .pointer (some ⟨b8, 0, none⟩)] w (.bool (decide ((hostAt x r.step.host).phase = 4))) := by
  have hn : Now w := trivial
  have hx : Ext w w := Ext.refl w
  obtain ⟨rid, rl, kd, ho, sv, vr⟩ := r
  have hx' := hx0.sk hB
  have k7 := hb7.bk
  have k8 := hb8.bk
  obtain ⟨k, rfl⟩ : ∃ k : Nat, ho = k := ⟨ho.toNat, by simp only at hh; omega⟩
  have hlt : k < x.hosts.length := by simp only at hh; omega
  have hat : hostAt x k = x.hosts[k] := by simp [hostAt, hlt]
  have hr : decide ((hostAt x k).phase = 4) = (x.hosts[k].phase == 4) := by rw [hat, Bool.eq_iff_iff]; simp
  simp only [hr]
  clear hr hat hh hb7 hb8
  (refine callsV_of Tryz.func56 rfl KR KR ?_; rw [Tryz.results56])
  (repeat' first
    | ((with_reducible refine at_row ?_); refine row1_a fun _ _ _ _ _ _ _ => ?_)
    | with_reducible first | (first | apply alloc_k | apply row_k); intro _ _ _ _ _ _ | (first | apply fork | apply forkp) <;> intro _ | refine forke (fun _ => ?_) fun _ _ => ?_ | refine tail_k fun _ _ _ => ?_ | refine ext_k fun _ _ _ => ?_ | refine need_a ?_ | refine st_agg KR rfl ON fun _ _ _ _ => ?_ | refine wpd_q_a ?_
    | simp (maxDischargeDepth := 3) only [↓X, ↓Y, ↓Q, S1, ↓reduceIte, Nat.reduceEqDiff, Nat.reduceAdd, Int.reduceLT, Int.reduceLE, Int.reduceNeg, Int.reduceBEq, Int.reduceBNe, Int.reduceEq, Nat.reduceLeDiff, Nat.reduceMul, Nat.reduceLT, *, stateV, requestC]
    | simp (singlePass := true) (maxDischargeDepth := 99) only [*, S2, Nat.reduceLT, stateV, requestC])
theorem agentAnswer2 {b8 b9 : Nat} (hb8 : Blk w b8 44 (requestC r)) (hb9 : Blk w b9 3 [intV now]) : Ret Tryz.prog 57 #[.pointer (some ⟨b8, 0, none⟩), .pointer (some ⟨b9, 0, none⟩)] w (.bool (decide (r.lease < now))) := by
  have hn : Now w := trivial
  have hx : Ext w w := Ext.refl w
  have k8 := hb8.bk
  have k9 := hb9.bk
  clear hb8 hb9
  (refine callsV_of Tryz.func57 rfl KR KR ?_; rw [Tryz.results57])
  (repeat' first
    | ((with_reducible refine at_row ?_); refine row1_a fun _ _ _ _ _ _ _ => ?_)
    | with_reducible first | (first | apply alloc_k | apply row_k); intro _ _ _ _ _ _ | (first | apply fork | apply forkp) <;> intro _ | refine forke (fun _ => ?_) fun _ _ => ?_ | refine tail_k fun _ _ _ => ?_ | refine ext_k fun _ _ _ => ?_ | refine need_a ?_ | refine st_agg KR rfl ON fun _ _ _ _ => ?_ | refine wpd_q_a ?_
    | simp (maxDischargeDepth := 3) only [↓X, ↓Y, ↓Q, S1, ↓reduceIte, Nat.reduceEqDiff, Nat.reduceAdd, Int.reduceLT, Int.reduceLE, Int.reduceNeg, Int.reduceBEq, Int.reduceBNe, Int.reduceEq, Nat.reduceLeDiff, Nat.reduceMul, Nat.reduceLT, *, requestC]
    | simp (singlePass := true) (maxDischargeDepth := 99) only [*, S2, Nat.reduceLT, requestC])
theorem agentAnswer3 {b5 b6 b7 b8 : Nat} (hB : B ≤ w.heap.size) (hs : SiteR w B u s) (hl : WishR w B wv sl) (hx0 : WorldR w B hv rv x) (hb5 : Blk w b5 29 (siteC u s)) (hb6 : Blk w b6 32 [wv]) (hb7 : Blk w b7 36 [hv, rv]) (hb8 : Blk w b8 44 (requestC r)) :
    Ret Tryz.prog 58 #[.pointer (some ⟨b5, 0, none⟩), .pointer (some ⟨b6, 0, none⟩), .pointer (some ⟨b7, 0, none⟩), .pointer (some ⟨b8, 0, none⟩)] w (.bool (!readyB s (sl.map (·.x)) x r.step)) := by
  have hn : Now w := trivial
  have hx : Ext w w := Ext.refl w
  obtain ⟨rid, rl, kd, ho, sv, vr⟩ := r
  have hs' := hs.sk hB
  have hl' := hl.sk hB
  have hx' := hx0.sk hB
  have hS := hs'.2.2.2.2.2.2
  have hW := hl'.2.2
  have hX := hx'.2.2.2.2
  have k5 := hb5.bk
  have k6 := hb6.bk
  have k7 := hb7.bk
  have k8 := hb8.bk
  have hv3 := fun w' (h1 : Bl B w w') (h3 : B ≤ w'.heap.size) => stepReady (st := ⟨kd, ho, sv, vr⟩) h3 (hS w' h1) (hW w' h1) (hX w' h1)
  simp only
  generalize readyB s (sl.map (·.x)) x ⟨kd, ho, sv, vr⟩ = rb at *
  clear hb5 hb6 hb7 hb8
  (refine callsV_of Tryz.func58 rfl KR KR ?_; rw [Tryz.results58])
  (repeat' first
    | ((with_reducible refine at_row ?_); refine row1_a fun _ _ _ _ _ _ _ => ?_)
    | with_reducible first | (first | apply alloc_k | apply row_k); intro _ _ _ _ _ _ | (first | apply fork | apply forkp) <;> intro _ | refine forke (fun _ => ?_) fun _ _ => ?_ | refine tail_k fun _ _ _ => ?_ | refine ext_k fun _ _ _ => ?_ | refine need_a ?_ | refine st_agg KR rfl ON fun _ _ _ _ => ?_ | refine wpd_q_a ?_
    | ((with_reducible refine at_f 59 ?_); refine ret_k (hv3 _ FR FR) fun _ _ _ => ?_)
    | simp (maxDischargeDepth := 3) only [↓X, ↓Y, ↓Q, S1, ↓reduceIte, Nat.reduceEqDiff, Nat.reduceAdd, Int.reduceLT, Int.reduceLE, Int.reduceNeg, Int.reduceBEq, Int.reduceBNe, Int.reduceEq, Nat.reduceLeDiff, Nat.reduceMul, Nat.reduceLT, *, siteC, requestC, stepV, stepC]
    | simp (singlePass := true) (maxDischargeDepth := 99) only [*, S2, Nat.reduceLT, siteC, requestC, stepV, stepC])
theorem agentAnswer (hB : B ≤ w.heap.size) (hs : SiteR w B u s) (hl : WishR w B wv sl) (hx0 : WorldR w B hv rv x) (hh : 0 ≤ r.step.host ∧ r.step.host < x.hosts.length) : Ret Tryz.prog 32 #[.agg (siteC u s).toArray, .agg #[wv], .agg #[hv, rv], requestV r, intV now] w (.int .u8 (ansI s (sl.map (·.x)) x r now)) := by
  have hn : Now w := trivial
  have hx : Ext w w := Ext.refl w
  have hs' := hs.sk hB
  have hl' := hl.sk hB
  have hx' := hx0.sk hB
  have hS := hs'.2.2.2.2.2.2
  have hW := hl'.2.2
  have hX := hx'.2.2.2.2
  have c1 : callable Tryz.prog 56 = true := by kernel_rfl
  have c2 : callable Tryz.prog 57 = true := by kernel_rfl
  have c3 : callable Tryz.prog 58 = true := by kernel_rfl
  have hof := one_func
  have hans : Hid (∀ p1 p2 p3 : Bool, decide ((hostAt x r.step.host).phase = 4) = p1 → decide (r.lease < now) = p2 → readyB s (sl.map (·.x)) x r.step = p3 → ansI s (sl.map (·.x)) x r now = if p1 = true then 4 else if p2 = true then 2 else if p3 = true then 1 else 3) := by
    rintro p1 p2 p3 rfl rfl rfl
    simp [ansI]
  obtain ⟨p1, hp1⟩ : ∃ p, decide ((hostAt x r.step.host).phase = 4) = p := ⟨_, rfl⟩
  obtain ⟨p2, hp2⟩ : ∃ p, decide (r.lease < now) = p := ⟨_, rfl⟩
  obtain ⟨p3, hp3⟩ : ∃ p, readyB s (sl.map (·.x)) x r.step = p := ⟨_, rfl⟩
  rw [hans.out p1 p2 p3 hp1 hp2 hp3]
  replace hp1 : Hid _ := hp1
  replace hp2 : Hid _ := hp2
  replace hp3 : Hid _ := hp3
  replace hh : Hid _ := hh
  clear hans
  (refine callsV_of Tryz.func32 rfl KR KR ?_; rw [Tryz.results32])
  (repeat' first
    | ((with_reducible refine at_row ?_); refine row1_a fun _ _ _ _ _ _ _ => ?_)
    | with_reducible first | (first | apply alloc_k | apply row_k); intro _ _ _ _ _ _ | (first | apply fork | apply forkp) <;> intro _ | refine forke (fun _ => ?_) fun _ _ => ?_ | refine tail_k fun _ _ _ => ?_ | refine ext_k fun _ _ _ => ?_ | refine need_a ?_ | refine st_agg KR rfl ON fun _ _ _ _ => ?_ | refine wpd_q_a ?_
    | simp (maxDischargeDepth := 3) only [↓X, ↓Y, ↓Q, S1, ↓reduceIte, Nat.reduceEqDiff, Nat.reduceAdd, Int.reduceLT, Int.reduceLE, Int.reduceNeg, Int.reduceBEq, Int.reduceBNe, Int.reduceEq, Nat.reduceLeDiff, Nat.reduceMul, Nat.reduceLT, *, siteC, requestV, requestC]
    | simp (singlePass := true) (maxDischargeDepth := 99) only [*, S2, Nat.reduceLT, siteC, requestV, requestC])
  rename_i b5 w5 n5 k5 s5 q5 b6 w6 n6 k6 s6 q6 b7 w7 n7 k7 s7 q7 b8 w8 n8 k8 s8 q8 b9 w9 n9 k9 s9 q9 bl wl0 nl kl sl0 ql
  refine loop_k 3 (fun g0 k g _ => g 21 = .int .i64 k ∧ (g 19 = g0 19 ∧ g 20 = g0 20) ∧ Hid ((1 ≤ k → p1 = false) ∧ (2 ≤ k → p2 = false) ∧ (3 ≤ k → p3 = true))) KR (by decide) ?_ ?_ ?_
  · (repeat' first
    | ((with_reducible refine at_row ?_); refine row1_a fun _ _ _ _ _ _ _ => ?_)
    | with_reducible first | (first | apply alloc_k | apply row_k); intro _ _ _ _ _ _ | (first | apply fork | apply forkp) <;> intro _ | refine forke (fun _ => ?_) fun _ _ => ?_ | refine tail_k fun _ _ _ => ?_ | refine ext_k fun _ _ _ => ?_ | refine need_a ?_ | refine st_agg KR rfl ON fun _ _ _ _ => ?_ | refine wpd_q_a ?_
    | simp (maxDischargeDepth := 3) only [↓X, ↓Y, ↓Q, S1, ↓reduceIte, Nat.reduceEqDiff, Nat.reduceAdd, Int.reduceLT, Int.reduceLE, Int.reduceNeg, Int.reduceBEq, Int.reduceBNe, Int.reduceEq, Nat.reduceLeDiff, Nat.reduceMul, Nat.reduceLT, *]
    | simp (singlePass := true) (maxDischargeDepth := 99) only [*, S2, Nat.reduceLT])
    exact ⟨fun h => absurd h (by decide), fun h => absurd h (by decide), fun h => absurd h (by decide)⟩
  · rintro k m g wk hk hlt _ _ _ hw ⟨hi, hf, hp⟩
    obtain rfl | rfl | rfl : k = 0 ∨ k = 1 ∨ k = 2 := by omega
    · have e1 : ((0 : Nat) : Int) = 0 := rfl
      have e9 : ((3 : Nat) : Int) = 3 := rfl
      have e2 : IntKind.i64.wrap (0 + 1) = 1 := by decide
      have e3 : Int.toNat 0 = 0 := rfl
      simp (maxDischargeDepth := 3) only [U, ↓reduceIte, Nat.reduceEqDiff, *] at hf
      (repeat' first
    | ((with_reducible refine at_row ?_); refine row1_a fun _ _ _ _ _ _ _ => ?_)
    | with_reducible first | (first | apply alloc_k | apply row_k); intro _ _ _ _ _ _ | (first | apply fork | apply forkp) <;> intro _ | refine forke (fun _ => ?_) fun _ _ => ?_ | refine tail_k fun _ _ _ => ?_ | refine ext_k fun _ _ _ => ?_ | refine need_a ?_ | refine st_agg KR rfl ON fun _ _ _ _ => ?_ | refine wpd_q_a ?_
    | simp (maxDischargeDepth := 3) only [↓X, ↓Y, ↓Q, S1, ↓reduceIte, Nat.reduceEqDiff, Nat.reduceAdd, Int.reduceLT, Int.reduceLE, Int.reduceNeg, Int.reduceBEq, Int.reduceBNe, Int.reduceEq, Nat.reduceLeDiff, Nat.reduceMul, Nat.reduceLT, *]
    | simp (singlePass := true) (maxDischargeDepth := 99) only [*, S2, Nat.reduceLT])
      refine ret_k (agentAnswer1 (B := B) FR (hX _ FR) (k7.2.1 _ FR) (k8.2.1 _ FR) hh.out) fun wx nx sx => ?_
      rw [hp1.out]
      cases p1
      · (repeat' first
    | ((with_reducible refine at_row ?_); refine row1_a fun _ _ _ _ _ _ _ => ?_)
    | with_reducible first | (first | apply alloc_k | apply row_k); intro _ _ _ _ _ _ | (first | apply fork | apply forkp) <;> intro _ | refine forke (fun _ => ?_) fun _ _ => ?_ | refine tail_k fun _ _ _ => ?_ | refine ext_k fun _ _ _ => ?_ | refine need_a ?_ | refine st_agg KR rfl ON fun _ _ _ _ => ?_ | refine wpd_q_a ?_
    | simp (maxDischargeDepth := 3) only [↓X, ↓Y, ↓Q, S1, ↓reduceIte, Nat.reduceEqDiff, Nat.reduceAdd, Int.reduceLT, Int.reduceLE, Int.reduceNeg, Int.reduceBEq, Int.reduceBNe, Int.reduceEq, Nat.reduceLeDiff, Nat.reduceMul, Nat.reduceLT, *]
    | simp (singlePass := true) (maxDischargeDepth := 99) only [*, S2, Nat.reduceLT])
        refine next_k hk hlt ?_ FR
        (repeat' first
    | ((with_reducible refine at_row ?_); refine row1_a fun _ _ _ _ _ _ _ => ?_)
    | with_reducible first | (first | apply alloc_k | apply row_k); intro _ _ _ _ _ _ | (first | apply fork | apply forkp) <;> intro _ | refine forke (fun _ => ?_) fun _ _ => ?_ | refine tail_k fun _ _ _ => ?_ | refine ext_k fun _ _ _ => ?_ | refine need_a ?_ | refine st_agg KR rfl ON fun _ _ _ _ => ?_ | refine wpd_q_a ?_
    | simp (maxDischargeDepth := 3) only [↓X, ↓Y, ↓Q, S1, ↓reduceIte, Nat.reduceEqDiff, Nat.reduceAdd, Int.reduceLT, Int.reduceLE, Int.reduceNeg, Int.reduceBEq, Int.reduceBNe, Int.reduceEq, Nat.reduceLeDiff, Nat.reduceMul, Nat.reduceLT, *]
    | simp (singlePass := true) (maxDischargeDepth := 99) only [*, S2, Nat.reduceLT])
        refine ⟨rfl, ?_⟩
        simp [Hid]
      · (repeat' first
    | ((with_reducible refine at_row ?_); refine row1_a fun _ _ _ _ _ _ _ => ?_)
    | with_reducible first | (first | apply alloc_k | apply row_k); intro _ _ _ _ _ _ | (first | apply fork | apply forkp) <;> intro _ | refine forke (fun _ => ?_) fun _ _ => ?_ | refine tail_k fun _ _ _ => ?_ | refine ext_k fun _ _ _ => ?_ | refine need_a ?_ | refine st_agg KR rfl ON fun _ _ _ _ => ?_ | refine wpd_q_a ?_
    | simp (maxDischargeDepth := 3) only [↓X, ↓Y, ↓Q, S1, ↓reduceIte, Nat.reduceEqDiff, Nat.reduceAdd, Int.reduceLT, Int.reduceLE, Int.reduceNeg, Int.reduceBEq, Int.reduceBNe, Int.reduceEq, Nat.reduceLeDiff, Nat.reduceMul, Nat.reduceLT, *]
    | simp (singlePass := true) (maxDischargeDepth := 99) only [*, S2, Nat.reduceLT])
        try rfl
    · have e1 : ((1 : Nat) : Int) = 1 := rfl
      have e9 : ((3 : Nat) : Int) = 3 := rfl
      have e2 : IntKind.i64.wrap (1 + 1) = 2 := by decide
      have e3 : Int.toNat 1 = 1 := rfl
      simp (maxDischargeDepth := 3) only [U, ↓reduceIte, Nat.reduceEqDiff, *] at hf
      (repeat' first
    | ((with_reducible refine at_row ?_); refine row1_a fun _ _ _ _ _ _ _ => ?_)
    | with_reducible first | (first | apply alloc_k | apply row_k); intro _ _ _ _ _ _ | (first | apply fork | apply forkp) <;> intro _ | refine forke (fun _ => ?_) fun _ _ => ?_ | refine tail_k fun _ _ _ => ?_ | refine ext_k fun _ _ _ => ?_ | refine need_a ?_ | refine st_agg KR rfl ON fun _ _ _ _ => ?_ | refine wpd_q_a ?_
    | simp (maxDischargeDepth := 3) only [↓X, ↓Y, ↓Q, S1, ↓reduceIte, Nat.reduceEqDiff, Nat.reduceAdd, Int.reduceLT, Int.reduceLE, Int.reduceNeg, Int.reduceBEq, Int.reduceBNe, Int.reduceEq, Nat.reduceLeDiff, Nat.reduceMul, Nat.reduceLT, *]
    | simp (singlePass := true) (maxDischargeDepth := 99) only [*, S2, Nat.reduceLT])
      refine ret_k (agentAnswer2 (k8.2.1 _ FR) (k9.2.1 _ FR)) fun wx nx sx => ?_
      rw [hp2.out]
      cases p2
      · (repeat' first
    | ((with_reducible refine at_row ?_); refine row1_a fun _ _ _ _ _ _ _ => ?_)
    | with_reducible first | (first | apply alloc_k | apply row_k); intro _ _ _ _ _ _ | (first | apply fork | apply forkp) <;> intro _ | refine forke (fun _ => ?_) fun _ _ => ?_ | refine tail_k fun _ _ _ => ?_ | refine ext_k fun _ _ _ => ?_ | refine need_a ?_ | refine st_agg KR rfl ON fun _ _ _ _ => ?_ | refine wpd_q_a ?_
    | simp (maxDischargeDepth := 3) only [↓X, ↓Y, ↓Q, S1, ↓reduceIte, Nat.reduceEqDiff, Nat.reduceAdd, Int.reduceLT, Int.reduceLE, Int.reduceNeg, Int.reduceBEq, Int.reduceBNe, Int.reduceEq, Nat.reduceLeDiff, Nat.reduceMul, Nat.reduceLT, *]
    | simp (singlePass := true) (maxDischargeDepth := 99) only [*, S2, Nat.reduceLT])
        refine next_k hk hlt ?_ FR
        (repeat' first
    | ((with_reducible refine at_row ?_); refine row1_a fun _ _ _ _ _ _ _ => ?_)
    | with_reducible first | (first | apply alloc_k | apply row_k); intro _ _ _ _ _ _ | (first | apply fork | apply forkp) <;> intro _ | refine forke (fun _ => ?_) fun _ _ => ?_ | refine tail_k fun _ _ _ => ?_ | refine ext_k fun _ _ _ => ?_ | refine need_a ?_ | refine st_agg KR rfl ON fun _ _ _ _ => ?_ | refine wpd_q_a ?_
    | simp (maxDischargeDepth := 3) only [↓X, ↓Y, ↓Q, S1, ↓reduceIte, Nat.reduceEqDiff, Nat.reduceAdd, Int.reduceLT, Int.reduceLE, Int.reduceNeg, Int.reduceBEq, Int.reduceBNe, Int.reduceEq, Nat.reduceLeDiff, Nat.reduceMul, Nat.reduceLT, *]
    | simp (singlePass := true) (maxDischargeDepth := 99) only [*, S2, Nat.reduceLT])
        have q1 := hp.out.1 (by decide)
        refine ⟨rfl, ?_⟩
        simp [Hid, q1]
      · (repeat' first
    | ((with_reducible refine at_row ?_); refine row1_a fun _ _ _ _ _ _ _ => ?_)
    | with_reducible first | (first | apply alloc_k | apply row_k); intro _ _ _ _ _ _ | (first | apply fork | apply forkp) <;> intro _ | refine forke (fun _ => ?_) fun _ _ => ?_ | refine tail_k fun _ _ _ => ?_ | refine ext_k fun _ _ _ => ?_ | refine need_a ?_ | refine st_agg KR rfl ON fun _ _ _ _ => ?_ | refine wpd_q_a ?_
    | simp (maxDischargeDepth := 3) only [↓X, ↓Y, ↓Q, S1, ↓reduceIte, Nat.reduceEqDiff, Nat.reduceAdd, Int.reduceLT, Int.reduceLE, Int.reduceNeg, Int.reduceBEq, Int.reduceBNe, Int.reduceEq, Nat.reduceLeDiff, Nat.reduceMul, Nat.reduceLT, *]
    | simp (singlePass := true) (maxDischargeDepth := 99) only [*, S2, Nat.reduceLT])
        rw [hp.out.1 (by decide)]
        rfl
    · have e1 : ((2 : Nat) : Int) = 2 := rfl
      have e9 : ((3 : Nat) : Int) = 3 := rfl
      have e2 : IntKind.i64.wrap (2 + 1) = 3 := by decide
      have e3 : Int.toNat 2 = 2 := rfl
      simp (maxDischargeDepth := 3) only [U, ↓reduceIte, Nat.reduceEqDiff, *] at hf
      (repeat' first
    | ((with_reducible refine at_row ?_); refine row1_a fun _ _ _ _ _ _ _ => ?_)
    | with_reducible first | (first | apply alloc_k | apply row_k); intro _ _ _ _ _ _ | (first | apply fork | apply forkp) <;> intro _ | refine forke (fun _ => ?_) fun _ _ => ?_ | refine tail_k fun _ _ _ => ?_ | refine ext_k fun _ _ _ => ?_ | refine need_a ?_ | refine st_agg KR rfl ON fun _ _ _ _ => ?_ | refine wpd_q_a ?_
    | simp (maxDischargeDepth := 3) only [↓X, ↓Y, ↓Q, S1, ↓reduceIte, Nat.reduceEqDiff, Nat.reduceAdd, Int.reduceLT, Int.reduceLE, Int.reduceNeg, Int.reduceBEq, Int.reduceBNe, Int.reduceEq, Nat.reduceLeDiff, Nat.reduceMul, Nat.reduceLT, *]
    | simp (singlePass := true) (maxDischargeDepth := 99) only [*, S2, Nat.reduceLT])
      refine ret_k (agentAnswer3 (B := B) FR (hS _ FR) (hW _ FR) (hX _ FR) (k5.2.1 _ FR) (k6.2.1 _ FR) (k7.2.1 _ FR) (k8.2.1 _ FR)) fun wx nx sx => ?_
      rw [hp3.out]
      cases p3
      · (repeat' first
    | ((with_reducible refine at_row ?_); refine row1_a fun _ _ _ _ _ _ _ => ?_)
    | with_reducible first | (first | apply alloc_k | apply row_k); intro _ _ _ _ _ _ | (first | apply fork | apply forkp) <;> intro _ | refine forke (fun _ => ?_) fun _ _ => ?_ | refine tail_k fun _ _ _ => ?_ | refine ext_k fun _ _ _ => ?_ | refine need_a ?_ | refine st_agg KR rfl ON fun _ _ _ _ => ?_ | refine wpd_q_a ?_
    | simp (maxDischargeDepth := 3) only [↓X, ↓Y, ↓Q, S1, ↓reduceIte, Nat.reduceEqDiff, Nat.reduceAdd, Int.reduceLT, Int.reduceLE, Int.reduceNeg, Int.reduceBEq, Int.reduceBNe, Int.reduceEq, Nat.reduceLeDiff, Nat.reduceMul, Nat.reduceLT, *]
    | simp (singlePass := true) (maxDischargeDepth := 99) only [*, S2, Nat.reduceLT])
        rw [hp.out.1 (by decide), hp.out.2.1 (by decide)]
        rfl
      · (repeat' first
    | ((with_reducible refine at_row ?_); refine row1_a fun _ _ _ _ _ _ _ => ?_)
    | with_reducible first | (first | apply alloc_k | apply row_k); intro _ _ _ _ _ _ | (first | apply fork | apply forkp) <;> intro _ | refine forke (fun _ => ?_) fun _ _ => ?_ | refine tail_k fun _ _ _ => ?_ | refine ext_k fun _ _ _ => ?_ | refine need_a ?_ | refine st_agg KR rfl ON fun _ _ _ _ => ?_ | refine wpd_q_a ?_
    | simp (maxDischargeDepth := 3) only [↓X, ↓Y, ↓Q, S1, ↓reduceIte, Nat.reduceEqDiff, Nat.reduceAdd, Int.reduceLT, Int.reduceLE, Int.reduceNeg, Int.reduceBEq, Int.reduceBNe, Int.reduceEq, Nat.reduceLeDiff, Nat.reduceMul, Nat.reduceLT, *]
    | simp (singlePass := true) (maxDischargeDepth := 99) only [*, S2, Nat.reduceLT])
        refine next_k hk hlt ?_ FR
        (repeat' first
    | ((with_reducible refine at_row ?_); refine row1_a fun _ _ _ _ _ _ _ => ?_)
    | with_reducible first | (first | apply alloc_k | apply row_k); intro _ _ _ _ _ _ | (first | apply fork | apply forkp) <;> intro _ | refine forke (fun _ => ?_) fun _ _ => ?_ | refine tail_k fun _ _ _ => ?_ | refine ext_k fun _ _ _ => ?_ | refine need_a ?_ | refine st_agg KR rfl ON fun _ _ _ _ => ?_ | refine wpd_q_a ?_
    | simp (maxDischargeDepth := 3) only [↓X, ↓Y, ↓Q, S1, ↓reduceIte, Nat.reduceEqDiff, Nat.reduceAdd, Int.reduceLT, Int.reduceLE, Int.reduceNeg, Int.reduceBEq, Int.reduceBNe, Int.reduceEq, Nat.reduceLeDiff, Nat.reduceMul, Nat.reduceLT, *]
    | simp (singlePass := true) (maxDischargeDepth := 99) only [*, S2, Nat.reduceLT])
        have q1 := hp.out.1 (by decide)
        have q2 := hp.out.2.1 (by decide)
        simp [Hid, q1, q2]
  · rintro g wk _ _ _ ⟨hi, hf, hp⟩
    simp (maxDischargeDepth := 3) only [U, ↓reduceIte, Nat.reduceEqDiff, *] at hf
    have e1 : ((3 : Nat) : Int) = 3 := rfl
    (repeat' first
    | ((with_reducible refine at_row ?_); refine row1_a fun _ _ _ _ _ _ _ => ?_)
    | with_reducible first | (first | apply alloc_k | apply row_k); intro _ _ _ _ _ _ | (first | apply fork | apply forkp) <;> intro _ | refine forke (fun _ => ?_) fun _ _ => ?_ | refine tail_k fun _ _ _ => ?_ | refine ext_k fun _ _ _ => ?_ | refine need_a ?_ | refine st_agg KR rfl ON fun _ _ _ _ => ?_ | refine wpd_q_a ?_
    | simp (maxDischargeDepth := 3) only [↓X, ↓Y, ↓Q, S1, ↓reduceIte, Nat.reduceEqDiff, Nat.reduceAdd, Int.reduceLT, Int.reduceLE, Int.reduceNeg, Int.reduceBEq, Int.reduceBNe, Int.reduceEq, Nat.reduceLeDiff, Nat.reduceMul, Nat.reduceLT, *]
    | simp (singlePass := true) (maxDischargeDepth := 99) only [*, S2, Nat.reduceLT])
    rw [hp.out.1 (by decide), hp.out.2.1 (by decide), hp.out.2.2 (by decide)]
    rfl
theorem ref26Answer (hB : B ≤ w.heap.size) (hs : SiteR w B u s) (hl : WishR w B wv sl) (hx0 : WorldR w B hv rv x) (hh : 0 ≤ r.step.host ∧ r.step.host < x.hosts.length) : Ret Tryz.prog 22 #[.agg (siteC u s).toArray, .agg #[wv], .agg #[hv, rv], requestV r, intV now] w (.int .u8 (ansI s (sl.map (·.x)) x r now)) := by
  have hn : Now w := trivial
  have hx : Ext w w := Ext.refl w
  obtain ⟨rid, rl, kd, ho, sv, vr⟩ := r
  have hs' := hs.sk hB
  have hl' := hl.sk hB
  have hx' := hx0.sk hB
  have hS := hs'.2.2.2.2.2.2
  have hW := hl'.2.2
  have hX := hx'.2.2.2.2
  obtain ⟨k, rfl⟩ : ∃ k : Nat, ho = k := ⟨ho.toNat, by simp only at hh; omega⟩
  have hlt : k < x.hosts.length := by simp only at hh; omega
  have hat : hostAt x k = x.hosts[k] := by simp [hostAt, hlt]
  have hv3 := fun w' (h1 : Bl B w w') (h3 : B ≤ w'.heap.size) => ref19Ready (st := ⟨kd, k, sv, vr⟩) h3 (hS w' h1) (hW w' h1) (hX w' h1)
  have hans : Hid (ansI s (sl.map (·.x)) x ⟨rid, rl, ⟨kd, k, sv, vr⟩⟩ now = if x.hosts[k].phase = 4 then 4 else if rl < now then 2 else if readyB s (sl.map (·.x)) x ⟨kd, k, sv, vr⟩ = true then 1 else 3) := by
    show _ = _
    simp only [ansI, hat]
  rw [hans.out]
  generalize readyB s (sl.map (·.x)) x ⟨kd, k, sv, vr⟩ = rb at *
  clear hans hat hh
  (refine callsV_of Tryz.func22 rfl KR KR ?_; rw [Tryz.results22])
  (repeat' first
    | ((with_reducible refine at_row ?_); refine row1_a fun _ _ _ _ _ _ _ => ?_)
    | with_reducible first | (first | apply alloc_k | apply row_k); intro _ _ _ _ _ _ | (first | apply fork | apply forkp) <;> intro _ | refine forke (fun _ => ?_) fun _ _ => ?_ | refine tail_k fun _ _ _ => ?_ | refine ext_k fun _ _ _ => ?_ | refine need_a ?_ | refine st_agg KR rfl ON fun _ _ _ _ => ?_ | refine wpd_q_a ?_
    | ((with_reducible refine at_f 40 ?_); refine ret_k (hv3 _ FR FR) fun _ _ _ => ?_)
    | simp (maxDischargeDepth := 3) only [↓X, ↓Y, ↓Q, S1, ↓reduceIte, Nat.reduceEqDiff, Nat.reduceAdd, Int.reduceLT, Int.reduceLE, Int.reduceNeg, Int.reduceBEq, Int.reduceBNe, Int.reduceEq, Nat.reduceLeDiff, Nat.reduceMul, Nat.reduceLT, *, siteC, requestV, requestC, stepV, stepC, stateV]
    | simp (singlePass := true) (maxDischargeDepth := 99) only [*, S2, Nat.reduceLT, siteC, requestV, requestC, stepV, stepC, stateV])
  all_goals trace_state
end
end Go.Proofs.YtblegjdogmcgbaaGreat
