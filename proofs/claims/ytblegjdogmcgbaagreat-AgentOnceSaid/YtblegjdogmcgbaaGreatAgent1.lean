
/- The layer agent, and the document's answer, layer 26: Known, own, Same. -/
import Derived.Test.YtblegjdogmcgbaaGreatPure13
import Derived.Test.YtblegjdogmcgbaaGreatStep4
import Derived.Test.YtblegjdogmcgbaaGreatCopy13
namespace Go.Proofs.YtblegjdogmcgbaaGreat
set_option linter.unusedSimpArgs false
set_option linter.unusedVariables false
open Go Go.RowKit
set_option maxRecDepth 100000
set_option linter.unusedSectionVars false
set_option maxHeartbeats 1000000
section
variable {w : World} {B B' : Nat} {hv rv v v' : Value} {x : WorldD} {l : List ReplyD} {id : Int}
theorem replyC_one (x : ReplyD) : ∀ v ∈ replyC x, v.oneCell' = true := by
  intro v hv
  simp only [replyC, List.mem_cons, List.not_mem_nil, or_false] at hv
  rcases hv with rfl | rfl <;> rfl
abbrev OwnA (w : World) (B : Nat) (v : Value) (l : List ReplyD) : Prop := Own w B 50 2 v (l.map replyC)
theorem slicesCloneH {l : List StateD} (hB : B ≤ w.heap.size) (hv : Sl w B (some 2) 2 v (l.map stateV)) (hlen : l.length ≤ 1000000) : CallsV Tryz.prog 54 #[v] w fun v w' => Ext w w' ∧ OwnH w' w.heap.size v l := by
  have hn : Now w := trivial
  have hx : Ext w w := Ext.refl w
  have hv' := hv.k hB
  (refine callsV_of Tryz.func54 rfl KR KR ?_; rw [Tryz.results54])
  (repeat' first
    | ((with_reducible refine at_row ?_); refine row1_a fun _ _ _ _ _ _ _ => ?_)
    | with_reducible first | (first | apply alloc_k | apply row_k); intro _ _ _ _ _ _ | (first | apply fork | apply forkp) <;> intro _ | refine forke (fun _ => ?_) fun _ _ => ?_ | refine tail_k fun _ _ _ => ?_ | refine ext_k fun _ _ _ => ?_ | refine need_a ?_ | refine st_agg KR rfl ON fun _ _ _ _ => ?_ | refine wpd_q_a ?_
    | simp (maxDischargeDepth := 3) only [↓X, ↓Y, ↓Q, S1, ↓reduceIte, Nat.reduceEqDiff, Nat.reduceAdd, Int.reduceLT, Int.reduceLE, Int.reduceNeg, Int.reduceBEq, Int.reduceBNe, Int.reduceEq, Nat.reduceLeDiff, Nat.reduceMul, Nat.reduceLT, *]
    | simp (singlePass := true) (maxDischargeDepth := 99) only [*, S2, Nat.reduceLT])
  · rw [nil_of hv (by assumption)]
    exact Own.nil _ _ _ _
  · rename_i w1 n1 k1 s1 nw1 sl1
    refine appendAll_k (e := 76) (sz := 2) (by_ := 16) (z := .agg #[.int .u8 0, .int .i64 0]) (B := w.heap.size) (l := ([] : List StateD)) (r := l) (c := stateC) KR KR rfl (by decide) (by decide) (Own.ofBlkN (by simp) (k1.2.1 _ FR) (by simp) FR (by simp)) (hv'.2.2.2.2.2.2.1 _ FR) (fun _ => rfl) stateC_one (by simp; omega) FR fun v2 w2 n2 s2 hown => ?_
    have o2 := hown.o
    (repeat' first
    | ((with_reducible refine at_row ?_); refine row1_a fun _ _ _ _ _ _ _ => ?_)
    | with_reducible first | (first | apply alloc_k | apply row_k); intro _ _ _ _ _ _ | (first | apply fork | apply forkp) <;> intro _ | refine forke (fun _ => ?_) fun _ _ => ?_ | refine tail_k fun _ _ _ => ?_ | refine ext_k fun _ _ _ => ?_ | refine need_a ?_ | refine st_agg KR rfl ON fun _ _ _ _ => ?_ | refine wpd_q_a ?_
    | simp (maxDischargeDepth := 3) only [↓X, ↓Y, ↓Q, S1, ↓reduceIte, Nat.reduceEqDiff, Nat.reduceAdd, Int.reduceLT, Int.reduceLE, Int.reduceNeg, Int.reduceBEq, Int.reduceBNe, Int.reduceEq, Nat.reduceLeDiff, Nat.reduceMul, Nat.reduceLT, *]
    | simp (singlePass := true) (maxDischargeDepth := 99) only [*, S2, Nat.reduceLT])
    exact o2.1 _ FR
theorem slicesCloneA (hB : B ≤ w.heap.size) (hv : Sl w B (some 2) 2 v (l.map replyV)) (hlen : l.length ≤ 1000000) : CallsV Tryz.prog 31 #[v] w fun v w' => Ext w w' ∧ OwnA w' w.heap.size v l := by
  have hn : Now w := trivial
  have hx : Ext w w := Ext.refl w
  have hv' := hv.k hB
  (refine callsV_of Tryz.func31 rfl KR KR ?_; rw [Tryz.results31])
  (repeat' first
    | ((with_reducible refine at_row ?_); refine row1_a fun _ _ _ _ _ _ _ => ?_)
    | with_reducible first | (first | apply alloc_k | apply row_k); intro _ _ _ _ _ _ | (first | apply fork | apply forkp) <;> intro _ | refine forke (fun _ => ?_) fun _ _ => ?_ | refine tail_k fun _ _ _ => ?_ | refine ext_k fun _ _ _ => ?_ | refine need_a ?_ | refine st_agg KR rfl ON fun _ _ _ _ => ?_ | refine wpd_q_a ?_
    | simp (maxDischargeDepth := 3) only [↓X, ↓Y, ↓Q, S1, ↓reduceIte, Nat.reduceEqDiff, Nat.reduceAdd, Int.reduceLT, Int.reduceLE, Int.reduceNeg, Int.reduceBEq, Int.reduceBNe, Int.reduceEq, Nat.reduceLeDiff, Nat.reduceMul, Nat.reduceLT, *]
    | simp (singlePass := true) (maxDischargeDepth := 99) only [*, S2, Nat.reduceLT])
  · rw [nil_of hv (by assumption)]
    exact Own.nil _ _ _ _
  · rename_i w1 n1 k1 s1 nw1 sl1
    refine appendAll_k (e := 50) (sz := 2) (by_ := 16) (z := .agg #[.int .i64 0, .int .u8 0]) (B := w.heap.size) (l := ([] : List ReplyD)) (r := l) (c := replyC) KR KR rfl (by decide) (by decide) (Own.ofBlkN (by simp) (k1.2.1 _ FR) (by simp) FR (by simp)) (hv'.2.2.2.2.2.2.1 _ FR) (fun _ => rfl) replyC_one (by simp; omega) FR fun v2 w2 n2 s2 hown => ?_
    have o2 := hown.o
    (repeat' first
    | ((with_reducible refine at_row ?_); refine row1_a fun _ _ _ _ _ _ _ => ?_)
    | with_reducible first | (first | apply alloc_k | apply row_k); intro _ _ _ _ _ _ | (first | apply fork | apply forkp) <;> intro _ | refine forke (fun _ => ?_) fun _ _ => ?_ | refine tail_k fun _ _ _ => ?_ | refine ext_k fun _ _ _ => ?_ | refine need_a ?_ | refine st_agg KR rfl ON fun _ _ _ _ => ?_ | refine wpd_q_a ?_
    | simp (maxDischargeDepth := 3) only [↓X, ↓Y, ↓Q, S1, ↓reduceIte, Nat.reduceEqDiff, Nat.reduceAdd, Int.reduceLT, Int.reduceLE, Int.reduceNeg, Int.reduceBEq, Int.reduceBNe, Int.reduceEq, Nat.reduceLeDiff, Nat.reduceMul, Nat.reduceLT, *]
    | simp (singlePass := true) (maxDischargeDepth := 99) only [*, S2, Nat.reduceLT])
    exact o2.1 _ FR
theorem reply_eq {a b : ReplyD} : ((a.id == b.id) && (a.answer == b.answer)) = decide (a = b) := by
  cases a; cases b
  rw [Bool.eq_iff_iff]; simp
theorem agentKnown1 {r : ReplyD} {b : Nat} (hb : Blk w b 3 [intV id]) : Ret Tryz.prog 35 #[replyV r, .pointer (some ⟨b, 0, none⟩)] w (.bool (r.id == id)) := by
  have hn : Now w := trivial
  have hx : Ext w w := Ext.refl w
  have kb := hb.bk
  (refine callsV_of Tryz.func35 rfl KR KR ?_; rw [Tryz.results35])
  (repeat' first
    | ((with_reducible refine at_row ?_); refine row1_a fun _ _ _ _ _ _ _ => ?_)
    | with_reducible first | (first | apply alloc_k | apply row_k); intro _ _ _ _ _ _ | (first | apply fork | apply forkp) <;> intro _ | refine forke (fun _ => ?_) fun _ _ => ?_ | refine tail_k fun _ _ _ => ?_ | refine ext_k fun _ _ _ => ?_ | refine need_a ?_ | refine st_agg KR rfl ON fun _ _ _ _ => ?_ | refine wpd_q_a ?_
    | simp (maxDischargeDepth := 3) only [↓X, ↓Y, ↓Q, S1, ↓reduceIte, Nat.reduceEqDiff, Nat.reduceAdd, Int.reduceLT, Int.reduceLE, Int.reduceNeg, Int.reduceBEq, Int.reduceBNe, Int.reduceEq, Nat.reduceLeDiff, Nat.reduceMul, Nat.reduceLT, *, replyV, replyC]
    | simp (singlePass := true) (maxDischargeDepth := 99) only [*, S2, Nat.reduceLT, replyV, replyC])
def knownV (o : Option ReplyD) : Value := match o with
  | some p => .tuple #[replyV p, .bool true]
  | none => .tuple #[.agg #[intV 0, .int .u8 0], .bool false]
theorem agentKnown (hB : B ≤ w.heap.size) (hl : Sl w B (some 2) 2 v (l.map replyV)) : Ret Tryz.prog 13 #[.agg #[v], intV id] w (knownV (knownO l id)) := by
  have hn : Now w := trivial
  have hx : Ext w w := Ext.refl w
  have hl' := hl.k hB
  (refine callsV_of Tryz.func13 rfl KR KR ?_; rw [Tryz.results13])
  (repeat' first
    | ((with_reducible refine at_row ?_); refine row1_a fun _ _ _ _ _ _ _ => ?_)
    | with_reducible first | (first | apply alloc_k | apply row_k); intro _ _ _ _ _ _ | (first | apply fork | apply forkp) <;> intro _ | refine forke (fun _ => ?_) fun _ _ => ?_ | refine tail_k fun _ _ _ => ?_ | refine ext_k fun _ _ _ => ?_ | refine need_a ?_ | refine st_agg KR rfl ON fun _ _ _ _ => ?_ | refine wpd_q_a ?_
    | simp (maxDischargeDepth := 3) only [↓X, ↓Y, ↓Q, S1, ↓reduceIte, Nat.reduceEqDiff, Nat.reduceAdd, Int.reduceLT, Int.reduceLE, Int.reduceNeg, Int.reduceBEq, Int.reduceBNe, Int.reduceEq, Nat.reduceLeDiff, Nat.reduceMul, Nat.reduceLT, *]
    | simp (singlePass := true) (maxDischargeDepth := 99) only [*, S2, Nat.reduceLT])
  have hcal1 : callable Tryz.prog 35 = true := by kernel_rfl
  refine ret_k (indexFunc_Reply (caps := [_]) (enc := replyV) (q := fun r => r.id == id) (B := B) (l := l) FR FR hcal1 fun r _ w' hx9 => by
    have s9 := hx9.st
    exact agentKnown1 FR) fun w5 n5 s5 => ?_
  rcases fidx_cases (fun r : ReplyD => r.id == id) l with ⟨h1, h2⟩ | ⟨i, hi, h1, h2⟩
  · rw [h1]
    rw [show knownO l id = none from h2]
    (repeat' first
    | ((with_reducible refine at_row ?_); refine row1_a fun _ _ _ _ _ _ _ => ?_)
    | with_reducible first | (first | apply alloc_k | apply row_k); intro _ _ _ _ _ _ | (first | apply fork | apply forkp) <;> intro _ | refine forke (fun _ => ?_) fun _ _ => ?_ | refine tail_k fun _ _ _ => ?_ | refine ext_k fun _ _ _ => ?_ | refine need_a ?_ | refine st_agg KR rfl ON fun _ _ _ _ => ?_ | refine wpd_q_a ?_
    | simp (maxDischargeDepth := 3) only [↓X, ↓Y, ↓Q, S1, ↓reduceIte, Nat.reduceEqDiff, Nat.reduceAdd, Int.reduceLT, Int.reduceLE, Int.reduceNeg, Int.reduceBEq, Int.reduceBNe, Int.reduceEq, Nat.reduceLeDiff, Nat.reduceMul, Nat.reduceLT, *, knownV]
    | simp (singlePass := true) (maxDischargeDepth := 99) only [*, S2, Nat.reduceLT, knownV])
    all_goals rfl
  · rw [h1]
    rw [show knownO l id = some l[i] from h2]
    (repeat' first
    | ((with_reducible refine at_row ?_); refine row1_a fun _ _ _ _ _ _ _ => ?_)
    | with_reducible first | (first | apply alloc_k | apply row_k); intro _ _ _ _ _ _ | (first | apply fork | apply forkp) <;> intro _ | refine forke (fun _ => ?_) fun _ _ => ?_ | refine tail_k fun _ _ _ => ?_ | refine ext_k fun _ _ _ => ?_ | refine need_a ?_ | refine st_agg KR rfl ON fun _ _ _ _ => ?_ | refine wpd_q_a ?_
    | simp (maxDischargeDepth := 3) only [↓X, ↓Y, ↓Q, S1, ↓reduceIte, Nat.reduceEqDiff, Nat.reduceAdd, Int.reduceLT, Int.reduceLE, Int.reduceNeg, Int.reduceBEq, Int.reduceBNe, Int.reduceEq, Nat.reduceLeDiff, Nat.reduceMul, Nat.reduceLT, *, knownV, replyV, replyC]
    | simp (singlePass := true) (maxDischargeDepth := 99) only [*, S2, Nat.reduceLT, knownV, replyV, replyC])
    all_goals rfl
theorem ref26Same {l2 : List ReplyD} {v2 : Value} (hB : B ≤ w.heap.size) (hB' : B' ≤ w.heap.size) (ha : Sl w B (some 2) 2 v (l.map replyV)) (hb : Sl w B' (some 2) 2 v2 (l2.map replyV)) : Ret Tryz.prog 16 #[.agg #[v], .agg #[v2]] w (.bool (decide (l = l2))) := by
  have hn : Now w := trivial
  have hx : Ext w w := Ext.refl w
  have ha' := ha.k hB
  have hb' := hb.k hB'
  (refine callsV_of Tryz.func16 rfl KR KR ?_; rw [Tryz.results16])
  (repeat' first
    | ((with_reducible refine at_row ?_); refine row1_a fun _ _ _ _ _ _ _ => ?_)
    | with_reducible first | (first | apply alloc_k | apply row_k); intro _ _ _ _ _ _ | (first | apply fork | apply forkp) <;> intro _ | refine forke (fun _ => ?_) fun _ _ => ?_ | refine tail_k fun _ _ _ => ?_ | refine ext_k fun _ _ _ => ?_ | refine need_a ?_ | refine st_agg KR rfl ON fun _ _ _ _ => ?_ | refine wpd_q_a ?_
    | simp (maxDischargeDepth := 3) only [↓X, ↓Y, ↓Q, S1, ↓reduceIte, Nat.reduceEqDiff, Nat.reduceAdd, Int.reduceLT, Int.reduceLE, Int.reduceNeg, Int.reduceBEq, Int.reduceBNe, Int.reduceEq, Nat.reduceLeDiff, Nat.reduceMul, Nat.reduceLT, *]
    | simp (singlePass := true) (maxDischargeDepth := 99) only [*, S2, Nat.reduceLT])
  · rename_i h
    have hl : Hid (l.length = l2.length) := h
    clear h
    refine loop_k (l.length) (fun g0 k g _ => g 5 = .int .i64 k ∧ (g 2 = g0 2 ∧ g 3 = g0 3) ∧ Hid (l.take k = l2.take k)) KR (ha.max_) ?_ ?_ ?_
    · (repeat' first
    | ((with_reducible refine at_row ?_); refine row1_a fun _ _ _ _ _ _ _ => ?_)
    | with_reducible first | (first | apply alloc_k | apply row_k); intro _ _ _ _ _ _ | (first | apply fork | apply forkp) <;> intro _ | refine forke (fun _ => ?_) fun _ _ => ?_ | refine tail_k fun _ _ _ => ?_ | refine ext_k fun _ _ _ => ?_ | refine need_a ?_ | refine st_agg KR rfl ON fun _ _ _ _ => ?_ | refine wpd_q_a ?_
    | simp (maxDischargeDepth := 3) only [↓X, ↓Y, ↓Q, S1, ↓reduceIte, Nat.reduceEqDiff, Nat.reduceAdd, Int.reduceLT, Int.reduceLE, Int.reduceNeg, Int.reduceBEq, Int.reduceBNe, Int.reduceEq, Nat.reduceLeDiff, Nat.reduceMul, Nat.reduceLT, *, List.take_zero, List.all_nil, List.any_nil]
    | simp (singlePass := true) (maxDischargeDepth := 99) only [*, S2, Nat.reduceLT, List.take_zero, List.all_nil, List.any_nil])
      exact trivial
    · rintro k m g wk hk hlt _ _ _ hw ⟨hi, hf, hp⟩
      simp (maxDischargeDepth := 3) only [U, ↓reduceIte, Nat.reduceEqDiff, *] at hf
      have hb2 : k < l2.length := by have := hl.out; omega
      (repeat' first
    | ((with_reducible refine at_row ?_); refine row1_a fun _ _ _ _ _ _ _ => ?_)
    | with_reducible first | (first | apply alloc_k | apply row_k); intro _ _ _ _ _ _ | (first | apply fork | apply forkp) <;> intro _ | refine forke (fun _ => ?_) fun _ _ => ?_ | refine tail_k fun _ _ _ => ?_ | refine ext_k fun _ _ _ => ?_ | refine need_a ?_ | refine st_agg KR rfl ON fun _ _ _ _ => ?_ | refine wpd_q_a ?_
    | simp (maxDischargeDepth := 3) only [↓X, ↓Y, ↓Q, S1, ↓reduceIte, Nat.reduceEqDiff, Nat.reduceAdd, Int.reduceLT, Int.reduceLE, Int.reduceNeg, Int.reduceBEq, Int.reduceBNe, Int.reduceEq, Nat.reduceLeDiff, Nat.reduceMul, Nat.reduceLT, *, replyV, replyC, reply_eq, dec_not]
    | simp (singlePass := true) (maxDischargeDepth := 99) only [*, S2, Nat.reduceLT, replyV, replyC, reply_eq, dec_not])
      · rename_i h
        refine next_k hk hlt ?_ FR
        (repeat' first
    | ((with_reducible refine at_row ?_); refine row1_a fun _ _ _ _ _ _ _ => ?_)
    | with_reducible first | (first | apply alloc_k | apply row_k); intro _ _ _ _ _ _ | (first | apply fork | apply forkp) <;> intro _ | refine forke (fun _ => ?_) fun _ _ => ?_ | refine tail_k fun _ _ _ => ?_ | refine ext_k fun _ _ _ => ?_ | refine need_a ?_ | refine st_agg KR rfl ON fun _ _ _ _ => ?_ | refine wpd_q_a ?_
    | simp (maxDischargeDepth := 3) only [↓X, ↓Y, ↓Q, S1, ↓reduceIte, Nat.reduceEqDiff, Nat.reduceAdd, Int.reduceLT, Int.reduceLE, Int.reduceNeg, Int.reduceBEq, Int.reduceBNe, Int.reduceEq, Nat.reduceLeDiff, Nat.reduceMul, Nat.reduceLT, *]
    | simp (singlePass := true) (maxDischargeDepth := 99) only [*, S2, Nat.reduceLT])
        exact take_next hp.out hlt hb2 h
      · rename_i h
        have : ¬ l = l2 := by rintro rfl; exact h rfl
        simp [this]
    · rintro g wk _ _ _ ⟨hi, hf, hp⟩
      simp (maxDischargeDepth := 3) only [U, ↓reduceIte, Nat.reduceEqDiff, *] at hf
      (repeat' first
    | ((with_reducible refine at_row ?_); refine row1_a fun _ _ _ _ _ _ _ => ?_)
    | with_reducible first | (first | apply alloc_k | apply row_k); intro _ _ _ _ _ _ | (first | apply fork | apply forkp) <;> intro _ | refine forke (fun _ => ?_) fun _ _ => ?_ | refine tail_k fun _ _ _ => ?_ | refine ext_k fun _ _ _ => ?_ | refine need_a ?_ | refine st_agg KR rfl ON fun _ _ _ _ => ?_ | refine wpd_q_a ?_
    | simp (maxDischargeDepth := 3) only [↓X, ↓Y, ↓Q, S1, ↓reduceIte, Nat.reduceEqDiff, Nat.reduceAdd, Int.reduceLT, Int.reduceLE, Int.reduceNeg, Int.reduceBEq, Int.reduceBNe, Int.reduceEq, Nat.reduceLeDiff, Nat.reduceMul, Nat.reduceLT, *]
    | simp (singlePass := true) (maxDischargeDepth := 99) only [*, S2, Nat.reduceLT])
      have hp := hp.out
      simp [take_full hp hl.out]
  · rename_i h
    have : ¬ l = l2 := by rintro rfl; exact h rfl
    simp [this]
theorem agentOwn (hB : B ≤ w.heap.size) (hx0 : WorldR w B hv rv x) (hlen : x.hosts.length ≤ 1000000 ∧ x.replicas.length ≤ 1000000) : CallsV Tryz.prog 30 #[.agg #[hv, rv]] w fun v w' => Ext w w' ∧ OwnW w.heap.size v w' x := by
  have hn : Now w := trivial
  have hx : Ext w w := Ext.refl w
  have hx' := hx0.sk hB
  have hX := hx'.2.2.2.2
  have hlen : Hid _ := hlen
  (refine callsV_of Tryz.func30 rfl KR KR ?_; rw [Tryz.results30])
  (repeat' first
    | ((with_reducible refine wpd_at 1 ?_); refine wpd_hold ?_)
    | ((with_reducible refine at_row ?_); refine row1_a fun _ _ _ _ _ _ _ => ?_)
    | with_reducible first | (first | apply alloc_k | apply row_k); intro _ _ _ _ _ _ | (first | apply fork | apply forkp) <;> intro _ | refine forke (fun _ => ?_) fun _ _ => ?_ | refine tail_k fun _ _ _ => ?_ | refine ext_k fun _ _ _ => ?_ | refine need_a ?_ | refine st_agg KR rfl ON fun _ _ _ _ => ?_ | refine wpd_q_a ?_
    | simp (maxDischargeDepth := 3) only [↓X, ↓Y, ↓Q, S1, ↓reduceIte, Nat.reduceEqDiff, Nat.reduceAdd, Int.reduceLT, Int.reduceLE, Int.reduceNeg, Int.reduceBEq, Int.reduceBNe, Int.reduceEq, Nat.reduceLeDiff, Nat.reduceMul, Nat.reduceLT, *]
    | simp (singlePass := true) (maxDischargeDepth := 99) only [*, S2, Nat.reduceLT])
  rename_i b1 w1 n1 k1 s1 q1 b2 w2 n2 k2 s2 q2
  unfold wpdH
  refine wpd_rel 7 (fun iI v w9 => match iI with
    | 0 => v = .pointer (some ⟨b1, 0, none⟩)
    | 1 => v = hv
    | 2 => OwnH w9 w2.heap.size v x.hosts
    | 3 => v = .pointer (some ⟨b1, 1, none⟩)
    | 4 => v = rv
    | 5 => OwnP w9 w2.heap.size v x.replicas
    | 6 => ∃ h r, v = .agg #[h, r] ∧ OwnH w9 w2.heap.size h x.hosts ∧ OwnP w9 w2.heap.size r x.replicas
    | _ => False) KR KR KR ?_ ?_ ?_
  · intro iI v w1 w2 hR hx9
    match iI, hR with
    | 0, h => exact h
    | 1, h => exact h
    | 2, h => exact Own.ext h hx9
    | 3, h => exact h
    | 4, h => exact h
    | 5, h => exact Own.ext h hx9
    | 6, h => exact (let ⟨a, b, e, o1, o2⟩ := h; ⟨a, b, e, Own.ext o1 hx9, Own.ext o2 hx9⟩)
  · intro iI oO hi ho gF w9 hx9 hdep hag
    have s9 := hx9.st
    have n9 : Now w9 := trivial
    have r9 := Ext.refl w9
    have z9 := hx9.size
    rcases iI with _|_|_|_|_|_|_|iI
    have e := Option.some.inj ho
    subst e
    have a1 := hag.at 1 KR
    simp only [S5, ↓reduceIte, Nat.reduceEqDiff, initF, *] at a1
    clear hag hdep ho
    refine relStep_off rfl ?_
    rotate_left
    have e := Option.some.inj ho
    subst e
    have d0 : (gF 3) = .pointer (some ⟨b1, 0, none⟩) := hdep ⟨0, .data⟩ (by simp) rfl _ _ rfl rfl
    clear hag hdep ho
    refine relStep_off rfl ?_
    rotate_left
    · have e := Option.some.inj ho
      subst e
      have d1 : (gF 4) = hv := hdep ⟨1, .data⟩ (by simp) rfl _ _ rfl rfl
      clear hag hdep ho
      refine relStep_off rfl ?_
      (repeat' first
    | ((with_reducible refine at_row ?_); refine row1_a fun _ _ _ _ _ _ _ => ?_)
    | with_reducible first | (first | apply alloc_k | apply row_k); intro _ _ _ _ _ _ | (first | apply fork | apply forkp) <;> intro _ | refine forke (fun _ => ?_) fun _ _ => ?_ | refine tail_k fun _ _ _ => ?_ | refine ext_k fun _ _ _ => ?_ | refine need_a ?_ | refine st_agg KR rfl ON fun _ _ _ _ => ?_ | refine wpd_q_a ?_
    | simp (maxDischargeDepth := 3) only [↓X, ↓Y, ↓Q, S1, ↓reduceIte, Nat.reduceEqDiff, Nat.reduceAdd, Int.reduceLT, Int.reduceLE, Int.reduceNeg, Int.reduceBEq, Int.reduceBNe, Int.reduceEq, Nat.reduceLeDiff, Nat.reduceMul, Nat.reduceLT, *]
    | simp (singlePass := true) (maxDischargeDepth := 99) only [*, S2, Nat.reduceLT])
      refine CallsV.mono (slicesCloneH (B := B) FR (WorldR.h (hX _ FR)) hlen.out.1) fun v w10 hh => ⟨hh.1, Own.more hh.2 z9⟩
    have e := Option.some.inj ho
    subst e
    have a1 := hag.at 1 KR
    simp only [S5, ↓reduceIte, Nat.reduceEqDiff, initF, *] at a1
    clear hag hdep ho
    refine relStep_off rfl ?_
    rotate_left
    have e := Option.some.inj ho
    subst e
    have d3 : (gF 6) = .pointer (some ⟨b1, 1, none⟩) := hdep ⟨3, .data⟩ (by simp) rfl _ _ rfl rfl
    clear hag hdep ho
    refine relStep_off rfl ?_
    rotate_left
    · have e := Option.some.inj ho
      subst e
      have d4 : (gF 7) = rv := hdep ⟨4, .data⟩ (by simp) rfl _ _ rfl rfl
      clear hag hdep ho
      refine relStep_off rfl ?_
      (repeat' first
    | ((with_reducible refine at_row ?_); refine row1_a fun _ _ _ _ _ _ _ => ?_)
    | with_reducible first | (first | apply alloc_k | apply row_k); intro _ _ _ _ _ _ | (first | apply fork | apply forkp) <;> intro _ | refine forke (fun _ => ?_) fun _ _ => ?_ | refine tail_k fun _ _ _ => ?_ | refine ext_k fun _ _ _ => ?_ | refine need_a ?_ | refine st_agg KR rfl ON fun _ _ _ _ => ?_ | refine wpd_q_a ?_
    | simp (maxDischargeDepth := 3) only [↓X, ↓Y, ↓Q, S1, ↓reduceIte, Nat.reduceEqDiff, Nat.reduceAdd, Int.reduceLT, Int.reduceLE, Int.reduceNeg, Int.reduceBEq, Int.reduceBNe, Int.reduceEq, Nat.reduceLeDiff, Nat.reduceMul, Nat.reduceLT, *]
    | simp (singlePass := true) (maxDischargeDepth := 99) only [*, S2, Nat.reduceLT])
      refine CallsV.mono (slicesCloneP (B := B) FR (WorldR.r (hX _ FR)) hlen.out.2) fun v w10 hh => ⟨hh.1, Own.more hh.2 z9⟩
    · have e := Option.some.inj ho
      subst e
      have d2 : OwnH w9 w2.heap.size (gF 5) x.hosts := hdep ⟨2, .data⟩ (by simp) rfl _ _ rfl rfl
      have O2 := d2.o
      have d5 : OwnP w9 w2.heap.size (gF 8) x.replicas := hdep ⟨5, .data⟩ (by simp) rfl _ _ rfl rfl
      have O5 := d5.o
      clear hag hdep ho
      refine relStep_off rfl ?_
      (repeat' first
    | ((with_reducible refine at_row ?_); refine row1_a fun _ _ _ _ _ _ _ => ?_)
    | with_reducible first | (first | apply alloc_k | apply row_k); intro _ _ _ _ _ _ | (first | apply fork | apply forkp) <;> intro _ | refine forke (fun _ => ?_) fun _ _ => ?_ | refine tail_k fun _ _ _ => ?_ | refine ext_k fun _ _ _ => ?_ | refine need_a ?_ | refine st_agg KR rfl ON fun _ _ _ _ => ?_ | refine wpd_q_a ?_
    | simp (maxDischargeDepth := 3) only [↓X, ↓Y, ↓Q, S1, ↓reduceIte, Nat.reduceEqDiff, Nat.reduceAdd, Int.reduceLT, Int.reduceLE, Int.reduceNeg, Int.reduceBEq, Int.reduceBNe, Int.reduceEq, Nat.reduceLeDiff, Nat.reduceMul, Nat.reduceLT, *]
    | simp (singlePass := true) (maxDischargeDepth := 99) only [*, S2, Nat.reduceLT])
      exact ⟨_, _, rfl, d2, d5⟩
    · omega
    all_goals (repeat' first
    | ((with_reducible refine at_row ?_); refine row1_a fun _ _ _ _ _ _ _ => ?_)
    | with_reducible first | (first | apply alloc_k | apply row_k); intro _ _ _ _ _ _ | (first | apply fork | apply forkp) <;> intro _ | refine forke (fun _ => ?_) fun _ _ => ?_ | refine tail_k fun _ _ _ => ?_ | refine ext_k fun _ _ _ => ?_ | refine need_a ?_ | refine st_agg KR rfl ON fun _ _ _ _ => ?_ | refine wpd_q_a ?_
    | simp (maxDischargeDepth := 3) only [↓X, ↓Y, ↓Q, S1, ↓reduceIte, Nat.reduceEqDiff, Nat.reduceAdd, Int.reduceLT, Int.reduceLE, Int.reduceNeg, Int.reduceBEq, Int.reduceBNe, Int.reduceEq, Nat.reduceLeDiff, Nat.reduceMul, Nat.reduceLT, *]
    | simp (singlePass := true) (maxDischargeDepth := 99) only [*, S2, Nat.reduceLT])
  · intro g9 w9 hx9 hR hag
    have s9 := hx9.st
    have n9 : Now w9 := trivial
    have r9 := Ext.refl w9
    have z9 := hx9.size
    have d6 : ∃ h r, (g9 9) = .agg #[h, r] ∧ OwnH w9 w2.heap.size h x.hosts ∧ OwnP w9 w2.heap.size r x.replicas := hR 6 _ _ (by decide) rfl rfl
    obtain ⟨h6, r6, e6, oh6, or6⟩ := d6
    have H6 := oh6.o
    have R6 := or6.o
    clear oh6 or6
    have a2 := hag.at 2 KR
    have a36 := hag.at 36 KR
    simp only [S5, ↓reduceIte, Nat.reduceEqDiff, initF, *] at a2 a36
    clear hag hR
    simp only [List.drop_succ_cons, List.drop_zero]
    (repeat' first
    | ((with_reducible refine at_row ?_); refine row1_a fun _ _ _ _ _ _ _ => ?_)
    | with_reducible first | (first | apply alloc_k | apply row_k); intro _ _ _ _ _ _ | (first | apply fork | apply forkp) <;> intro _ | refine forke (fun _ => ?_) fun _ _ => ?_ | refine tail_k fun _ _ _ => ?_ | refine ext_k fun _ _ _ => ?_ | refine need_a ?_ | refine st_agg KR rfl ON fun _ _ _ _ => ?_ | refine wpd_q_a ?_
    | simp (maxDischargeDepth := 3) only [↓X, ↓Y, ↓Q, S1, ↓reduceIte, Nat.reduceEqDiff, Nat.reduceAdd, Int.reduceLT, Int.reduceLE, Int.reduceNeg, Int.reduceBEq, Int.reduceBNe, Int.reduceEq, Nat.reduceLeDiff, Nat.reduceMul, Nat.reduceLT, *]
    | simp (singlePass := true) (maxDischargeDepth := 99) only [*, S2, Nat.reduceLT])
    exact ⟨_, _, rfl, (H6.1 _ FR).more FR, (R6.1 _ FR).more FR⟩
end
end Go.Proofs.YtblegjdogmcgbaaGreat
