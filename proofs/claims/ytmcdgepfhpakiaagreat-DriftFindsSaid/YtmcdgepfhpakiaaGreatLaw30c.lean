
/- The laws of the layer drift: lives. -/
import Derived.Test.YtmcdgepfhpakiaaGreatLaw30b
import Derived.Test.YtmcdgepfhpakiaaGreatDrift4
import Derived.Test.YtmcdgepfhpakiaaGreatDrift8
namespace Go.Proofs.YtmcdgepfhpakiaaGreat
set_option linter.unusedSimpArgs false
set_option linter.unusedVariables false
open Go Go.RowKit
set_option maxRecDepth 100000
set_option linter.unusedSectionVars false
set_option maxHeartbeats 2000000
def pairA : WorldD := ⟨[⟨0, 1⟩, ⟨0, 1⟩], [⟨0, 0⟩, ⟨1, 1⟩]⟩
def pairB : WorldD := ⟨[⟨0, 1⟩, ⟨1, 1⟩], [⟨0, 1⟩, ⟨1, 1⟩]⟩
def pairL : List DriftD := [⟨3, 1, 0, 0, 1⟩, ⟨1, 0, 0, 0, 0⟩, ⟨2, 1, 0, 0, 0⟩]
theorem pair_diff : diffE pairA pairB = 0 ∧ (if diffOk pairA pairB = true then diffL pairA pairB else []) = pairL := by decide
theorem pair_patch : patchR pairA pairL = (0, pairB) := by decide
theorem pair_phase : (∀ s ∈ pairA.hosts, 0 ≤ s.phase ∧ s.phase ≤ 255) ∧ ∀ s ∈ pairB.hosts, 0 ≤ s.phase ∧ s.phase ≤ 255 := by decide
theorem pair_kind : ∀ d ∈ pairL, 0 ≤ d.kind ∧ d.kind ≤ 255 := by decide
section
variable {w : World}
theorem world_own {h r : Value} {B : Nat} {x : WorldD} (o1 : OwnH w B h x.hosts) (o2 : OwnP w B r x.replicas) : WorldR w w.heap.size h r x := ⟨o1.slN (f := stateC), o2.slN (f := replC)⟩
theorem drift_row {b n : Nat} {cells : List Value} {l : List DriftD} (hc : cells = (l.map driftC).flatten) (hb : Blk w b 64 cells) (hn : n = l.length ∧ l.length ≤ 1000) : OwnD w 0 (.slice (some ⟨b, 0, none⟩) n n) l :=
  Own.ofBlkN (by simpa using hn.1) (by rw [← hc]; exact hb) (fun c h => by obtain ⟨d, _, rfl⟩ := List.mem_map.1 h; rfl) (Nat.zero_le _) (by rw [List.length_map]; omega)
theorem lives30 : Ret Tryz.prog 6 #[] w (.bool true) := by
  have hn : Now w := trivial
  have hx : Ext w w := Ext.refl w
  (refine callsV_of Tryz.func6 rfl KR KR ?_; rw [Tryz.results6])
  (repeat' first
    | ((with_reducible refine at_row ?_); refine row1_a fun _ _ _ _ _ _ _ => ?_)
    | with_reducible first | (first | apply alloc_k | apply row_k); intro _ _ _ _ _ _ | (first | apply fork | apply forkp) <;> intro _ | refine forke (fun _ => ?_) fun _ _ => ?_ | refine tail_k fun _ _ _ => ?_ | refine ext_k fun _ _ _ => ?_ | refine need_a ?_ | refine st_agg KR rfl ON fun _ _ _ _ => ?_ | refine wpd_q_a ?_
    | simp (maxDischargeDepth := 3) only [↓X, ↓Y, ↓Q, S1, ↓reduceIte, Nat.reduceEqDiff, Nat.reduceAdd, Int.reduceLT, Int.reduceLE, Int.reduceNeg, Int.reduceBEq, Int.reduceBNe, Int.reduceEq, Nat.reduceLeDiff, Nat.reduceMul, Nat.reduceLT, *]
    | simp (singlePass := true) (maxDischargeDepth := 99) only [*, S2, Nat.reduceLT])
  refine call_k pair30 ?_
  rintro _ w1 n1 s1 ⟨h1, r1, h2, r2, rfl, ⟨oh1, or1⟩, oh2, or2⟩
  have H1 := oh1.o
  have R1 := or1.o
  have H2 := oh2.o
  have R2 := or2.o
  have z1 : w.heap.size ≤ w1.heap.size := FR
  clear oh1 or1 oh2 or2
  (repeat' first
    | ((with_reducible refine at_row ?_); refine row1_a fun _ _ _ _ _ _ _ => ?_)
    | with_reducible first | (first | apply alloc_k | apply row_k); intro _ _ _ _ _ _ | (first | apply fork | apply forkp) <;> intro _ | refine forke (fun _ => ?_) fun _ _ => ?_ | refine tail_k fun _ _ _ => ?_ | refine ext_k fun _ _ _ => ?_ | refine need_a ?_ | refine st_agg KR rfl ON fun _ _ _ _ => ?_ | refine wpd_q_a ?_
    | simp (maxDischargeDepth := 3) only [↓X, ↓Y, ↓Q, S1, ↓reduceIte, Nat.reduceEqDiff, Nat.reduceAdd, Int.reduceLT, Int.reduceLE, Int.reduceNeg, Int.reduceBEq, Int.reduceBNe, Int.reduceEq, Nat.reduceLeDiff, Nat.reduceMul, Nat.reduceLT, *]
    | simp (singlePass := true) (maxDischargeDepth := 99) only [*, S2, Nat.reduceLT])
  rename_i bA wA nA kA sA qA bB wB nB kB sB qB wC nC kC sC wD nD kD sD
  refine call_k (driftDiff (a := pairA) (b := pairB) (Nat.le_refl _) (world_own (x := pairA) (H1.1 _ FR) (R1.1 _ FR)) (world_own (x := pairB) (H2.1 _ FR) (R2.1 _ FR)) (by decide) (by decide) (by decide) pair_phase.1 pair_phase.2) ?_
  rintro _ w3 n3 s3 ⟨v3, rfl, o3⟩
  rw [pair_diff.1]
  rw [pair_diff.2] at o3
  have O3 := o3.o
  have z3 : wD.heap.size ≤ w3.heap.size := FR
  clear o3
  (repeat' first
    | ((with_reducible refine at_row ?_); refine row1_a fun _ _ _ _ _ _ _ => ?_)
    | with_reducible first | (first | apply alloc_k | apply row_k); intro _ _ _ _ _ _ | (first | apply fork | apply forkp) <;> intro _ | refine forke (fun _ => ?_) fun _ _ => ?_ | refine tail_k fun _ _ _ => ?_ | refine ext_k fun _ _ _ => ?_ | refine need_a ?_ | refine st_agg KR rfl ON fun _ _ _ _ => ?_ | refine wpd_q_a ?_
    | simp (maxDischargeDepth := 3) only [↓X, ↓Y, ↓Q, S1, ↓reduceIte, Nat.reduceEqDiff, Nat.reduceAdd, Int.reduceLT, Int.reduceLE, Int.reduceNeg, Int.reduceBEq, Int.reduceBNe, Int.reduceEq, Nat.reduceLeDiff, Nat.reduceMul, Nat.reduceLT, *]
    | simp (singlePass := true) (maxDischargeDepth := 99) only [*, S2, Nat.reduceLT])
  refine call_k (driftPatch (x := pairA) (l := pairL) (Nat.le_refl _) (world_own (x := pairA) (H1.1 _ FR) (R1.1 _ FR)) ((O3.1 _ FR).slN (f := driftC)) (by decide) (by decide) pair_phase.1 pair_kind) ?_
  rintro _ w4 n4 s4 ⟨v4, rfl, h4, r4, rfl, oh4, or4⟩
  rw [pair_patch] at oh4 or4 ⊢
  have H4 := oh4.o
  have R4 := or4.o
  have a1 := oh4.one
  have a2 := or4.one
  clear oh4 or4
  (repeat' first
    | ((with_reducible refine at_row ?_); refine row1_a fun _ _ _ _ _ _ _ => ?_)
    | with_reducible first | (first | apply alloc_k | apply row_k); intro _ _ _ _ _ _ | (first | apply fork | apply forkp) <;> intro _ | refine forke (fun _ => ?_) fun _ _ => ?_ | refine tail_k fun _ _ _ => ?_ | refine ext_k fun _ _ _ => ?_ | refine need_a ?_ | refine st_agg KR rfl ON fun _ _ _ _ => ?_ | refine wpd_q_a ?_
    | simp (maxDischargeDepth := 3) only [↓X, ↓Y, ↓Q, S1, ↓reduceIte, Nat.reduceEqDiff, Nat.reduceAdd, Int.reduceLT, Int.reduceLE, Int.reduceNeg, Int.reduceBEq, Int.reduceBNe, Int.reduceEq, Nat.reduceLeDiff, Nat.reduceMul, Nat.reduceLT, *]
    | simp (singlePass := true) (maxDischargeDepth := 99) only [*, S2, Nat.reduceLT])
  rename_i bE wE nE kE sE qE wF nF kF sF bG wG nG kG sG qG
  have hG : OwnD wG 0 (.slice (some ⟨bG, 0, none⟩) 3 3) pairL := drift_row rfl (kG.2.1 _ FR) (by decide)
  refine ret_k (ref30Same (l := pairL) (q := pairL) (Nat.le_refl _) ((O3.1 _ FR).slN (f := driftC)) (hG.slN (f := driftC))) ?_
  intro w5 n5 s5
  rw [decide_eq_true rfl]
  (repeat' first
    | ((with_reducible refine at_row ?_); refine row1_a fun _ _ _ _ _ _ _ => ?_)
    | with_reducible first | (first | apply alloc_k | apply row_k); intro _ _ _ _ _ _ | (first | apply fork | apply forkp) <;> intro _ | refine forke (fun _ => ?_) fun _ _ => ?_ | refine tail_k fun _ _ _ => ?_ | refine ext_k fun _ _ _ => ?_ | refine need_a ?_ | refine st_agg KR rfl ON fun _ _ _ _ => ?_ | refine wpd_q_a ?_
    | simp (maxDischargeDepth := 3) only [↓X, ↓Y, ↓Q, S1, ↓reduceIte, Nat.reduceEqDiff, Nat.reduceAdd, Int.reduceLT, Int.reduceLE, Int.reduceNeg, Int.reduceBEq, Int.reduceBNe, Int.reduceEq, Nat.reduceLeDiff, Nat.reduceMul, Nat.reduceLT, *]
    | simp (singlePass := true) (maxDischargeDepth := 99) only [*, S2, Nat.reduceLT])
  refine ret_k (ref13Same (x := pairB) (y := pairB) (Nat.le_refl _) (Nat.le_refl _) (world_own (x := pairB) (H4.1 _ FR) (R4.1 _ FR)) (world_own (x := pairB) (H2.1 _ FR) (R2.1 _ FR))) ?_
  intro w6 n6 s6
  rw [decide_eq_true rfl]
  (repeat' first
    | ((with_reducible refine at_row ?_); refine row1_a fun _ _ _ _ _ _ _ => ?_)
    | with_reducible first | (first | apply alloc_k | apply row_k); intro _ _ _ _ _ _ | (first | apply fork | apply forkp) <;> intro _ | refine forke (fun _ => ?_) fun _ _ => ?_ | refine tail_k fun _ _ _ => ?_ | refine ext_k fun _ _ _ => ?_ | refine need_a ?_ | refine st_agg KR rfl ON fun _ _ _ _ => ?_ | refine wpd_q_a ?_
    | simp (maxDischargeDepth := 3) only [↓X, ↓Y, ↓Q, S1, ↓reduceIte, Nat.reduceEqDiff, Nat.reduceAdd, Int.reduceLT, Int.reduceLE, Int.reduceNeg, Int.reduceBEq, Int.reduceBNe, Int.reduceEq, Nat.reduceLeDiff, Nat.reduceMul, Nat.reduceLT, *]
    | simp (singlePass := true) (maxDischargeDepth := 99) only [*, S2, Nat.reduceLT])
end
end Go.Proofs.YtmcdgepfhpakiaaGreat
