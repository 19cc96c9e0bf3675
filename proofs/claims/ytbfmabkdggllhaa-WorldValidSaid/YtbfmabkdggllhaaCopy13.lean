/- The document's answer, layer 13, and the layer world: a world in memory of its own. -/
import Derived.Test.YtbfmabkdggllhaaRef13e
import Derived.Test.YtbfmabkdggllhaaRow
namespace Go.Proofs.Ytbfmabkdggllhaa
set_option linter.unusedSimpArgs false
set_option linter.unusedVariables false
open Go Go.RowKit
set_option maxRecDepth 100000
set_option linter.unusedSectionVars false
set_option maxHeartbeats 1000000
def stateC (x : StateD) : List Value := [.int .u8 x.phase, intV x.firmware]
def replC (x : ReplicaD) : List Value := [intV x.service, intV x.host]
theorem stateC_one (x : StateD) : ∀ v ∈ stateC x, v.oneCell' = true := by simp [stateC, intV, one_int]
theorem replC_one (x : ReplicaD) : ∀ v ∈ replC x, v.oneCell' = true := by simp [replC, intV, one_int]
abbrev OwnH (w : World) (B : Nat) (v : Value) (l : List StateD) : Prop := Own w B 62 2 v (l.map stateC)
abbrev OwnP (w : World) (B : Nat) (v : Value) (l : List ReplicaD) : Prop := Own w B 41 2 v (l.map replC)
section
variable {w : World} {B : Nat} {hv rv : Value} {x : WorldD}
theorem newH {v : Value} {l : List StateD} {k : Value → World → Prop} {s : Value} (hown : OwnH w w.heap.size s []) (hv : Sl w B (some 2) 2 v (l.map stateV)) (hbound : l.length < 1000000000000) (h : ∀ v' w', Now w' → St w w' → OwnH w' w.heap.size v' l → k v' w') : appX Try.prog 33 33 33 s v w k :=
  appendNew_k (e := 62) (sz := 2) (by_ := 16) (z := .agg #[.int .u8 0, .int .i64 0]) hown (by kernel_rfl) (by kernel_rfl) rfl (by decide) (by decide) hv (fun _ => rfl) stateC_one hbound h
theorem newP {v : Value} {l : List ReplicaD} {k : Value → World → Prop} {s : Value} (hown : OwnP w w.heap.size s []) (hv : Sl w B (some 2) 2 v (l.map replicaV)) (hbound : l.length < 1000000000000) (h : ∀ v' w', Now w' → St w w' → OwnP w' w.heap.size v' l → k v' w') : appX Try.prog 34 34 34 s v w k :=
  appendNew_k (e := 41) (sz := 2) (by_ := 16) (z := .agg #[.int .i64 0, .int .i64 0]) hown (by kernel_rfl) (by kernel_rfl) rfl (by decide) (by decide) hv (fun _ => rfl) replC_one hbound h
/-- A world that a call hands back in memory of its own. -/
def OwnW (B : Nat) (v : Value) (w : World) (x : WorldD) : Prop := ∃ hv rv, v = .agg #[hv, rv] ∧ OwnH w B hv x.hosts ∧ OwnP w B rv x.replicas
theorem ref13Copy (hB : B ≤ w.heap.size) (hx0 : WorldR w B hv rv x) (hlen : x.hosts.length < 1000000000000 ∧ x.replicas.length < 1000000000000) : CallsV Try.prog 31 #[.agg #[hv, rv]] w fun v w' => Ext w w' ∧ OwnW w.heap.size v w' x := by
  have hn : Now w := trivial
  have hx : Ext w w := Ext.refl w
  have hx' := hx0.sk hB
  have hX := hx'.2.2.2.2
  obtain ⟨hl1, hl2⟩ := hlen
  have hbw : Bl B w w := FR
  (refine callsV_of Try.func31 rfl (by kernel_rfl) (by kernel_rfl) ?_; rw [Try.results31])
  (repeat' first
    | with_reducible refine alloc_k fun _ _ _ _ _ _ => ?_
    | ((with_reducible refine at_row ?_); refine row1_k (by rfl) (by decide) fun _ _ _ _ _ _ _ => ?_)
    | with_reducible refine row_k fun _ _ _ _ _ _ => ?_
    | with_reducible refine fork (fun _ => ?_) (fun _ => ?_)
    | with_reducible refine forkp (fun _ => ?_) (fun _ => ?_)
    | with_reducible refine forke (fun _ => ?_) (fun _ _ => ?_)
    | with_reducible refine tail_k fun _ _ _ => ?_
    | with_reducible refine ext_k fun _ _ _ => ?_
    | with_reducible refine need (by first | kernel_rfl | omega | assumption) ?_
    | with_reducible refine st_agg (by kernel_rfl) rfl (by simp only [natV, intV, S3, *]) fun _ _ _ _ => ?_
    | with_reducible refine wpd_quiet_lit (by kernel_rfl) (by kernel_rfl) (by kernel_rfl) ?_
    | simp (maxDischargeDepth := 3) only [↓X, ↓Y, ↓Q, S1, ↓reduceIte, Nat.reduceEqDiff, Nat.reduceAdd, Int.reduceLT, Int.reduceLE, Int.reduceNeg, Int.reduceBEq, Int.reduceBNe, Int.reduceEq, Nat.reduceLeDiff, Nat.reduceMul, Nat.reduceLT, natV, intV, putAt, idxOk, flatP, *]
    | simp (singlePass := true) (maxDischargeDepth := 99) only [*, S2, Nat.reduceLT])
  refine newH (B := B) (Own.nil _ _ _ _) (WorldR.h (hX _ FR)) hl1 ?_
  intro h2 w1 n1 s1 hown1
  have o1 := hown1.o
  (repeat' first
    | with_reducible refine alloc_k fun _ _ _ _ _ _ => ?_
    | ((with_reducible refine at_row ?_); refine row1_k (by rfl) (by decide) fun _ _ _ _ _ _ _ => ?_)
    | with_reducible refine row_k fun _ _ _ _ _ _ => ?_
    | with_reducible refine fork (fun _ => ?_) (fun _ => ?_)
    | with_reducible refine forkp (fun _ => ?_) (fun _ => ?_)
    | with_reducible refine forke (fun _ => ?_) (fun _ _ => ?_)
    | with_reducible refine tail_k fun _ _ _ => ?_
    | with_reducible refine ext_k fun _ _ _ => ?_
    | with_reducible refine need (by first | kernel_rfl | omega | assumption) ?_
    | with_reducible refine st_agg (by kernel_rfl) rfl (by simp only [natV, intV, S3, *]) fun _ _ _ _ => ?_
    | with_reducible refine wpd_quiet_lit (by kernel_rfl) (by kernel_rfl) (by kernel_rfl) ?_
    | simp (maxDischargeDepth := 3) only [↓X, ↓Y, ↓Q, S1, ↓reduceIte, Nat.reduceEqDiff, Nat.reduceAdd, Int.reduceLT, Int.reduceLE, Int.reduceNeg, Int.reduceBEq, Int.reduceBNe, Int.reduceEq, Nat.reduceLeDiff, Nat.reduceMul, Nat.reduceLT, natV, intV, putAt, idxOk, flatP, *]
    | simp (singlePass := true) (maxDischargeDepth := 99) only [*, S2, Nat.reduceLT])
  refine st_one (by kernel_rfl) (by simp) o1.2.2.2.1 fun w4 n4 k4 s4 => ?_
  simp only [List.set_cons_zero, List.set_cons_succ] at k4
  (repeat' first
    | with_reducible refine alloc_k fun _ _ _ _ _ _ => ?_
    | ((with_reducible refine at_row ?_); refine row1_k (by rfl) (by decide) fun _ _ _ _ _ _ _ => ?_)
    | with_reducible refine row_k fun _ _ _ _ _ _ => ?_
    | with_reducible refine fork (fun _ => ?_) (fun _ => ?_)
    | with_reducible refine forkp (fun _ => ?_) (fun _ => ?_)
    | with_reducible refine forke (fun _ => ?_) (fun _ _ => ?_)
    | with_reducible refine tail_k fun _ _ _ => ?_
    | with_reducible refine ext_k fun _ _ _ => ?_
    | with_reducible refine need (by first | kernel_rfl | omega | assumption) ?_
    | with_reducible refine st_agg (by kernel_rfl) rfl (by simp only [natV, intV, S3, *]) fun _ _ _ _ => ?_
    | with_reducible refine wpd_quiet_lit (by kernel_rfl) (by kernel_rfl) (by kernel_rfl) ?_
    | simp (maxDischargeDepth := 3) only [↓X, ↓Y, ↓Q, S1, ↓reduceIte, Nat.reduceEqDiff, Nat.reduceAdd, Int.reduceLT, Int.reduceLE, Int.reduceNeg, Int.reduceBEq, Int.reduceBNe, Int.reduceEq, Nat.reduceLeDiff, Nat.reduceMul, Nat.reduceLT, natV, intV, putAt, idxOk, flatP, *]
    | simp (singlePass := true) (maxDischargeDepth := 99) only [*, S2, Nat.reduceLT])
  refine newP (B := B) (Own.nil _ _ _ _) (WorldR.r (hX _ FR)) hl2 ?_
  intro r2 w2 n2 s2 hown2
  have o2 := hown2.o
  (repeat' first
    | with_reducible refine alloc_k fun _ _ _ _ _ _ => ?_
    | ((with_reducible refine at_row ?_); refine row1_k (by rfl) (by decide) fun _ _ _ _ _ _ _ => ?_)
    | with_reducible refine row_k fun _ _ _ _ _ _ => ?_
    | with_reducible refine fork (fun _ => ?_) (fun _ => ?_)
    | with_reducible refine forkp (fun _ => ?_) (fun _ => ?_)
    | with_reducible refine forke (fun _ => ?_) (fun _ _ => ?_)
    | with_reducible refine tail_k fun _ _ _ => ?_
    | with_reducible refine ext_k fun _ _ _ => ?_
    | with_reducible refine need (by first | kernel_rfl | omega | assumption) ?_
    | with_reducible refine st_agg (by kernel_rfl) rfl (by simp only [natV, intV, S3, *]) fun _ _ _ _ => ?_
    | with_reducible refine wpd_quiet_lit (by kernel_rfl) (by kernel_rfl) (by kernel_rfl) ?_
    | simp (maxDischargeDepth := 3) only [↓X, ↓Y, ↓Q, S1, ↓reduceIte, Nat.reduceEqDiff, Nat.reduceAdd, Int.reduceLT, Int.reduceLE, Int.reduceNeg, Int.reduceBEq, Int.reduceBNe, Int.reduceEq, Nat.reduceLeDiff, Nat.reduceMul, Nat.reduceLT, natV, intV, putAt, idxOk, flatP, *]
    | simp (singlePass := true) (maxDischargeDepth := 99) only [*, S2, Nat.reduceLT])
  refine st_one (by kernel_rfl) (by simp) o2.2.2.2.1 fun w5 n5 k5 s5 => ?_
  simp only [List.set_cons_zero, List.set_cons_succ] at k5
  (repeat' first
    | with_reducible refine alloc_k fun _ _ _ _ _ _ => ?_
    | ((with_reducible refine at_row ?_); refine row1_k (by rfl) (by decide) fun _ _ _ _ _ _ _ => ?_)
    | with_reducible refine row_k fun _ _ _ _ _ _ => ?_
    | with_reducible refine fork (fun _ => ?_) (fun _ => ?_)
    | with_reducible refine forkp (fun _ => ?_) (fun _ => ?_)
    | with_reducible refine forke (fun _ => ?_) (fun _ _ => ?_)
    | with_reducible refine tail_k fun _ _ _ => ?_
    | with_reducible refine ext_k fun _ _ _ => ?_
    | with_reducible refine need (by first | kernel_rfl | omega | assumption) ?_
    | with_reducible refine st_agg (by kernel_rfl) rfl (by simp only [natV, intV, S3, *]) fun _ _ _ _ => ?_
    | with_reducible refine wpd_quiet_lit (by kernel_rfl) (by kernel_rfl) (by kernel_rfl) ?_
    | simp (maxDischargeDepth := 3) only [↓X, ↓Y, ↓Q, S1, ↓reduceIte, Nat.reduceEqDiff, Nat.reduceAdd, Int.reduceLT, Int.reduceLE, Int.reduceNeg, Int.reduceBEq, Int.reduceBNe, Int.reduceEq, Nat.reduceLeDiff, Nat.reduceMul, Nat.reduceLT, natV, intV, putAt, idxOk, flatP, *]
    | simp (singlePass := true) (maxDischargeDepth := 99) only [*, S2, Nat.reduceLT])
  exact ⟨_, _, rfl, Own.more (o1.1 _ FR) FR, Own.more (o2.1 _ FR) FR⟩
end
end Go.Proofs.Ytbfmabkdggllhaa
