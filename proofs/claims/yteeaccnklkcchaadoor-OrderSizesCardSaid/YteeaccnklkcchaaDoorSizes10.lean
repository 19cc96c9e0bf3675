
/- The statement OrderSizes. -/
import Derived.Test.YteeaccnklkcchaaDoorRefH10
namespace Go.Proofs.YteeaccnklkcchaaDoor
set_option linter.unusedSimpArgs false
set_option linter.unusedVariables false
open Go Go.RowKit
set_option maxRecDepth 100000
set_option linter.unusedSectionVars false
set_option maxHeartbeats 2000000
section
variable {w : World} {B : Nat} {v : Value} {vs : List Value} {after : List (List Int)}
theorem lawOrderSizes (hT : TabW w) (hB : B ≤ w.heap.size) (hv : LLR w B v vs after) : Ret Tryd.prog 7 #[v] w (.bool true) := by
  have hn : Now w := trivial
  have hx : Ext w w := Ext.refl w
  have hT' := fun w' (h : Ext w w') => hT.ext h
  replace hT' : Hid _ := hT'
  have hV0 := fun w' (h : Bl B w w') => hv.blz h
  replace hV0 : Hid _ := hV0
  have b0 : Bl B w w := Bl.refl hB
  (refine callsV_of Tryd.func7 rfl KR KR ?_; rw [Tryd.results7])
  (repeat' first
    | ((with_reducible refine at_row ?_); refine row1_a fun _ _ _ _ _ _ _ => ?_)
    | with_reducible first | (first | apply alloc_k | apply row_k); intro _ _ _ _ _ _ | (first | apply fork | apply forkp) <;> intro _ | refine forke (fun _ => ?_) fun _ _ => ?_ | refine tail_k fun _ _ _ => ?_ | refine ext_k fun _ _ _ => ?_ | refine need_a ?_ | refine st_agg KR rfl ON fun _ _ _ _ => ?_ | refine wpd_q_a ?_
    | simp (maxDischargeDepth := 3) only [↓X, ↓Y, ↓Q, S1, ↓reduceIte, Nat.reduceEqDiff, Nat.reduceAdd, Int.reduceLT, Int.reduceLE, Int.reduceNeg, Int.reduceBEq, Int.reduceBNe, Int.reduceEq, Nat.reduceLeDiff, Nat.reduceMul, Nat.reduceLT, *]
    | simp (singlePass := true) (maxDischargeDepth := 99) only [*, S2, Nat.reduceLT])
  refine call_k (law10own (B := B) FR (hV0.out _ FR)) ?_
  rintro o1 w1 n1 s1 ho1
  obtain ⟨us1, hr1⟩ := ho1.r
  have one1 := ho1.one
  generalize ownA after = A at *
  have hV1 := fun w' (h : Bl w1.heap.size w1 w') => hr1.blz h
  replace hV1 : Hid _ := hV1
  have b1 : Bl w1.heap.size w1 w1 := Bl.refl (Nat.le_refl _)
  have hso : Hid ((ofS A).1 = 0 → (chainsN (ofS A).2.2 A.length).isSome) := chains_some
  clear ho1 hr1
  have c1 := fun w' (h1 : Ext w w') (h2 : Bl w1.heap.size w1 w') (h3 : w1.heap.size ≤ w'.heap.size) => orderHeight (w := w') (B := w1.heap.size) (hT'.out w' h1) h3 (hV1.out w' h2)
  have c2 := fun w' (h2 : Bl w1.heap.size w1 w') (h3 : w1.heap.size ≤ w'.heap.size) => ref10Height (w := w') (B := w1.heap.size) h3 (hV1.out w' h2)
  have c3 := fun w' (h1 : Ext w w') (h2 : Bl w1.heap.size w1 w') (h3 : w1.heap.size ≤ w'.heap.size) => orderWidth (w := w') (B := w1.heap.size) (hT'.out w' h1) h3 (hV1.out w' h2) hso.out
  have c4 := fun w' (h2 : Bl w1.heap.size w1 w') (h3 : w1.heap.size ≤ w'.heap.size) => ref10Width (w := w') (B := w1.heap.size) h3 (hV1.out w' h2)
  have c5 := fun w' (h1 : Ext w w') (h2 : Bl w1.heap.size w1 w') (h3 : w1.heap.size ≤ w'.heap.size) => orderChains (w := w') (B := w1.heap.size) (hT'.out w' h1) h3 (hV1.out w' h2) hso.out
  have hE2 : (heightE (ofS A).1 A.length (ofS A).2.1).2 = (ofS A).1 := by unfold heightE; split <;> simp_all
  generalize heightE (ofS A).1 A.length (ofS A).2.1 = hE at *
  by_cases h0 : (ofS A).1 = 0
  · obtain ⟨cs, hc⟩ := chains_ok h0
    have hcs : (chainsN (ofS A).2.2 A.length).getD [] = cs := by rw [hc.is]; rfl
    have hwE : widthE A = (cs.length, 0) := by rw [widthE, if_pos h0, hc.wide]
    simp only [h0, hcs, if_true] at c3 c5
    rw [h0] at hE2
    rw [hwE] at c4
    simp only at c4
    replace h0 : Hid _ := h0
    replace hc : Hid _ := hc
    clear hcs hwE
    (repeat' first
    | ((with_reducible refine at_row ?_); refine row1_a fun _ _ _ _ _ _ _ => ?_)
    | with_reducible first | (first | apply alloc_k | apply row_k); intro _ _ _ _ _ _ | (first | apply fork | apply forkp) <;> intro _ | refine forke (fun _ => ?_) fun _ _ => ?_ | refine tail_k fun _ _ _ => ?_ | refine ext_k fun _ _ _ => ?_ | refine need_a ?_ | refine st_agg KR rfl ON fun _ _ _ _ => ?_ | refine wpd_q_a ?_
    | ((with_reducible refine at_f 20 ?_); refine ret_k (c1 _ FR FR FR) fun _ _ _ => ?_)
    | ((with_reducible refine at_f 39 ?_); refine ret_k (c2 _ FR FR) fun _ _ _ => ?_)
    | ((with_reducible refine at_f 21 ?_); refine ret_k (c3 _ FR FR FR) fun _ _ _ => ?_)
    | ((with_reducible refine at_f 40 ?_); refine ret_k (c4 _ FR FR) fun _ _ _ => ?_)
    | simp (maxDischargeDepth := 3) only [↓X, ↓Y, ↓Q, S1, ↓reduceIte, Nat.reduceEqDiff, Nat.reduceAdd, Int.reduceLT, Int.reduceLE, Int.reduceNeg, Int.reduceBEq, Int.reduceBNe, Int.reduceEq, Nat.reduceLeDiff, Nat.reduceMul, Nat.reduceLT, *]
    | simp (singlePass := true) (maxDischargeDepth := 99) only [*, S2, Nat.reduceLT])
    refine call_k (c5 _ FR FR FR) ?_
    rintro _ w5 n5 s5 ⟨o5, rfl, ho5⟩
    obtain ⟨us5, hr5⟩ := ho5.r
    have one5 := ho5.one
    have len5 := hr5.len_
    rw [List.length_map] at len5
    have hV5 := fun w' (h : Bl w5.heap.size w5 w') => hr5.blz h
    replace hV5 : Hid _ := hV5
    have b5 : Bl w5.heap.size w5 w5 := Bl.refl (Nat.le_refl _)
    clear ho5 hr5
    (repeat' first
    | ((with_reducible refine at_row ?_); refine row1_a fun _ _ _ _ _ _ _ => ?_)
    | with_reducible first | (first | apply alloc_k | apply row_k); intro _ _ _ _ _ _ | (first | apply fork | apply forkp) <;> intro _ | refine forke (fun _ => ?_) fun _ _ => ?_ | refine tail_k fun _ _ _ => ?_ | refine ext_k fun _ _ _ => ?_ | refine need_a ?_ | refine st_agg KR rfl ON fun _ _ _ _ => ?_ | refine wpd_q_a ?_
    | simp (maxDischargeDepth := 3) only [↓X, ↓Y, ↓Q, S1, ↓reduceIte, Nat.reduceEqDiff, Nat.reduceAdd, Int.reduceLT, Int.reduceLE, Int.reduceNeg, Int.reduceBEq, Int.reduceBNe, Int.reduceEq, Nat.reduceLeDiff, Nat.reduceMul, Nat.reduceLT, *]
    | simp (singlePass := true) (maxDischargeDepth := 99) only [*, S2, Nat.reduceLT])
    refine ret_k (ref10Divides (B := w1.heap.size) (B' := w5.heap.size) FR FR (hV1.out _ FR) (hV5.out _ FR) h0.out hc.out) fun w6 n6 s6 => ?_
    (repeat' first
    | ((with_reducible refine at_row ?_); refine row1_a fun _ _ _ _ _ _ _ => ?_)
    | with_reducible first | (first | apply alloc_k | apply row_k); intro _ _ _ _ _ _ | (first | apply fork | apply forkp) <;> intro _ | refine forke (fun _ => ?_) fun _ _ => ?_ | refine tail_k fun _ _ _ => ?_ | refine ext_k fun _ _ _ => ?_ | refine need_a ?_ | refine st_agg KR rfl ON fun _ _ _ _ => ?_ | refine wpd_q_a ?_
    | simp (maxDischargeDepth := 3) only [↓X, ↓Y, ↓Q, S1, ↓reduceIte, Nat.reduceEqDiff, Nat.reduceAdd, Int.reduceLT, Int.reduceLE, Int.reduceNeg, Int.reduceBEq, Int.reduceBNe, Int.reduceEq, Nat.reduceLeDiff, Nat.reduceMul, Nat.reduceLT, *]
    | simp (singlePass := true) (maxDischargeDepth := 99) only [*, S2, Nat.reduceLT])
    refine ret_k (law10works (hT'.out _ FR)) fun w12 n12 s12 => ?_
    (repeat' first
    | ((with_reducible refine at_row ?_); refine row1_a fun _ _ _ _ _ _ _ => ?_)
    | with_reducible first | (first | apply alloc_k | apply row_k); intro _ _ _ _ _ _ | (first | apply fork | apply forkp) <;> intro _ | refine forke (fun _ => ?_) fun _ _ => ?_ | refine tail_k fun _ _ _ => ?_ | refine ext_k fun _ _ _ => ?_ | refine need_a ?_ | refine st_agg KR rfl ON fun _ _ _ _ => ?_ | refine wpd_q_a ?_
    | simp (maxDischargeDepth := 3) only [↓X, ↓Y, ↓Q, S1, ↓reduceIte, Nat.reduceEqDiff, Nat.reduceAdd, Int.reduceLT, Int.reduceLE, Int.reduceNeg, Int.reduceBEq, Int.reduceBNe, Int.reduceEq, Nat.reduceLeDiff, Nat.reduceMul, Nat.reduceLT, *]
    | simp (singlePass := true) (maxDischargeDepth := 99) only [*, S2, Nat.reduceLT])
    all_goals done
  · have hwE : widthE A = (0, (ofS A).1) := by rw [widthE, if_neg h0]
    simp only [if_neg h0] at c3 c5
    rw [hwE] at c4
    simp only at c4
    clear hwE hso
    have e2 : ((ofS A).1 != 0) = true := by simpa using h0
    generalize (ofS A).1 = e at *
    (repeat' first
    | ((with_reducible refine at_row ?_); refine row1_a fun _ _ _ _ _ _ _ => ?_)
    | with_reducible first | (first | apply alloc_k | apply row_k); intro _ _ _ _ _ _ | (first | apply fork | apply forkp) <;> intro _ | refine forke (fun _ => ?_) fun _ _ => ?_ | refine tail_k fun _ _ _ => ?_ | refine ext_k fun _ _ _ => ?_ | refine need_a ?_ | refine st_agg KR rfl ON fun _ _ _ _ => ?_ | refine wpd_q_a ?_
    | ((with_reducible refine at_f 20 ?_); refine ret_k (c1 _ FR FR FR) fun _ _ _ => ?_)
    | ((with_reducible refine at_f 39 ?_); refine ret_k (c2 _ FR FR) fun _ _ _ => ?_)
    | ((with_reducible refine at_f 21 ?_); refine ret_k (c3 _ FR FR FR) fun _ _ _ => ?_)
    | ((with_reducible refine at_f 40 ?_); refine ret_k (c4 _ FR FR) fun _ _ _ => ?_)
    | simp (maxDischargeDepth := 3) only [↓X, ↓Y, ↓Q, S1, ↓reduceIte, Nat.reduceEqDiff, Nat.reduceAdd, Int.reduceLT, Int.reduceLE, Int.reduceNeg, Int.reduceBEq, Int.reduceBNe, Int.reduceEq, Nat.reduceLeDiff, Nat.reduceMul, Nat.reduceLT, *]
    | simp (singlePass := true) (maxDischargeDepth := 99) only [*, S2, Nat.reduceLT])
    refine call_k (c5 _ FR FR FR) ?_
    rintro _ w5 n5 s5 ⟨o5, rfl, ho5⟩
    obtain ⟨us5, hr5⟩ := ho5.r
    have one5 := ho5.one
    have len5 := hr5.len_
    rw [List.length_map] at len5
    clear ho5 hr5
    (repeat' first
    | ((with_reducible refine at_row ?_); refine row1_a fun _ _ _ _ _ _ _ => ?_)
    | with_reducible first | (first | apply alloc_k | apply row_k); intro _ _ _ _ _ _ | (first | apply fork | apply forkp) <;> intro _ | refine forke (fun _ => ?_) fun _ _ => ?_ | refine tail_k fun _ _ _ => ?_ | refine ext_k fun _ _ _ => ?_ | refine need_a ?_ | refine st_agg KR rfl ON fun _ _ _ _ => ?_ | refine wpd_q_a ?_
    | simp (maxDischargeDepth := 3) only [↓X, ↓Y, ↓Q, S1, ↓reduceIte, Nat.reduceEqDiff, Nat.reduceAdd, Int.reduceLT, Int.reduceLE, Int.reduceNeg, Int.reduceBEq, Int.reduceBNe, Int.reduceEq, Nat.reduceLeDiff, Nat.reduceMul, Nat.reduceLT, *]
    | simp (singlePass := true) (maxDischargeDepth := 99) only [*, S2, Nat.reduceLT])
    refine ret_k (law10works (hT'.out _ FR)) fun w12 n12 s12 => ?_
    (repeat' first
    | ((with_reducible refine at_row ?_); refine row1_a fun _ _ _ _ _ _ _ => ?_)
    | with_reducible first | (first | apply alloc_k | apply row_k); intro _ _ _ _ _ _ | (first | apply fork | apply forkp) <;> intro _ | refine forke (fun _ => ?_) fun _ _ => ?_ | refine tail_k fun _ _ _ => ?_ | refine ext_k fun _ _ _ => ?_ | refine need_a ?_ | refine st_agg KR rfl ON fun _ _ _ _ => ?_ | refine wpd_q_a ?_
    | simp (maxDischargeDepth := 3) only [↓X, ↓Y, ↓Q, S1, ↓reduceIte, Nat.reduceEqDiff, Nat.reduceAdd, Int.reduceLT, Int.reduceLE, Int.reduceNeg, Int.reduceBEq, Int.reduceBNe, Int.reduceEq, Nat.reduceLeDiff, Nat.reduceMul, Nat.reduceLT, *]
    | simp (singlePass := true) (maxDischargeDepth := 99) only [*, S2, Nat.reduceLT])
    all_goals done
end
end Go.Proofs.YteeaccnklkcchaaDoor
