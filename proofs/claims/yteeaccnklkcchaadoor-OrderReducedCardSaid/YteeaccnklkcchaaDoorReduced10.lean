
/- The statement OrderReduced. -/
import Derived.Test.YteeaccnklkcchaaDoorPureR10
import Derived.Test.YteeaccnklkcchaaDoorOwnLS10
import Derived.Test.YteeaccnklkcchaaDoorMade10b
namespace Go.Proofs.YteeaccnklkcchaaDoor
set_option linter.unusedSimpArgs false
set_option linter.unusedVariables false
open Go Go.RowKit
set_option maxRecDepth 100000
set_option linter.unusedSectionVars false
set_option maxHeartbeats 4000000
section
variable {w : World} {B : Nat} {tv : Value} {turn : List Int}
theorem lawOrderReduced {n p : Int} (hn0 : 0 ≤ n ∧ n ≤ 255) (hT : TabW w) (hB : B ≤ w.heap.size) (ht : Sl w B none 1 tv (turn.map u8V)) (hu : ∀ x ∈ turn, 0 ≤ x ∧ x ≤ 255) : Ret Tryd.prog 10 #[.int .u8 n, tv, .int .u64 p] w (.bool true) := by
  have hn : Now w := trivial
  have hx : Ext w w := Ext.refl w
  have hT' := fun w' (h : Ext w w') => hT.ext h
  replace hT' : Hid _ := hT'
  have hbw : Bl B w w := Bl.refl hB
  have KT := ht.k hB
  have hTB := fun w' (h : Bl B w w') => ht.bl h
  replace hTB : Hid _ := hTB
  clear ht
  (refine callsV_of Tryd.func10 rfl KR KR ?_; rw [Tryd.results10])
  (repeat' first
    | ((with_reducible refine at_row ?_); refine row1_a fun _ _ _ _ _ _ _ => ?_)
    | with_reducible first | (first | apply alloc_k | apply row_k); intro _ _ _ _ _ _ | (first | apply fork | apply forkp) <;> intro _ | refine forke (fun _ => ?_) fun _ _ => ?_ | refine tail_k fun _ _ _ => ?_ | refine ext_k fun _ _ _ => ?_ | refine need_a ?_ | refine st_agg KR rfl ON fun _ _ _ _ => ?_ | refine wpd_q_a ?_
    | simp (maxDischargeDepth := 3) only [↓X, ↓Y, ↓Q, S1, ↓reduceIte, Nat.reduceEqDiff, Nat.reduceAdd, Int.reduceLT, Int.reduceLE, Int.reduceNeg, Int.reduceBEq, Int.reduceBNe, Int.reduceEq, Nat.reduceLeDiff, Nat.reduceMul, Nat.reduceLT, *]
    | simp (singlePass := true) (maxDischargeDepth := 99) only [*, S2, Nat.reduceLT])
  refine call_k (law10made hn0 (B := B) FR (hTB.out _ FR) hu) ?_
  rintro v w1 n1 s1 ⟨us, A, hA, hA9, h0⟩
  have hV1 := fun w' (h : Bl w1.heap.size w1 w') => hA.blz h
  replace hV1 : Hid _ := hV1
  have b1 : Bl w1.heap.size w1 w1 := Bl.refl (Nat.le_refl _)
  have one1 := hA.v.one
  have len1 := hA.len_
  have hcA : Hid (((ofS A).2.2.map lst).map intL = clA A) := rfl
  have hrA : Hid ((redR (bef (natA A))).map intL = redA A) := rfl
  have hcl : Hid ((ofS (clA A)).1 = 0 ∧ ((ofS (clA A)).2.2.map lst).map intL = clA A ∧ ownA (clA A) = clA A ∧ (clA A).length = A.length) := ⟨cl_ok h0, by rw [cl_same h0]; rfl, own_cl h0, clA_len h0⟩
  have hrd : Hid ((ofS (redA A)).1 = 0 ∧ ((ofS (redA A)).2.2.map lst).map intL = clA A ∧ ownA (redA A) = redA A ∧ (redA A).length = A.length) := ⟨red_ok h0, by rw [red_same h0]; rfl, own_red h0, redA_len A⟩
  have hfw : Hid (∀ i k, (ofS (fewA A i k)).1 = 0) := few_ok h0
  have hfd : Hid (∀ i k (hi : i < (redA A).length), k < ((redA A)[i]).length → clA (fewA A i k) ≠ clA A) := fun i k hi hk => few_diff h0 hi hk
  have hrs : Hid (∀ i (hi : i < (redA A).length), ((redA A)[i]).length ≤ 14) := fun i hi => by
    have h1 := own_red h0
    have h2 : ((ownA (redA A))[i]'(by rw [h1]; exact hi)).length ≤ 14 := by
      simp only [ownA, List.getElem_map, List.length_take]
      omega
    simpa only [h1] using h2
  clear hA hTB hu KT
  (repeat' first
    | ((with_reducible refine at_row ?_); refine row1_a fun _ _ _ _ _ _ _ => ?_)
    | with_reducible first | (first | apply alloc_k | apply row_k); intro _ _ _ _ _ _ | (first | apply fork | apply forkp) <;> intro _ | refine forke (fun _ => ?_) fun _ _ => ?_ | refine tail_k fun _ _ _ => ?_ | refine ext_k fun _ _ _ => ?_ | refine need_a ?_ | refine st_agg KR rfl ON fun _ _ _ _ => ?_ | refine wpd_q_a ?_
    | simp (maxDischargeDepth := 3) only [↓X, ↓Y, ↓Q, S1, ↓reduceIte, Nat.reduceEqDiff, Nat.reduceAdd, Int.reduceLT, Int.reduceLE, Int.reduceNeg, Int.reduceBEq, Int.reduceBNe, Int.reduceEq, Nat.reduceLeDiff, Nat.reduceMul, Nat.reduceLT, *]
    | simp (singlePass := true) (maxDischargeDepth := 99) only [*, S2, Nat.reduceLT])
  have c1 := fun w' (h1 : Ext w w') (h2 : Bl w1.heap.size w1 w') (h3 : w1.heap.size ≤ w'.heap.size) => orderClosure (w := w') (B := w1.heap.size) (hT'.out w' h1) h3 (hV1.out w' h2)
  simp only [h0, if_true] at c1
  refine call_k (c1 _ FR FR FR) ?_
  clear c1
  rintro _ w2 n2 s2 ⟨o2, rfl, ho2⟩
  obtain ⟨us2, hr2⟩ := ho2.r
  rw [hcA.out] at hr2
  have one2 := ho2.one
  have len2 := hr2.len_
  rw [hcl.out.2.2.2] at len2
  have hV2 := fun w' (h : Bl w2.heap.size w2 w') => hr2.blz h
  replace hV2 : Hid _ := hV2
  have b2 : Bl w2.heap.size w2 w2 := Bl.refl (Nat.le_refl _)
  clear ho2 hr2
  (repeat' first
    | ((with_reducible refine at_row ?_); refine row1_a fun _ _ _ _ _ _ _ => ?_)
    | with_reducible first | (first | apply alloc_k | apply row_k); intro _ _ _ _ _ _ | (first | apply fork | apply forkp) <;> intro _ | refine forke (fun _ => ?_) fun _ _ => ?_ | refine tail_k fun _ _ _ => ?_ | refine ext_k fun _ _ _ => ?_ | refine need_a ?_ | refine st_agg KR rfl ON fun _ _ _ _ => ?_ | refine wpd_q_a ?_
    | simp (maxDischargeDepth := 3) only [↓X, ↓Y, ↓Q, S1, ↓reduceIte, Nat.reduceEqDiff, Nat.reduceAdd, Int.reduceLT, Int.reduceLE, Int.reduceNeg, Int.reduceBEq, Int.reduceBNe, Int.reduceEq, Nat.reduceLeDiff, Nat.reduceMul, Nat.reduceLT, *]
    | simp (singlePass := true) (maxDischargeDepth := 99) only [*, S2, Nat.reduceLT])
  have c1 := fun w' (h1 : Ext w w') (h2 : Bl w1.heap.size w1 w') (h3 : w1.heap.size ≤ w'.heap.size) => orderReduce (w := w') (B := w1.heap.size) (hT'.out w' h1) h3 (hV1.out w' h2)
  simp only [h0, if_true] at c1
  refine call_k (c1 _ FR FR FR) ?_
  clear c1
  rintro _ w3 n3 s3 ⟨o3, rfl, ho3⟩
  obtain ⟨us3, hr3⟩ := ho3.r
  rw [hrA.out] at hr3
  have one3 := ho3.one
  have len3 := hr3.len_
  rw [hrd.out.2.2.2] at len3
  have hV3 := fun w' (h : Bl w3.heap.size w3 w') => hr3.blz h
  replace hV3 : Hid _ := hV3
  have b3 : Bl w3.heap.size w3 w3 := Bl.refl (Nat.le_refl _)
  clear ho3 hr3 h0
  (repeat' first
    | ((with_reducible refine at_row ?_); refine row1_a fun _ _ _ _ _ _ _ => ?_)
    | with_reducible first | (first | apply alloc_k | apply row_k); intro _ _ _ _ _ _ | (first | apply fork | apply forkp) <;> intro _ | refine forke (fun _ => ?_) fun _ _ => ?_ | refine tail_k fun _ _ _ => ?_ | refine ext_k fun _ _ _ => ?_ | refine need_a ?_ | refine st_agg KR rfl ON fun _ _ _ _ => ?_ | refine wpd_q_a ?_
    | simp (maxDischargeDepth := 3) only [↓X, ↓Y, ↓Q, S1, ↓reduceIte, Nat.reduceEqDiff, Nat.reduceAdd, Int.reduceLT, Int.reduceLE, Int.reduceNeg, Int.reduceBEq, Int.reduceBNe, Int.reduceEq, Nat.reduceLeDiff, Nat.reduceMul, Nat.reduceLT, *]
    | simp (singlePass := true) (maxDischargeDepth := 99) only [*, S2, Nat.reduceLT])
  refine call_k (law10own (B := w2.heap.size) FR (hV2.out _ FR)) ?_
  rintro o4 w4 n4 s4 ho4
  rw [hcl.out.2.2.1] at ho4
  obtain ⟨us4, hr4⟩ := ho4.r
  have one4 := ho4.one
  have hV4 := fun w' (h : Bl w4.heap.size w4 w') => hr4.blz h
  replace hV4 : Hid _ := hV4
  have b4 : Bl w4.heap.size w4 w4 := Bl.refl (Nat.le_refl _)
  clear ho4 hr4
  (repeat' first
    | ((with_reducible refine at_row ?_); refine row1_a fun _ _ _ _ _ _ _ => ?_)
    | with_reducible first | (first | apply alloc_k | apply row_k); intro _ _ _ _ _ _ | (first | apply fork | apply forkp) <;> intro _ | refine forke (fun _ => ?_) fun _ _ => ?_ | refine tail_k fun _ _ _ => ?_ | refine ext_k fun _ _ _ => ?_ | refine need_a ?_ | refine st_agg KR rfl ON fun _ _ _ _ => ?_ | refine wpd_q_a ?_
    | simp (maxDischargeDepth := 3) only [↓X, ↓Y, ↓Q, S1, ↓reduceIte, Nat.reduceEqDiff, Nat.reduceAdd, Int.reduceLT, Int.reduceLE, Int.reduceNeg, Int.reduceBEq, Int.reduceBNe, Int.reduceEq, Nat.reduceLeDiff, Nat.reduceMul, Nat.reduceLT, *]
    | simp (singlePass := true) (maxDischargeDepth := 99) only [*, S2, Nat.reduceLT])
  have c1 := fun w' (h1 : Ext w w') (h2 : Bl w4.heap.size w4 w') (h3 : w4.heap.size ≤ w'.heap.size) => orderClosure (w := w') (B := w4.heap.size) (hT'.out w' h1) h3 (hV4.out w' h2)
  simp only [hcl.out.1, if_true] at c1
  refine call_k (c1 _ FR FR FR) ?_
  clear c1
  rintro _ w5 n5 s5 ⟨o5, rfl, ho5⟩
  obtain ⟨us5, hr5⟩ := ho5.r
  rw [hcl.out.2.1] at hr5
  have one5 := ho5.one
  have hV5 := fun w' (h : Bl w5.heap.size w5 w') => hr5.blz h
  replace hV5 : Hid _ := hV5
  have b5 : Bl w5.heap.size w5 w5 := Bl.refl (Nat.le_refl _)
  clear ho5 hr5
  (repeat' first
    | ((with_reducible refine at_row ?_); refine row1_a fun _ _ _ _ _ _ _ => ?_)
    | with_reducible first | (first | apply alloc_k | apply row_k); intro _ _ _ _ _ _ | (first | apply fork | apply forkp) <;> intro _ | refine forke (fun _ => ?_) fun _ _ => ?_ | refine tail_k fun _ _ _ => ?_ | refine ext_k fun _ _ _ => ?_ | refine need_a ?_ | refine st_agg KR rfl ON fun _ _ _ _ => ?_ | refine wpd_q_a ?_
    | simp (maxDischargeDepth := 3) only [↓X, ↓Y, ↓Q, S1, ↓reduceIte, Nat.reduceEqDiff, Nat.reduceAdd, Int.reduceLT, Int.reduceLE, Int.reduceNeg, Int.reduceBEq, Int.reduceBNe, Int.reduceEq, Nat.reduceLeDiff, Nat.reduceMul, Nat.reduceLT, *]
    | simp (singlePass := true) (maxDischargeDepth := 99) only [*, S2, Nat.reduceLT])
  refine call_k (law10own (B := w3.heap.size) FR (hV3.out _ FR)) ?_
  rintro o6 w6 n6 s6 ho6
  rw [hrd.out.2.2.1] at ho6
  obtain ⟨us6, hr6⟩ := ho6.r
  have one6 := ho6.one
  have hV6 := fun w' (h : Bl w6.heap.size w6 w') => hr6.blz h
  replace hV6 : Hid _ := hV6
  have b6 : Bl w6.heap.size w6 w6 := Bl.refl (Nat.le_refl _)
  clear ho6 hr6
  (repeat' first
    | ((with_reducible refine at_row ?_); refine row1_a fun _ _ _ _ _ _ _ => ?_)
    | with_reducible first | (first | apply alloc_k | apply row_k); intro _ _ _ _ _ _ | (first | apply fork | apply forkp) <;> intro _ | refine forke (fun _ => ?_) fun _ _ => ?_ | refine tail_k fun _ _ _ => ?_ | refine ext_k fun _ _ _ => ?_ | refine need_a ?_ | refine st_agg KR rfl ON fun _ _ _ _ => ?_ | refine wpd_q_a ?_
    | simp (maxDischargeDepth := 3) only [↓X, ↓Y, ↓Q, S1, ↓reduceIte, Nat.reduceEqDiff, Nat.reduceAdd, Int.reduceLT, Int.reduceLE, Int.reduceNeg, Int.reduceBEq, Int.reduceBNe, Int.reduceEq, Nat.reduceLeDiff, Nat.reduceMul, Nat.reduceLT, *]
    | simp (singlePass := true) (maxDischargeDepth := 99) only [*, S2, Nat.reduceLT])
  have c1 := fun w' (h1 : Ext w w') (h2 : Bl w6.heap.size w6 w') (h3 : w6.heap.size ≤ w'.heap.size) => orderClosure (w := w') (B := w6.heap.size) (hT'.out w' h1) h3 (hV6.out w' h2)
  simp only [hrd.out.1, if_true] at c1
  refine call_k (c1 _ FR FR FR) ?_
  clear c1
  rintro _ w7 n7 s7 ⟨o7, rfl, ho7⟩
  obtain ⟨us7, hr7⟩ := ho7.r
  rw [hrd.out.2.1] at hr7
  have one7 := ho7.one
  have hV7 := fun w' (h : Bl w7.heap.size w7 w') => hr7.blz h
  replace hV7 : Hid _ := hV7
  have b7 : Bl w7.heap.size w7 w7 := Bl.refl (Nat.le_refl _)
  have dt : ∀ (x : List (List Int)), decide (x = x) = true := fun x => decide_eq_true rfl
  replace dt : Hid _ := dt
  clear ho7 hr7
  (repeat' first
    | ((with_reducible refine at_row ?_); refine row1_a fun _ _ _ _ _ _ _ => ?_)
    | with_reducible first | (first | apply alloc_k | apply row_k); intro _ _ _ _ _ _ | (first | apply fork | apply forkp) <;> intro _ | refine forke (fun _ => ?_) fun _ _ => ?_ | refine tail_k fun _ _ _ => ?_ | refine ext_k fun _ _ _ => ?_ | refine need_a ?_ | refine st_agg KR rfl ON fun _ _ _ _ => ?_ | refine wpd_q_a ?_
    | simp (maxDischargeDepth := 3) only [↓X, ↓Y, ↓Q, S1, ↓reduceIte, Nat.reduceEqDiff, Nat.reduceAdd, Int.reduceLT, Int.reduceLE, Int.reduceNeg, Int.reduceBEq, Int.reduceBNe, Int.reduceEq, Nat.reduceLeDiff, Nat.reduceMul, Nat.reduceLT, *]
    | simp (singlePass := true) (maxDischargeDepth := 99) only [*, S2, Nat.reduceLT])
  refine ret_k (law10same (B := w5.heap.size) (B' := w2.heap.size) FR FR (hV5.out _ FR) (hV2.out _ FR)) fun w8 n8 s8 => ?_
  rw [dt.out]
  (repeat' first
    | ((with_reducible refine at_row ?_); refine row1_a fun _ _ _ _ _ _ _ => ?_)
    | with_reducible first | (first | apply alloc_k | apply row_k); intro _ _ _ _ _ _ | (first | apply fork | apply forkp) <;> intro _ | refine forke (fun _ => ?_) fun _ _ => ?_ | refine tail_k fun _ _ _ => ?_ | refine ext_k fun _ _ _ => ?_ | refine need_a ?_ | refine st_agg KR rfl ON fun _ _ _ _ => ?_ | refine wpd_q_a ?_
    | simp (maxDischargeDepth := 3) only [↓X, ↓Y, ↓Q, S1, ↓reduceIte, Nat.reduceEqDiff, Nat.reduceAdd, Int.reduceLT, Int.reduceLE, Int.reduceNeg, Int.reduceBEq, Int.reduceBNe, Int.reduceEq, Nat.reduceLeDiff, Nat.reduceMul, Nat.reduceLT, *]
    | simp (singlePass := true) (maxDischargeDepth := 99) only [*, S2, Nat.reduceLT])
  refine ret_k (law10same (B := w7.heap.size) (B' := w2.heap.size) FR FR (hV7.out _ FR) (hV2.out _ FR)) fun w9 n9 s9 => ?_
  rw [dt.out]
  clear hV4 hV5 hV6 hV7 b4 b5 b6 b7 one4 one5 one6 one7 hcl
  (repeat' first
    | ((with_reducible refine at_row ?_); refine row1_a fun _ _ _ _ _ _ _ => ?_)
    | with_reducible first | (first | apply alloc_k | apply row_k); intro _ _ _ _ _ _ | (first | apply fork | apply forkp) <;> intro _ | refine forke (fun _ => ?_) fun _ _ => ?_ | refine tail_k fun _ _ _ => ?_ | refine ext_k fun _ _ _ => ?_ | refine need_a ?_ | refine st_agg KR rfl ON fun _ _ _ _ => ?_ | refine wpd_q_a ?_
    | simp (maxDischargeDepth := 3) only [↓X, ↓Y, ↓Q, S1, ↓reduceIte, Nat.reduceEqDiff, Nat.reduceAdd, Int.reduceLT, Int.reduceLE, Int.reduceNeg, Int.reduceBEq, Int.reduceBNe, Int.reduceEq, Nat.reduceLeDiff, Nat.reduceMul, Nat.reduceLT, *]
    | simp (singlePass := true) (maxDischargeDepth := 99) only [*, S2, Nat.reduceLT])
  refine loop_k A.length (fun g0 i g _ => g 85 = .int .i64 i ∧ (g 8 = g0 8 ∧ g 10 = g0 10 ∧ g 84 = g0 84)) KR (by omega) ?_ ?_ ?_
  · (repeat' first
    | ((with_reducible refine at_row ?_); refine row1_a fun _ _ _ _ _ _ _ => ?_)
    | with_reducible first | (first | apply alloc_k | apply row_k); intro _ _ _ _ _ _ | (first | apply fork | apply forkp) <;> intro _ | refine forke (fun _ => ?_) fun _ _ => ?_ | refine tail_k fun _ _ _ => ?_ | refine ext_k fun _ _ _ => ?_ | refine need_a ?_ | refine st_agg KR rfl ON fun _ _ _ _ => ?_ | refine wpd_q_a ?_
    | simp (maxDischargeDepth := 3) only [↓X, ↓Y, ↓Q, S1, ↓reduceIte, Nat.reduceEqDiff, Nat.reduceAdd, Int.reduceLT, Int.reduceLE, Int.reduceNeg, Int.reduceBEq, Int.reduceBNe, Int.reduceEq, Nat.reduceLeDiff, Nat.reduceMul, Nat.reduceLT, *]
    | simp (singlePass := true) (maxDischargeDepth := 99) only [*, S2, Nat.reduceLT])
  · rintro i m g wk hk hlt nk sk bk hw ⟨hi, hf⟩
    simp (maxDischargeDepth := 3) only [U, ↓reduceIte, Nat.reduceEqDiff, *] at hf
    have hiR : i < (redA A).length := by rw [hrd.out.2.2.2]; exact hlt
    have hbl3 : Bl w3.heap.size w3 wk := FR
    obtain ⟨z, hz, hsz⟩ := (hV3.out wk hbl3).get hiR
    have hzk := hsz.k (Nat.le_trans FR (Nat.le_refl _) : w3.heap.size ≤ wk.heap.size)
    have hrl := hrs.out i hiR
    have hiI : ((i : Int) < (A.length : Int)) := by omega
    generalize hRi : (redA A)[i] = Ri at *
    (repeat' first
    | ((with_reducible refine at_row ?_); refine row1_a fun _ _ _ _ _ _ _ => ?_)
    | with_reducible first | (first | apply alloc_k | apply row_k); intro _ _ _ _ _ _ | (first | apply fork | apply forkp) <;> intro _ | refine forke (fun _ => ?_) fun _ _ => ?_ | refine tail_k fun _ _ _ => ?_ | refine ext_k fun _ _ _ => ?_ | refine need_a ?_ | refine st_agg KR rfl ON fun _ _ _ _ => ?_ | refine wpd_q_a ?_
    | simp (maxDischargeDepth := 3) only [↓X, ↓Y, ↓Q, S1, ↓reduceIte, Nat.reduceEqDiff, Nat.reduceAdd, Int.reduceLT, Int.reduceLE, Int.reduceNeg, Int.reduceBEq, Int.reduceBNe, Int.reduceEq, Nat.reduceLeDiff, Nat.reduceMul, Nat.reduceLT, *]
    | simp (singlePass := true) (maxDischargeDepth := 99) only [*, S2, Nat.reduceLT])
    refine loop_k Ri.length (fun g0 j g _ => g 93 = .int .i64 j ∧ (g 8 = g0 8 ∧ g 10 = g0 10 ∧ g 14 = g0 14 ∧ g 84 = g0 84 ∧ g 85 = g0 85 ∧ g 92 = g0 92)) KR (by omega) ?_ ?_ ?_
    · (repeat' first
    | ((with_reducible refine at_row ?_); refine row1_a fun _ _ _ _ _ _ _ => ?_)
    | with_reducible first | (first | apply alloc_k | apply row_k); intro _ _ _ _ _ _ | (first | apply fork | apply forkp) <;> intro _ | refine forke (fun _ => ?_) fun _ _ => ?_ | refine tail_k fun _ _ _ => ?_ | refine ext_k fun _ _ _ => ?_ | refine need_a ?_ | refine st_agg KR rfl ON fun _ _ _ _ => ?_ | refine wpd_q_a ?_
    | simp (maxDischargeDepth := 3) only [↓X, ↓Y, ↓Q, S1, ↓reduceIte, Nat.reduceEqDiff, Nat.reduceAdd, Int.reduceLT, Int.reduceLE, Int.reduceNeg, Int.reduceBEq, Int.reduceBNe, Int.reduceEq, Nat.reduceLeDiff, Nat.reduceMul, Nat.reduceLT, *]
    | simp (singlePass := true) (maxDischargeDepth := 99) only [*, S2, Nat.reduceLT])
    · rintro j m2 g2 w2k hk2 hlt2 n2k s2k b2k hw2 ⟨hi2, hf2⟩
      simp (maxDischargeDepth := 3) only [U, ↓reduceIte, Nat.reduceEqDiff, *] at hf2
      have hjI : ((j : Int) < (Ri.length : Int)) := by omega
      have ru := Ext.refl w2k
      have hbig : w2k.heap.size ≤ w2k.heap.size := Nat.le_refl _
      (repeat' first
    | ((with_reducible refine at_row ?_); refine row1_a fun _ _ _ _ _ _ _ => ?_)
    | with_reducible first | (first | apply alloc_k | apply row_k); intro _ _ _ _ _ _ | (first | apply fork | apply forkp) <;> intro _ | refine forke (fun _ => ?_) fun _ _ => ?_ | refine tail_k fun _ _ _ => ?_ | refine ext_k fun _ _ _ => ?_ | refine need_a ?_ | refine st_agg KR rfl ON fun _ _ _ _ => ?_ | refine wpd_q_a ?_
    | simp (maxDischargeDepth := 3) only [↓X, ↓Y, ↓Q, S1, ↓reduceIte, Nat.reduceEqDiff, Nat.reduceAdd, Int.reduceLT, Int.reduceLE, Int.reduceNeg, Int.reduceBEq, Int.reduceBNe, Int.reduceEq, Nat.reduceLeDiff, Nat.reduceMul, Nat.reduceLT, *]
    | simp (singlePass := true) (maxDischargeDepth := 99) only [*, S2, Nat.reduceLT])
      refine call_k (law10ownS (B := w3.heap.size) FR (hV3.out _ FR)) ?_
      rintro o10 w10 n10 s10 ho10
      rw [hrd.out.2.2.1] at ho10
      obtain ⟨usF, hlF, hownF, hrowF, hsepF⟩ := ho10
      have hiF : i < usF.length := by rw [hlF]; exact hiR
      have hgd : (redA A).getD i [] = Ri := by rw [List.getD_eq_getElem?_getD, List.getElem?_eq_getElem hiR, Option.getD_some, hRi]
      have hS10 : Sl w10 w10.heap.size none 1 o10 usF := by have := hownF.sl1 (f := id); rwa [List.map_id] at this
      have hz10 : ∀ w', Bl w10.heap.size w10 w' → rdv none w' (elemAt o10 1 i) = some usF[i] := fun w' h => (hS10.bl h).rd i hiF
      have hl10 : lenN o10 = A.length := by rw [hS10.len, hlF, hrd.out.2.2.2]
      have hw10 : SlWf o10 ∧ isSl o10 := ⟨hS10.wf, hS10.sl⟩
      have one10 := hownF.one
      have oneu := (hrowF i hiF).one
      have b10 : Bl w10.heap.size w10 w10 := Bl.refl (Nat.le_refl _)
      have hx10 : Ext w2k w10 := FR
      have hrow : Own w10 w2k.heap.size 3 1 usF[i] (Ri.map intC) := by have := hrowF i hiF; rwa [hgd] at this
      have hownF' : Hid _ := hownF
      have hrowF' : Hid _ := hrowF
      have hsepF' : Hid _ := hsepF
      have hrow' : Hid _ := hrow
      clear hownF hrowF hsepF hrow hS10
      (repeat' first
    | ((with_reducible refine at_row ?_); refine row1_a fun _ _ _ _ _ _ _ => ?_)
    | with_reducible first | (first | apply alloc_k | apply row_k); intro _ _ _ _ _ _ | (first | apply fork | apply forkp) <;> intro _ | refine forke (fun _ => ?_) fun _ _ => ?_ | refine tail_k fun _ _ _ => ?_ | refine ext_k fun _ _ _ => ?_ | refine need_a ?_ | refine st_agg KR rfl ON fun _ _ _ _ => ?_ | refine wpd_q_a ?_
    | simp (maxDischargeDepth := 3) only [↓X, ↓Y, ↓Q, S1, ↓reduceIte, Nat.reduceEqDiff, Nat.reduceAdd, Int.reduceLT, Int.reduceLE, Int.reduceNeg, Int.reduceBEq, Int.reduceBNe, Int.reduceEq, Nat.reduceLeDiff, Nat.reduceMul, Nat.reduceLT, *, hw2]
    | simp (singlePass := true) (maxDischargeDepth := 99) only [*, S2, Nat.reduceLT, hw2])
      refine CallsV.mono (deleteIntG hrow'.out hlt2) fun r11 w11 hh => ?_
      obtain ⟨hd1, hd2, hd3⟩ := hh
      have n11 : Now w11 := trivial
      have oner := hd2.one
      have ht11 := tab_keep hownF'.out hrow'.out hd1
      have hx11 : Ext w2k w11 := Ext.trans' hx10 (hd1.belowB hrow'.out hx10.size)
      have s11 := hx11.st
      have hd1' : Hid _ := hd1
      have hd2' : Hid _ := hd2
      have hd3' : Hid _ := hd3
      have ht11' : Hid _ := ht11
      clear hd1 hd2 hd3 ht11 hz10 s10 n10 b10
      (repeat' first
    | ((with_reducible refine at_row ?_); refine row1_a fun _ _ _ _ _ _ _ => ?_)
    | with_reducible first | (first | apply alloc_k | apply row_k); intro _ _ _ _ _ _ | (first | apply fork | apply forkp) <;> intro _ | refine forke (fun _ => ?_) fun _ _ => ?_ | refine tail_k fun _ _ _ => ?_ | refine ext_k fun _ _ _ => ?_ | refine need_a ?_ | refine st_agg KR rfl ON fun _ _ _ _ => ?_ | refine wpd_q_a ?_
    | simp (maxDischargeDepth := 3) only [↓X, ↓Y, ↓Q, S1, ↓reduceIte, Nat.reduceEqDiff, Nat.reduceAdd, Int.reduceLT, Int.reduceLE, Int.reduceNeg, Int.reduceBEq, Int.reduceBNe, Int.reduceEq, Nat.reduceLeDiff, Nat.reduceMul, Nat.reduceLT, *]
    | simp (singlePass := true) (maxDischargeDepth := 99) only [*, S2, Nat.reduceLT])
      refine own_setE (i := i) KR ht11'.out (by rw [List.length_map]; exact hiF) oner fun b' w12 n12 e12 hb12 hl12 hown12 s12 c12 => ?_
      have hLI := del_rows hlF hownF'.out hrowF'.out hsepF'.out hiF hd1'.out hd2'.out hd3'.out e12 hown12 c12
      have hx12 : Ext w2k w12 := Ext.trans' hx11 (Chg.below c12 hb12 hx11.size)
      have hfe : (redA A).set i (Ri.eraseIdx j) = fewA A i j := by rw [fewA, hgd]
      rw [hfe] at hLI
      obtain ⟨us12, hr12⟩ := hLI.r
      have hV12 := fun w' (h : Bl w12.heap.size w12 w') => hr12.blz h
      replace hV12 : Hid _ := hV12
      have b12 : Bl w12.heap.size w12 w12 := Bl.refl (Nat.le_refl _)
      have sx12 := hx12.st
      have hne := hfd.out i j hiR (by rw [hRi]; exact hlt2)
      replace hne : Hid _ := hne
      clear hLI hr12 hown12 s12 c12 e12 s11 n11
      (repeat' first
    | ((with_reducible refine at_row ?_); refine row1_a fun _ _ _ _ _ _ _ => ?_)
    | with_reducible first | (first | apply alloc_k | apply row_k); intro _ _ _ _ _ _ | (first | apply fork | apply forkp) <;> intro _ | refine forke (fun _ => ?_) fun _ _ => ?_ | refine tail_k fun _ _ _ => ?_ | refine ext_k fun _ _ _ => ?_ | refine need_a ?_ | refine st_agg KR rfl ON fun _ _ _ _ => ?_ | refine wpd_q_a ?_
    | simp (maxDischargeDepth := 3) only [↓X, ↓Y, ↓Q, S1, ↓reduceIte, Nat.reduceEqDiff, Nat.reduceAdd, Int.reduceLT, Int.reduceLE, Int.reduceNeg, Int.reduceBEq, Int.reduceBNe, Int.reduceEq, Nat.reduceLeDiff, Nat.reduceMul, Nat.reduceLT, *]
    | simp (singlePass := true) (maxDischargeDepth := 99) only [*, S2, Nat.reduceLT])
      have c1 := fun w' (h1 : Ext w w') (h2 : Bl w12.heap.size w12 w') (h3 : w12.heap.size ≤ w'.heap.size) => orderClosure (w := w') (B := w12.heap.size) (hT'.out w' h1) h3 (hV12.out w' h2)
      simp only [hfw.out i j, if_true] at c1
      refine call_k (c1 _ FR FR FR) ?_
      clear c1
      rintro _ w13 n13 s13 ⟨o13, rfl, ho13⟩
      obtain ⟨us13, hr13⟩ := ho13.r
      have one13 := ho13.one
      have hV13 := fun w' (h : Bl w13.heap.size w13 w') => hr13.blz h
      replace hV13 : Hid _ := hV13
      have b13 : Bl w13.heap.size w13 w13 := Bl.refl (Nat.le_refl _)
      clear ho13 hr13
      (repeat' first
    | ((with_reducible refine at_row ?_); refine row1_a fun _ _ _ _ _ _ _ => ?_)
    | with_reducible first | (first | apply alloc_k | apply row_k); intro _ _ _ _ _ _ | (first | apply fork | apply forkp) <;> intro _ | refine forke (fun _ => ?_) fun _ _ => ?_ | refine tail_k fun _ _ _ => ?_ | refine ext_k fun _ _ _ => ?_ | refine need_a ?_ | refine st_agg KR rfl ON fun _ _ _ _ => ?_ | refine wpd_q_a ?_
    | simp (maxDischargeDepth := 3) only [↓X, ↓Y, ↓Q, S1, ↓reduceIte, Nat.reduceEqDiff, Nat.reduceAdd, Int.reduceLT, Int.reduceLE, Int.reduceNeg, Int.reduceBEq, Int.reduceBNe, Int.reduceEq, Nat.reduceLeDiff, Nat.reduceMul, Nat.reduceLT, *]
    | simp (singlePass := true) (maxDischargeDepth := 99) only [*, S2, Nat.reduceLT])
      refine ret_k (law10same (B := w13.heap.size) (B' := w2.heap.size) FR FR (hV13.out _ FR) (hV2.out _ FR)) fun w14 n14 s14 => ?_
      rw [show decide (((ofS (fewA A i j)).2.2.map lst).map intL = clA A) = false from decide_eq_false hne.out]
      (repeat' first
    | ((with_reducible refine at_row ?_); refine row1_a fun _ _ _ _ _ _ _ => ?_)
    | with_reducible first | (first | apply alloc_k | apply row_k); intro _ _ _ _ _ _ | (first | apply fork | apply forkp) <;> intro _ | refine forke (fun _ => ?_) fun _ _ => ?_ | refine tail_k fun _ _ _ => ?_ | refine ext_k fun _ _ _ => ?_ | refine need_a ?_ | refine st_agg KR rfl ON fun _ _ _ _ => ?_ | refine wpd_q_a ?_
    | simp (maxDischargeDepth := 3) only [↓X, ↓Y, ↓Q, S1, ↓reduceIte, Nat.reduceEqDiff, Nat.reduceAdd, Int.reduceLT, Int.reduceLE, Int.reduceNeg, Int.reduceBEq, Int.reduceBNe, Int.reduceEq, Nat.reduceLeDiff, Nat.reduceMul, Nat.reduceLT, *]
    | simp (singlePass := true) (maxDischargeDepth := 99) only [*, S2, Nat.reduceLT])
      refine next_k hk2 hlt2 ?_ FR
      (repeat' first
    | ((with_reducible refine at_row ?_); refine row1_a fun _ _ _ _ _ _ _ => ?_)
    | with_reducible first | (first | apply alloc_k | apply row_k); intro _ _ _ _ _ _ | (first | apply fork | apply forkp) <;> intro _ | refine forke (fun _ => ?_) fun _ _ => ?_ | refine tail_k fun _ _ _ => ?_ | refine ext_k fun _ _ _ => ?_ | refine need_a ?_ | refine st_agg KR rfl ON fun _ _ _ _ => ?_ | refine wpd_q_a ?_
    | simp (maxDischargeDepth := 3) only [↓X, ↓Y, ↓Q, S1, ↓reduceIte, Nat.reduceEqDiff, Nat.reduceAdd, Int.reduceLT, Int.reduceLE, Int.reduceNeg, Int.reduceBEq, Int.reduceBNe, Int.reduceEq, Nat.reduceLeDiff, Nat.reduceMul, Nat.reduceLT, *]
    | simp (singlePass := true) (maxDischargeDepth := 99) only [*, S2, Nat.reduceLT])
    · rintro g2 w2k n2k s2k b2k ⟨hi2, hf2⟩
      simp (maxDischargeDepth := 3) only [U, ↓reduceIte, Nat.reduceEqDiff, *] at hf2
      (repeat' first
    | ((with_reducible refine at_row ?_); refine row1_a fun _ _ _ _ _ _ _ => ?_)
    | with_reducible first | (first | apply alloc_k | apply row_k); intro _ _ _ _ _ _ | (first | apply fork | apply forkp) <;> intro _ | refine forke (fun _ => ?_) fun _ _ => ?_ | refine tail_k fun _ _ _ => ?_ | refine ext_k fun _ _ _ => ?_ | refine need_a ?_ | refine st_agg KR rfl ON fun _ _ _ _ => ?_ | refine wpd_q_a ?_
    | simp (maxDischargeDepth := 3) only [↓X, ↓Y, ↓Q, S1, ↓reduceIte, Nat.reduceEqDiff, Nat.reduceAdd, Int.reduceLT, Int.reduceLE, Int.reduceNeg, Int.reduceBEq, Int.reduceBNe, Int.reduceEq, Nat.reduceLeDiff, Nat.reduceMul, Nat.reduceLT, *]
    | simp (singlePass := true) (maxDischargeDepth := 99) only [*, S2, Nat.reduceLT])
      refine next_k hk hlt ?_ FR
      (repeat' first
    | ((with_reducible refine at_row ?_); refine row1_a fun _ _ _ _ _ _ _ => ?_)
    | with_reducible first | (first | apply alloc_k | apply row_k); intro _ _ _ _ _ _ | (first | apply fork | apply forkp) <;> intro _ | refine forke (fun _ => ?_) fun _ _ => ?_ | refine tail_k fun _ _ _ => ?_ | refine ext_k fun _ _ _ => ?_ | refine need_a ?_ | refine st_agg KR rfl ON fun _ _ _ _ => ?_ | refine wpd_q_a ?_
    | simp (maxDischargeDepth := 3) only [↓X, ↓Y, ↓Q, S1, ↓reduceIte, Nat.reduceEqDiff, Nat.reduceAdd, Int.reduceLT, Int.reduceLE, Int.reduceNeg, Int.reduceBEq, Int.reduceBNe, Int.reduceEq, Nat.reduceLeDiff, Nat.reduceMul, Nat.reduceLT, *]
    | simp (singlePass := true) (maxDischargeDepth := 99) only [*, S2, Nat.reduceLT])
  · rintro g wk nk sk bk ⟨hi, hf⟩
    simp (maxDischargeDepth := 3) only [U, ↓reduceIte, Nat.reduceEqDiff, *] at hf
    (repeat' first
    | ((with_reducible refine at_row ?_); refine row1_a fun _ _ _ _ _ _ _ => ?_)
    | with_reducible first | (first | apply alloc_k | apply row_k); intro _ _ _ _ _ _ | (first | apply fork | apply forkp) <;> intro _ | refine forke (fun _ => ?_) fun _ _ => ?_ | refine tail_k fun _ _ _ => ?_ | refine ext_k fun _ _ _ => ?_ | refine need_a ?_ | refine st_agg KR rfl ON fun _ _ _ _ => ?_ | refine wpd_q_a ?_
    | simp (maxDischargeDepth := 3) only [↓X, ↓Y, ↓Q, S1, ↓reduceIte, Nat.reduceEqDiff, Nat.reduceAdd, Int.reduceLT, Int.reduceLE, Int.reduceNeg, Int.reduceBEq, Int.reduceBNe, Int.reduceEq, Nat.reduceLeDiff, Nat.reduceMul, Nat.reduceLT, *]
    | simp (singlePass := true) (maxDischargeDepth := 99) only [*, S2, Nat.reduceLT])
    refine ret_k (law10works (hT'.out _ FR)) fun u4 m4 t4 => ?_
    (repeat' first
    | ((with_reducible refine at_row ?_); refine row1_a fun _ _ _ _ _ _ _ => ?_)
    | with_reducible first | (first | apply alloc_k | apply row_k); intro _ _ _ _ _ _ | (first | apply fork | apply forkp) <;> intro _ | refine forke (fun _ => ?_) fun _ _ => ?_ | refine tail_k fun _ _ _ => ?_ | refine ext_k fun _ _ _ => ?_ | refine need_a ?_ | refine st_agg KR rfl ON fun _ _ _ _ => ?_ | refine wpd_q_a ?_
    | simp (maxDischargeDepth := 3) only [↓X, ↓Y, ↓Q, S1, ↓reduceIte, Nat.reduceEqDiff, Nat.reduceAdd, Int.reduceLT, Int.reduceLE, Int.reduceNeg, Int.reduceBEq, Int.reduceBNe, Int.reduceEq, Nat.reduceLeDiff, Nat.reduceMul, Nat.reduceLT, *]
    | simp (singlePass := true) (maxDischargeDepth := 99) only [*, S2, Nat.reduceLT])
    all_goals done
end
end Go.Proofs.YteeaccnklkcchaaDoor
