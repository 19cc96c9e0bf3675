
/- The statements on layer 10: the examples of the chapter. -/
import Derived.Test.YteeaccnklkcchaaDoorSame10
import Derived.Test.YteeaccnklkcchaaDoorRank10
import Derived.Test.YteeaccnklkcchaaDoorChains10
import Derived.Test.YteeaccnklkcchaaDoorIter10
namespace Go.Proofs.YteeaccnklkcchaaDoor
set_option linter.unusedSimpArgs false
set_option linter.unusedVariables false
open Go Go.RowKit
set_option maxRecDepth 100000
set_option linter.unusedSectionVars false
set_option maxHeartbeats 2000000
abbrev smpD : List Nat := [0, 0, 3, 6]
abbrev smpL : List Nat := [0, 0, 3, 7]
theorem smp_of : ofS smpA = (0, smpD, smpL) := by kernel_rfl
theorem smp_clos : smpL.map lst = [[], [], [0, 1], [0, 1, 2]] := by kernel_rfl
theorem smp_red : redR (bef (natA smpA)) = [[], [], [0, 1], [2]] := by kernel_rfl
theorem smp_ideals : idL smpD (2 ^ smpA.length) = [0, 1, 2, 3, 7, 15] := by kernel_rfl
theorem smp_enab : enabE 0 smpA.length smpD 2 = ([0], 0) := by kernel_rfl
theorem smp_is : isIdealE 0 smpA.length smpD 7 = (true, 0) := by kernel_rfl
theorem smp_count : countE 0 smpD = (2, 0) := by kernel_rfl
theorem smp_nth : nthE 0 smpD 1 = ([1, 0, 2, 3], 0) := by kernel_rfl
theorem smp_rank : rankE 0 smpD [1, 0, 2, 3] = (1, 0) := by kernel_rfl
theorem smp_height : heightE 0 smpA.length smpD = (3, 0) := by kernel_rfl
theorem smp_chains : chainsN smpL smpA.length = some [[0, 3], [1, 2]] := by kernel_rfl
theorem smp_cyc : ofS [[1], [0]] = (12, (ofS [[1], [0]]).2) := by kernel_rfl
theorem natV1 : natV 1 = .int .i64 1 := rfl
theorem natV2 : natV 2 = .int .i64 2 := rfl
theorem natV3 : natV 3 = .int .i64 3 := rfl
section
variable {w : World} {B : Nat} {v : Value} {vs : List Value}
theorem LLR.more10 {B' : Nat} {ll : List (List Int)} (h : LLR w B v vs ll) (hB : B ≤ B') : LLR w B' v vs ll := ⟨h.v.more hB, h.len, fun i hi => let ⟨u, a, b⟩ := h.at_ i hi; ⟨u, a, b.more hB⟩⟩
/-- A list of lists that is written out. -/
theorem llr_lit {b n : Nat} {ll : List (List Int)} (hb : Blk w b 25 vs) (hn : n = vs.length) (hl : vs.length = ll.length) (hs : vs.length ≤ 1000) (h : ∀ i (hi : i < vs.length) (hj : i < ll.length), Sl w w.heap.size none 1 vs[i] (ll[i].map intV)) : LLR w w.heap.size (.slice (some ⟨b, 0, none⟩) n n) vs ll :=
  ⟨row_sl hb hn (by omega), hl, fun i hi => ⟨vs[i], List.getElem?_eq_getElem (by omega), h i (by omega) hi⟩⟩
theorem law10works (hT : TabW w) : Ret Tryd.prog 26 #[] w (.bool true) := by
  have hn : Now w := trivial
  have hx : Ext w w := Ext.refl w
  have hT' := fun w' (h : Ext w w') => hT.ext h
  replace hT' : Hid _ := hT'
  (refine callsV_of Tryd.func26 rfl KR KR ?_; rw [Tryd.results26])
  (repeat' first
    | ((with_reducible refine at_row ?_); refine row1_a fun _ _ _ _ _ _ _ => ?_)
    | with_reducible first | (first | apply alloc_k | apply row_k); intro _ _ _ _ _ _ | (first | apply fork | apply forkp) <;> intro _ | refine forke (fun _ => ?_) fun _ _ => ?_ | refine tail_k fun _ _ _ => ?_ | refine ext_k fun _ _ _ => ?_ | refine need_a ?_ | refine st_agg KR rfl ON fun _ _ _ _ => ?_ | refine wpd_q_a ?_
    | simp (maxDischargeDepth := 3) only [↓X, ↓Y, ↓Q, S1, ↓reduceIte, Nat.reduceEqDiff, Nat.reduceAdd, Int.reduceLT, Int.reduceLE, Int.reduceNeg, Int.reduceBEq, Int.reduceBNe, Int.reduceEq, Nat.reduceLeDiff, Nat.reduceMul, Nat.reduceLT, *]
    | simp (singlePass := true) (maxDischargeDepth := 99) only [*, S2, Nat.reduceLT])
  refine call_k law10sample ?_
  rintro v w1 n1 s1 ⟨vs, hsm⟩
  have hV := fun w' (h : Bl w1.heap.size w1 w') => hsm.blz h
  replace hV : Hid _ := hV
  have b1 : Bl w1.heap.size w1 w1 := Bl.refl (Nat.le_refl _)
  have one1 := hsm.v.one
  clear hsm
  (repeat' first
    | ((with_reducible refine at_row ?_); refine row1_a fun _ _ _ _ _ _ _ => ?_)
    | with_reducible first | (first | apply alloc_k | apply row_k); intro _ _ _ _ _ _ | (first | apply fork | apply forkp) <;> intro _ | refine forke (fun _ => ?_) fun _ _ => ?_ | refine tail_k fun _ _ _ => ?_ | refine ext_k fun _ _ _ => ?_ | refine need_a ?_ | refine st_agg KR rfl ON fun _ _ _ _ => ?_ | refine wpd_q_a ?_
    | simp (maxDischargeDepth := 3) only [↓X, ↓Y, ↓Q, S1, ↓reduceIte, Nat.reduceEqDiff, Nat.reduceAdd, Int.reduceLT, Int.reduceLE, Int.reduceNeg, Int.reduceBEq, Int.reduceBNe, Int.reduceEq, Nat.reduceLeDiff, Nat.reduceMul, Nat.reduceLT, *]
    | simp (singlePass := true) (maxDischargeDepth := 99) only [*, S2, Nat.reduceLT])
  have c1 := fun w' (h1 : Ext w w') (h2 : Bl w1.heap.size w1 w') (h3 : w1.heap.size ≤ w'.heap.size) => orderClosure (hT'.out w' h1) h3 (hV.out w' h2)
  simp only [smp_of, if_true, smp_clos] at c1
  refine call_k (c1 _ FR FR FR) ?_
  clear c1
  rintro _ w2 n2 s2 ⟨o2, rfl, ho2⟩
  obtain ⟨us2, hr2⟩ := ho2.r
  have one2 := ho2.one
  have hL2 := fun w' (h : Bl w2.heap.size w2 w') => hr2.blz h
  replace hL2 : Hid _ := hL2
  have b2 : Bl w2.heap.size w2 w2 := Bl.refl (Nat.le_refl _)
  clear ho2 hr2
  (repeat' first
    | ((with_reducible refine at_row ?_); refine row1_a fun _ _ _ _ _ _ _ => ?_)
    | with_reducible first | (first | apply alloc_k | apply row_k); intro _ _ _ _ _ _ | (first | apply fork | apply forkp) <;> intro _ | refine forke (fun _ => ?_) fun _ _ => ?_ | refine tail_k fun _ _ _ => ?_ | refine ext_k fun _ _ _ => ?_ | refine need_a ?_ | refine st_agg KR rfl ON fun _ _ _ _ => ?_ | refine wpd_q_a ?_
    | simp (maxDischargeDepth := 3) only [↓X, ↓Y, ↓Q, S1, ↓reduceIte, Nat.reduceEqDiff, Nat.reduceAdd, Int.reduceLT, Int.reduceLE, Int.reduceNeg, Int.reduceBEq, Int.reduceBNe, Int.reduceEq, Nat.reduceLeDiff, Nat.reduceMul, Nat.reduceLT, *]
    | simp (singlePass := true) (maxDischargeDepth := 99) only [*, S2, Nat.reduceLT])
  have c1 := fun w' (h1 : Ext w w') (h2 : Bl w1.heap.size w1 w') (h3 : w1.heap.size ≤ w'.heap.size) => orderReduce (hT'.out w' h1) h3 (hV.out w' h2)
  simp only [smp_of, if_true, smp_red] at c1
  refine call_k (c1 _ FR FR FR) ?_
  clear c1
  rintro _ w3 n3 s3 ⟨o3, rfl, ho3⟩
  obtain ⟨us3, hr3⟩ := ho3.r
  have one3 := ho3.one
  have hL3 := fun w' (h : Bl w3.heap.size w3 w') => hr3.blz h
  replace hL3 : Hid _ := hL3
  have b3 : Bl w3.heap.size w3 w3 := Bl.refl (Nat.le_refl _)
  clear ho3 hr3
  (repeat' first
    | ((with_reducible refine at_row ?_); refine row1_a fun _ _ _ _ _ _ _ => ?_)
    | with_reducible first | (first | apply alloc_k | apply row_k); intro _ _ _ _ _ _ | (first | apply fork | apply forkp) <;> intro _ | refine forke (fun _ => ?_) fun _ _ => ?_ | refine tail_k fun _ _ _ => ?_ | refine ext_k fun _ _ _ => ?_ | refine need_a ?_ | refine st_agg KR rfl ON fun _ _ _ _ => ?_ | refine wpd_q_a ?_
    | simp (maxDischargeDepth := 3) only [↓X, ↓Y, ↓Q, S1, ↓reduceIte, Nat.reduceEqDiff, Nat.reduceAdd, Int.reduceLT, Int.reduceLE, Int.reduceNeg, Int.reduceBEq, Int.reduceBNe, Int.reduceEq, Nat.reduceLeDiff, Nat.reduceMul, Nat.reduceLT, *]
    | simp (singlePass := true) (maxDischargeDepth := 99) only [*, S2, Nat.reduceLT])
  rename_i b4 w4 n4 k4 s4 q4 l4 b5 w5 n5 k5 s5 q5 l5 b6 w6 n6 k6 s6 q6 l6
  have r4 : Sl w6 w6.heap.size none 1 (.slice (some ⟨b4, 0, none⟩) 1 1) (([1] : List Int).map intV) := row_sl (k4.2.1 _ FR) rfl (by simp)
  have r5 : Sl w6 w6.heap.size none 1 (.slice (some ⟨b5, 0, none⟩) 1 1) (([0] : List Int).map intV) := row_sl (k5.2.1 _ FR) rfl (by simp)
  have hl6 : LLR w6 w6.heap.size (.slice (some ⟨b6, 0, none⟩) 2 2) [.slice (some ⟨b4, 0, none⟩) 1 1, .slice (some ⟨b5, 0, none⟩) 1 1] ([[1], [0]] : List (List Int)) := llr_lit (k6.2.1 _ FR) rfl rfl (by simp) fun i hi hj => by
    match i, hi, hj with
    | 0, _, _ => exact r4
    | 1, _, _ => exact r5
    | i + 2, h, _ => exact absurd h (by simp)
  refine ret_k (orderValid (hT'.out _ FR) (Nat.le_refl _) hl6) fun w7 n7 s7 => ?_
  rw [smp_cyc]
  clear hl6 r4 r5 l4 l5 l6 k4 k5 k6
  (repeat' first
    | ((with_reducible refine at_row ?_); refine row1_a fun _ _ _ _ _ _ _ => ?_)
    | with_reducible first | (first | apply alloc_k | apply row_k); intro _ _ _ _ _ _ | (first | apply fork | apply forkp) <;> intro _ | refine forke (fun _ => ?_) fun _ _ => ?_ | refine tail_k fun _ _ _ => ?_ | refine ext_k fun _ _ _ => ?_ | refine need_a ?_ | refine st_agg KR rfl ON fun _ _ _ _ => ?_ | refine wpd_q_a ?_
    | simp (maxDischargeDepth := 3) only [↓X, ↓Y, ↓Q, S1, ↓reduceIte, Nat.reduceEqDiff, Nat.reduceAdd, Int.reduceLT, Int.reduceLE, Int.reduceNeg, Int.reduceBEq, Int.reduceBNe, Int.reduceEq, Nat.reduceLeDiff, Nat.reduceMul, Nat.reduceLT, *]
    | simp (singlePass := true) (maxDischargeDepth := 99) only [*, S2, Nat.reduceLT])
  rename_i b8 w8 n8 k8 s8 q8 l8 b9 w9 n9 k9 s9 q9 l9 b10 w10 n10 k10 s10 q10 l10
  have r8 : Sl w10 w10.heap.size none 1 (.slice (some ⟨b8, 0, none⟩) 2 2) (([0, 1] : List Int).map intV) := row_sl (k8.2.1 _ FR) rfl (by simp)
  have r9 : Sl w10 w10.heap.size none 1 (.slice (some ⟨b9, 0, none⟩) 3 3) (([0, 1, 2] : List Int).map intV) := row_sl (k9.2.1 _ FR) rfl (by simp)
  have hl10 : LLR w10 w10.heap.size (.slice (some ⟨b10, 0, none⟩) 4 4) [.slice none 0 0, .slice none 0 0, .slice (some ⟨b8, 0, none⟩) 2 2, .slice (some ⟨b9, 0, none⟩) 3 3] ([[], [], [0, 1], [0, 1, 2]] : List (List Int)) := llr_lit (k10.2.1 _ FR) rfl rfl (by simp) fun i hi hj => by
    match i, hi, hj with
    | 0, _, _ => exact Sl.nil _ _ _ _
    | 1, _, _ => exact Sl.nil _ _ _ _
    | 2, _, _ => exact r8
    | 3, _, _ => exact r9
    | i + 4, h, _ => exact absurd h (by simp)
  refine ret_k (law10same (B := w2.heap.size) FR (Nat.le_refl _) (hL2.out _ FR) hl10) fun w11 n11 s11 => ?_
  rw [show decide (List.map intL [[], [], [0, 1], [0, 1, 2]] = [[], [], [0, 1], [0, 1, 2]]) = true from by decide]
  clear hl10 r8 r9 l8 l9 l10 k8 k9 k10
  (repeat' first
    | ((with_reducible refine at_row ?_); refine row1_a fun _ _ _ _ _ _ _ => ?_)
    | with_reducible first | (first | apply alloc_k | apply row_k); intro _ _ _ _ _ _ | (first | apply fork | apply forkp) <;> intro _ | refine forke (fun _ => ?_) fun _ _ => ?_ | refine tail_k fun _ _ _ => ?_ | refine ext_k fun _ _ _ => ?_ | refine need_a ?_ | refine st_agg KR rfl ON fun _ _ _ _ => ?_ | refine wpd_q_a ?_
    | simp (maxDischargeDepth := 3) only [↓X, ↓Y, ↓Q, S1, ↓reduceIte, Nat.reduceEqDiff, Nat.reduceAdd, Int.reduceLT, Int.reduceLE, Int.reduceNeg, Int.reduceBEq, Int.reduceBNe, Int.reduceEq, Nat.reduceLeDiff, Nat.reduceMul, Nat.reduceLT, *]
    | simp (singlePass := true) (maxDischargeDepth := 99) only [*, S2, Nat.reduceLT])
  rename_i b12 w12 n12 k12 s12 q12 l12 b13 w13 n13 k13 s13 q13 l13 b14 w14 n14 k14 s14 q14 l14
  have r12 : Sl w14 w14.heap.size none 1 (.slice (some ⟨b12, 0, none⟩) 2 2) (([0, 1] : List Int).map intV) := row_sl (k12.2.1 _ FR) rfl (by simp)
  have r13 : Sl w14 w14.heap.size none 1 (.slice (some ⟨b13, 0, none⟩) 1 1) (([2] : List Int).map intV) := row_sl (k13.2.1 _ FR) rfl (by simp)
  have hl14 : LLR w14 w14.heap.size (.slice (some ⟨b14, 0, none⟩) 4 4) [.slice none 0 0, .slice none 0 0, .slice (some ⟨b12, 0, none⟩) 2 2, .slice (some ⟨b13, 0, none⟩) 1 1] ([[], [], [0, 1], [2]] : List (List Int)) := llr_lit (k14.2.1 _ FR) rfl rfl (by simp) fun i hi hj => by
    match i, hi, hj with
    | 0, _, _ => exact Sl.nil _ _ _ _
    | 1, _, _ => exact Sl.nil _ _ _ _
    | 2, _, _ => exact r12
    | 3, _, _ => exact r13
    | i + 4, h, _ => exact absurd h (by simp)
  refine ret_k (law10same (B := w3.heap.size) FR (Nat.le_refl _) (hL3.out _ FR) hl14) fun w15 n15 s15 => ?_
  rw [show decide (List.map intL [[], [], [0, 1], [2]] = [[], [], [0, 1], [2]]) = true from by decide]
  clear hl14 r12 r13 l12 l13 l14 k12 k13 k14
  (repeat' first
    | ((with_reducible refine at_row ?_); refine row1_a fun _ _ _ _ _ _ _ => ?_)
    | with_reducible first | (first | apply alloc_k | apply row_k); intro _ _ _ _ _ _ | (first | apply fork | apply forkp) <;> intro _ | refine forke (fun _ => ?_) fun _ _ => ?_ | refine tail_k fun _ _ _ => ?_ | refine ext_k fun _ _ _ => ?_ | refine need_a ?_ | refine st_agg KR rfl ON fun _ _ _ _ => ?_ | refine wpd_q_a ?_
    | simp (maxDischargeDepth := 3) only [↓X, ↓Y, ↓Q, S1, ↓reduceIte, Nat.reduceEqDiff, Nat.reduceAdd, Int.reduceLT, Int.reduceLE, Int.reduceNeg, Int.reduceBEq, Int.reduceBNe, Int.reduceEq, Nat.reduceLeDiff, Nat.reduceMul, Nat.reduceLT, *]
    | simp (singlePass := true) (maxDischargeDepth := 99) only [*, S2, Nat.reduceLT])
  have c1 := fun w' (h1 : Ext w w') (h2 : Bl w1.heap.size w1 w') (h3 : w1.heap.size ≤ w'.heap.size) => orderIdeals (hT'.out w' h1) h3 (hV.out w' h2)
  simp only [smp_of, if_true, smp_ideals] at c1
  refine call_k (c1 _ FR FR FR) ?_
  clear c1
  rintro _ w16 n16 s16 ⟨o16, rfl, ho16⟩
  have hs16 := ho16.sl1 (f := natV)
  rw [natC_ints] at hs16
  have one16 := ho16.one
  have hL16 := fun w' (h : Bl w16.heap.size w16 w') => hs16.bl h
  replace hL16 : Hid _ := hL16
  have b16 : Bl w16.heap.size w16 w16 := Bl.refl (Nat.le_refl _)
  clear ho16 hs16
  (repeat' first
    | ((with_reducible refine at_row ?_); refine row1_a fun _ _ _ _ _ _ _ => ?_)
    | with_reducible first | (first | apply alloc_k | apply row_k); intro _ _ _ _ _ _ | (first | apply fork | apply forkp) <;> intro _ | refine forke (fun _ => ?_) fun _ _ => ?_ | refine tail_k fun _ _ _ => ?_ | refine ext_k fun _ _ _ => ?_ | refine need_a ?_ | refine st_agg KR rfl ON fun _ _ _ _ => ?_ | refine wpd_q_a ?_
    | simp (maxDischargeDepth := 3) only [↓X, ↓Y, ↓Q, S1, ↓reduceIte, Nat.reduceEqDiff, Nat.reduceAdd, Int.reduceLT, Int.reduceLE, Int.reduceNeg, Int.reduceBEq, Int.reduceBNe, Int.reduceEq, Nat.reduceLeDiff, Nat.reduceMul, Nat.reduceLT, *]
    | simp (singlePass := true) (maxDischargeDepth := 99) only [*, S2, Nat.reduceLT])
  have c1 := fun w' (h1 : Ext w w') (h2 : Bl w1.heap.size w1 w') (h3 : w1.heap.size ≤ w'.heap.size) => orderEnabled (x := 2) (hT'.out w' h1) h3 (hV.out w' h2)
  simp only [smp_of, smp_enab] at c1
  refine call_k (c1 _ FR FR FR) ?_
  clear c1
  rintro _ w17 n17 s17 ⟨o17, rfl, ho17⟩
  have hs17 := ho17.sl1 (f := natV)
  rw [natC_ints] at hs17
  have one17 := ho17.one
  have hL17 := fun w' (h : Bl w17.heap.size w17 w') => hs17.bl h
  replace hL17 : Hid _ := hL17
  have b17 : Bl w17.heap.size w17 w17 := Bl.refl (Nat.le_refl _)
  clear ho17 hs17
  (repeat' first
    | ((with_reducible refine at_row ?_); refine row1_a fun _ _ _ _ _ _ _ => ?_)
    | with_reducible first | (first | apply alloc_k | apply row_k); intro _ _ _ _ _ _ | (first | apply fork | apply forkp) <;> intro _ | refine forke (fun _ => ?_) fun _ _ => ?_ | refine tail_k fun _ _ _ => ?_ | refine ext_k fun _ _ _ => ?_ | refine need_a ?_ | refine st_agg KR rfl ON fun _ _ _ _ => ?_ | refine wpd_q_a ?_
    | simp (maxDischargeDepth := 3) only [↓X, ↓Y, ↓Q, S1, ↓reduceIte, Nat.reduceEqDiff, Nat.reduceAdd, Int.reduceLT, Int.reduceLE, Int.reduceNeg, Int.reduceBEq, Int.reduceBNe, Int.reduceEq, Nat.reduceLeDiff, Nat.reduceMul, Nat.reduceLT, *]
    | simp (singlePass := true) (maxDischargeDepth := 99) only [*, S2, Nat.reduceLT])
  have c1 := fun w' (h1 : Ext w w') (h2 : Bl w1.heap.size w1 w') (h3 : w1.heap.size ≤ w'.heap.size) => orderIsIdeal (x := 7) (hT'.out w' h1) h3 (hV.out w' h2)
  simp only [smp_of, smp_is] at c1
  refine ret_k (c1 _ FR FR FR) fun w18 n18 s18 => ?_
  clear c1
  (repeat' first
    | ((with_reducible refine at_row ?_); refine row1_a fun _ _ _ _ _ _ _ => ?_)
    | with_reducible first | (first | apply alloc_k | apply row_k); intro _ _ _ _ _ _ | (first | apply fork | apply forkp) <;> intro _ | refine forke (fun _ => ?_) fun _ _ => ?_ | refine tail_k fun _ _ _ => ?_ | refine ext_k fun _ _ _ => ?_ | refine need_a ?_ | refine st_agg KR rfl ON fun _ _ _ _ => ?_ | refine wpd_q_a ?_
    | simp (maxDischargeDepth := 3) only [↓X, ↓Y, ↓Q, S1, ↓reduceIte, Nat.reduceEqDiff, Nat.reduceAdd, Int.reduceLT, Int.reduceLE, Int.reduceNeg, Int.reduceBEq, Int.reduceBNe, Int.reduceEq, Nat.reduceLeDiff, Nat.reduceMul, Nat.reduceLT, *]
    | simp (singlePass := true) (maxDischargeDepth := 99) only [*, S2, Nat.reduceLT])
  rename_i b19 w19 n19 k19 s19 q19 l19
  have r19 : Sl w19 w19.heap.size none 1 (.slice (some ⟨b19, 0, none⟩) 6 6) (([0, 1, 2, 3, 7, 15] : List Int).map intV) := row_sl (k19.2.1 _ FR) rfl (by simp)
  refine ret_k (slicesEqualIn (B := w16.heap.size) FR (Nat.le_refl _) (hL16.out _ FR) r19) fun w20 n20 s20 => ?_
  rw [show decide (List.map (fun n : Nat => (n : Int)) [0, 1, 2, 3, 7, 15] = [0, 1, 2, 3, 7, 15]) = true from by decide]
  clear r19 l19 k19
  (repeat' first
    | ((with_reducible refine at_row ?_); refine row1_a fun _ _ _ _ _ _ _ => ?_)
    | with_reducible first | (first | apply alloc_k | apply row_k); intro _ _ _ _ _ _ | (first | apply fork | apply forkp) <;> intro _ | refine forke (fun _ => ?_) fun _ _ => ?_ | refine tail_k fun _ _ _ => ?_ | refine ext_k fun _ _ _ => ?_ | refine need_a ?_ | refine st_agg KR rfl ON fun _ _ _ _ => ?_ | refine wpd_q_a ?_
    | simp (maxDischargeDepth := 3) only [↓X, ↓Y, ↓Q, S1, ↓reduceIte, Nat.reduceEqDiff, Nat.reduceAdd, Int.reduceLT, Int.reduceLE, Int.reduceNeg, Int.reduceBEq, Int.reduceBNe, Int.reduceEq, Nat.reduceLeDiff, Nat.reduceMul, Nat.reduceLT, *]
    | simp (singlePass := true) (maxDischargeDepth := 99) only [*, S2, Nat.reduceLT])
  rename_i b21 w21 n21 k21 s21 q21 l21
  have r21 : Sl w21 w21.heap.size none 1 (.slice (some ⟨b21, 0, none⟩) 1 1) (([0] : List Int).map intV) := row_sl (k21.2.1 _ FR) rfl (by simp)
  refine ret_k (slicesEqualIn (B := w17.heap.size) FR (Nat.le_refl _) (hL17.out _ FR) r21) fun w22 n22 s22 => ?_
  rw [show decide (List.map (fun n : Nat => (n : Int)) [0] = [0]) = true from by decide]
  clear r21 l21 k21
  (repeat' first
    | ((with_reducible refine at_row ?_); refine row1_a fun _ _ _ _ _ _ _ => ?_)
    | with_reducible first | (first | apply alloc_k | apply row_k); intro _ _ _ _ _ _ | (first | apply fork | apply forkp) <;> intro _ | refine forke (fun _ => ?_) fun _ _ => ?_ | refine tail_k fun _ _ _ => ?_ | refine ext_k fun _ _ _ => ?_ | refine need_a ?_ | refine st_agg KR rfl ON fun _ _ _ _ => ?_ | refine wpd_q_a ?_
    | simp (maxDischargeDepth := 3) only [↓X, ↓Y, ↓Q, S1, ↓reduceIte, Nat.reduceEqDiff, Nat.reduceAdd, Int.reduceLT, Int.reduceLE, Int.reduceNeg, Int.reduceBEq, Int.reduceBNe, Int.reduceEq, Nat.reduceLeDiff, Nat.reduceMul, Nat.reduceLT, *]
    | simp (singlePass := true) (maxDischargeDepth := 99) only [*, S2, Nat.reduceLT])
  have c1 := fun w' (h1 : Ext w w') (h2 : Bl w1.heap.size w1 w') (h3 : w1.heap.size ≤ w'.heap.size) => orderCount (hT'.out w' h1) h3 (hV.out w' h2)
  simp only [smp_of, smp_count, natV1, natV2, natV3] at c1
  refine ret_k (c1 _ FR FR FR) fun w23 n23 s23 => ?_
  clear c1
  (repeat' first
    | ((with_reducible refine at_row ?_); refine row1_a fun _ _ _ _ _ _ _ => ?_)
    | with_reducible first | (first | apply alloc_k | apply row_k); intro _ _ _ _ _ _ | (first | apply fork | apply forkp) <;> intro _ | refine forke (fun _ => ?_) fun _ _ => ?_ | refine tail_k fun _ _ _ => ?_ | refine ext_k fun _ _ _ => ?_ | refine need_a ?_ | refine st_agg KR rfl ON fun _ _ _ _ => ?_ | refine wpd_q_a ?_
    | simp (maxDischargeDepth := 3) only [↓X, ↓Y, ↓Q, S1, ↓reduceIte, Nat.reduceEqDiff, Nat.reduceAdd, Int.reduceLT, Int.reduceLE, Int.reduceNeg, Int.reduceBEq, Int.reduceBNe, Int.reduceEq, Nat.reduceLeDiff, Nat.reduceMul, Nat.reduceLT, *]
    | simp (singlePass := true) (maxDischargeDepth := 99) only [*, S2, Nat.reduceLT])
  have c1 := fun w' (h1 : Ext w w') (h2 : Bl w1.heap.size w1 w') (h3 : w1.heap.size ≤ w'.heap.size) => orderNth (x := 1) (by decide) (hT'.out w' h1) h3 (hV.out w' h2)
  simp only [smp_of, smp_nth] at c1
  refine call_k (c1 _ FR FR FR) ?_
  clear c1
  rintro _ w24 n24 s24 ⟨o24, rfl, ho24⟩
  have hs24 := ho24.sl1 (f := natV)
  rw [natC_ints] at hs24
  have one24 := ho24.one
  have hL24 := fun w' (h : Bl w24.heap.size w24 w') => hs24.bl h
  replace hL24 : Hid _ := hL24
  have b24 : Bl w24.heap.size w24 w24 := Bl.refl (Nat.le_refl _)
  clear ho24 hs24
  (repeat' first
    | ((with_reducible refine at_row ?_); refine row1_a fun _ _ _ _ _ _ _ => ?_)
    | with_reducible first | (first | apply alloc_k | apply row_k); intro _ _ _ _ _ _ | (first | apply fork | apply forkp) <;> intro _ | refine forke (fun _ => ?_) fun _ _ => ?_ | refine tail_k fun _ _ _ => ?_ | refine ext_k fun _ _ _ => ?_ | refine need_a ?_ | refine st_agg KR rfl ON fun _ _ _ _ => ?_ | refine wpd_q_a ?_
    | simp (maxDischargeDepth := 3) only [↓X, ↓Y, ↓Q, S1, ↓reduceIte, Nat.reduceEqDiff, Nat.reduceAdd, Int.reduceLT, Int.reduceLE, Int.reduceNeg, Int.reduceBEq, Int.reduceBNe, Int.reduceEq, Nat.reduceLeDiff, Nat.reduceMul, Nat.reduceLT, *]
    | simp (singlePass := true) (maxDischargeDepth := 99) only [*, S2, Nat.reduceLT])
  rename_i b25 w25 n25 k25 s25 q25 l25
  have r25 : Sl w25 w25.heap.size none 1 (.slice (some ⟨b25, 0, none⟩) 4 4) (([1, 0, 2, 3] : List Int).map intV) := row_sl (k25.2.1 _ FR) rfl (by simp)
  have h25 : w1.heap.size ≤ w25.heap.size := FR
  have c1 := orderRank (hT'.out _ FR) (Nat.le_refl _) ((hV.out w25 FR).more10 h25) r25
  simp only [smp_of, smp_rank, natV1, natV2, natV3] at c1
  refine ret_k c1 fun w26 n26 s26 => ?_
  clear c1 r25 l25 k25
  (repeat' first
    | ((with_reducible refine at_row ?_); refine row1_a fun _ _ _ _ _ _ _ => ?_)
    | with_reducible first | (first | apply alloc_k | apply row_k); intro _ _ _ _ _ _ | (first | apply fork | apply forkp) <;> intro _ | refine forke (fun _ => ?_) fun _ _ => ?_ | refine tail_k fun _ _ _ => ?_ | refine ext_k fun _ _ _ => ?_ | refine need_a ?_ | refine st_agg KR rfl ON fun _ _ _ _ => ?_ | refine wpd_q_a ?_
    | simp (maxDischargeDepth := 3) only [↓X, ↓Y, ↓Q, S1, ↓reduceIte, Nat.reduceEqDiff, Nat.reduceAdd, Int.reduceLT, Int.reduceLE, Int.reduceNeg, Int.reduceBEq, Int.reduceBNe, Int.reduceEq, Nat.reduceLeDiff, Nat.reduceMul, Nat.reduceLT, *]
    | simp (singlePass := true) (maxDischargeDepth := 99) only [*, S2, Nat.reduceLT])
  rename_i b27 w27 n27 k27 s27 q27 l27
  have r27 : Sl w27 w27.heap.size none 1 (.slice (some ⟨b27, 0, none⟩) 4 4) (([1, 0, 2, 3] : List Int).map intV) := row_sl (k27.2.1 _ FR) rfl (by simp)
  refine ret_k (slicesEqualIn (B := w24.heap.size) FR (Nat.le_refl _) (hL24.out _ FR) r27) fun w28 n28 s28 => ?_
  rw [show decide (List.map (fun n : Nat => (n : Int)) [1, 0, 2, 3] = [1, 0, 2, 3]) = true from by decide]
  clear r27 l27 k27
  (repeat' first
    | ((with_reducible refine at_row ?_); refine row1_a fun _ _ _ _ _ _ _ => ?_)
    | with_reducible first | (first | apply alloc_k | apply row_k); intro _ _ _ _ _ _ | (first | apply fork | apply forkp) <;> intro _ | refine forke (fun _ => ?_) fun _ _ => ?_ | refine tail_k fun _ _ _ => ?_ | refine ext_k fun _ _ _ => ?_ | refine need_a ?_ | refine st_agg KR rfl ON fun _ _ _ _ => ?_ | refine wpd_q_a ?_
    | simp (maxDischargeDepth := 3) only [↓X, ↓Y, ↓Q, S1, ↓reduceIte, Nat.reduceEqDiff, Nat.reduceAdd, Int.reduceLT, Int.reduceLE, Int.reduceNeg, Int.reduceBEq, Int.reduceBNe, Int.reduceEq, Nat.reduceLeDiff, Nat.reduceMul, Nat.reduceLT, *]
    | simp (singlePass := true) (maxDischargeDepth := 99) only [*, S2, Nat.reduceLT])
  have c1 := fun w' (h1 : Ext w w') (h2 : Bl w1.heap.size w1 w') (h3 : w1.heap.size ≤ w'.heap.size) => orderHeight (hT'.out w' h1) h3 (hV.out w' h2)
  simp only [smp_of, smp_height, natV1, natV2, natV3] at c1
  refine ret_k (c1 _ FR FR FR) fun w29 n29 s29 => ?_
  clear c1
  (repeat' first
    | ((with_reducible refine at_row ?_); refine row1_a fun _ _ _ _ _ _ _ => ?_)
    | with_reducible first | (first | apply alloc_k | apply row_k); intro _ _ _ _ _ _ | (first | apply fork | apply forkp) <;> intro _ | refine forke (fun _ => ?_) fun _ _ => ?_ | refine tail_k fun _ _ _ => ?_ | refine ext_k fun _ _ _ => ?_ | refine need_a ?_ | refine st_agg KR rfl ON fun _ _ _ _ => ?_ | refine wpd_q_a ?_
    | simp (maxDischargeDepth := 3) only [↓X, ↓Y, ↓Q, S1, ↓reduceIte, Nat.reduceEqDiff, Nat.reduceAdd, Int.reduceLT, Int.reduceLE, Int.reduceNeg, Int.reduceBEq, Int.reduceBNe, Int.reduceEq, Nat.reduceLeDiff, Nat.reduceMul, Nat.reduceLT, *]
    | simp (singlePass := true) (maxDischargeDepth := 99) only [*, S2, Nat.reduceLT])
  have hsc : (ofS smpA).1 = 0 → (chainsN (ofS smpA).2.2 smpA.length).isSome := fun _ => by rw [smp_of, smp_chains]; rfl
  have c1 := fun w' (h1 : Ext w w') (h2 : Bl w1.heap.size w1 w') (h3 : w1.heap.size ≤ w'.heap.size) => orderWidth (hT'.out w' h1) h3 (hV.out w' h2) hsc
  simp only [smp_of, smp_chains, if_true, Option.getD_some, List.length_cons, List.length_nil, Nat.zero_add, Nat.reduceAdd, natV1, natV2, natV3] at c1
  refine ret_k (c1 _ FR FR FR) fun w30 n30 s30 => ?_
  clear c1
  (repeat' first
    | ((with_reducible refine at_row ?_); refine row1_a fun _ _ _ _ _ _ _ => ?_)
    | with_reducible first | (first | apply alloc_k | apply row_k); intro _ _ _ _ _ _ | (first | apply fork | apply forkp) <;> intro _ | refine forke (fun _ => ?_) fun _ _ => ?_ | refine tail_k fun _ _ _ => ?_ | refine ext_k fun _ _ _ => ?_ | refine need_a ?_ | refine st_agg KR rfl ON fun _ _ _ _ => ?_ | refine wpd_q_a ?_
    | simp (maxDischargeDepth := 3) only [↓X, ↓Y, ↓Q, S1, ↓reduceIte, Nat.reduceEqDiff, Nat.reduceAdd, Int.reduceLT, Int.reduceLE, Int.reduceNeg, Int.reduceBEq, Int.reduceBNe, Int.reduceEq, Nat.reduceLeDiff, Nat.reduceMul, Nat.reduceLT, *]
    | simp (singlePass := true) (maxDischargeDepth := 99) only [*, S2, Nat.reduceLT])
  have c1 := fun w' (h1 : Ext w w') (h2 : Bl w1.heap.size w1 w') (h3 : w1.heap.size ≤ w'.heap.size) => orderChains (hT'.out w' h1) h3 (hV.out w' h2) hsc
  simp only [smp_of, smp_chains, if_true, Option.getD_some] at c1
  refine call_k (c1 _ FR FR FR) ?_
  clear c1
  rintro _ w31 n31 s31 ⟨o31, rfl, ho31⟩
  obtain ⟨us31, hr31⟩ := ho31.r
  have one31 := ho31.one
  have len31 := hr31.len_
  have len32 : lenN o31 = 2 := len31.2.2
  have len33 : isSl o31 := len31.2.1
  have len34 : SlWf o31 := len31.1
  have e22 : (((2 : Nat) : Int) == 2) = true := rfl
  clear ho31 hr31 len31
  (repeat' first
    | ((with_reducible refine at_row ?_); refine row1_a fun _ _ _ _ _ _ _ => ?_)
    | with_reducible first | (first | apply alloc_k | apply row_k); intro _ _ _ _ _ _ | (first | apply fork | apply forkp) <;> intro _ | refine forke (fun _ => ?_) fun _ _ => ?_ | refine tail_k fun _ _ _ => ?_ | refine ext_k fun _ _ _ => ?_ | refine need_a ?_ | refine st_agg KR rfl ON fun _ _ _ _ => ?_ | refine wpd_q_a ?_
    | simp (maxDischargeDepth := 3) only [↓X, ↓Y, ↓Q, S1, ↓reduceIte, Nat.reduceEqDiff, Nat.reduceAdd, Int.reduceLT, Int.reduceLE, Int.reduceNeg, Int.reduceBEq, Int.reduceBNe, Int.reduceEq, Nat.reduceLeDiff, Nat.reduceMul, Nat.reduceLT, *, e22]
    | simp (singlePass := true) (maxDischargeDepth := 99) only [*, S2, Nat.reduceLT, e22])
  all_goals done
end
end Go.Proofs.YteeaccnklkcchaaDoor
