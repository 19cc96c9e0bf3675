
/- The statement OrderKnown. -/
import Derived.Test.YteeaccnklkcchaaDoorPureK10
import Derived.Test.YteeaccnklkcchaaDoorRows10
namespace Go.Proofs.YteeaccnklkcchaaDoor
set_option linter.unusedSimpArgs false
set_option linter.unusedVariables false
open Go Go.RowKit
set_option maxRecDepth 100000
set_option linter.unusedSectionVars false
set_option maxHeartbeats 4000000
section
variable {w : World}
theorem row_of10 {b t n sz : Nat} {cells : List Value} {l : List (List Value)} (hb : Blk w b t cells) (hc : cells = l.flatten) (hn : n = l.length) (hl : ∀ c ∈ l, c.length = sz) (hs : l.length ≤ 140737488355328) : Sl w w.heap.size (some sz) sz (.slice (some ⟨b, 0, none⟩) n n) (l.map fun c => .agg c.toArray) := by
  have h := Own.ofBlk10 (B := 0) (cs := l) hn (by rw [← hc]; exact hb) hl (Nat.zero_le _) hs
  have := (show Own w 0 t sz _ (l.map id) by rwa [List.map_id]).slN (f := id)
  exact this
theorem natVc : natV 479001600 = .int .i64 479001600 := rfl
theorem natVd : natV 12 = .int .i64 12 := rfl
theorem law10OrderKnown (hT : TabW w) : Ret Tryd.prog 3 #[] w (.bool true) := by
  have hn : Now w := trivial
  have hx : Ext w w := Ext.refl w
  have hT' := fun w' (h : Ext w w') => hT.ext h
  replace hT' : Hid _ := hT'
  (refine callsV_of Tryd.func3 rfl KR KR ?_; rw [Tryd.results3])
  (repeat' first
    | ((with_reducible refine at_row ?_); refine row1_a fun _ _ _ _ _ _ _ => ?_)
    | with_reducible first | (first | apply alloc_k | apply row_k); intro _ _ _ _ _ _ | (first | apply fork | apply forkp) <;> intro _ | refine forke (fun _ => ?_) fun _ _ => ?_ | refine tail_k fun _ _ _ => ?_ | refine ext_k fun _ _ _ => ?_ | refine need_a ?_ | refine st_agg KR rfl ON fun _ _ _ _ => ?_ | refine wpd_q_a ?_
    | simp (maxDischargeDepth := 3) only [↓X, ↓Y, ↓Q, S1, ↓reduceIte, Nat.reduceEqDiff, Nat.reduceAdd, Int.reduceLT, Int.reduceLE, Int.reduceNeg, Int.reduceBEq, Int.reduceBNe, Int.reduceEq, Nat.reduceLeDiff, Nat.reduceMul, Nat.reduceLT, *]
    | simp (singlePass := true) (maxDischargeDepth := 99) only [*, S2, Nat.reduceLT])
  refine mk_one_k (n := 13) (z := .slice none 0 0) rfl (by decide) (by decide) fun b60 w60 n60 k60 s60 q60 => ?_
  (repeat' first
    | ((with_reducible refine at_row ?_); refine row1_a fun _ _ _ _ _ _ _ => ?_)
    | with_reducible first | (first | apply alloc_k | apply row_k); intro _ _ _ _ _ _ | (first | apply fork | apply forkp) <;> intro _ | refine forke (fun _ => ?_) fun _ _ => ?_ | refine tail_k fun _ _ _ => ?_ | refine ext_k fun _ _ _ => ?_ | refine need_a ?_ | refine st_agg KR rfl ON fun _ _ _ _ => ?_ | refine wpd_q_a ?_
    | simp (maxDischargeDepth := 3) only [↓X, ↓Y, ↓Q, S1, ↓reduceIte, Nat.reduceEqDiff, Nat.reduceAdd, Int.reduceLT, Int.reduceLE, Int.reduceNeg, Int.reduceBEq, Int.reduceBNe, Int.reduceEq, Nat.reduceLeDiff, Nat.reduceMul, Nat.reduceLT, *]
    | simp (singlePass := true) (maxDischargeDepth := 99) only [*, S2, Nat.reduceLT])
  rename_i b62 w62 n62 k62 s62 q62 l62 b63 w63 n63 k63 s63 q63 l63 b64 w64 n64 k64 s64 q64 l64 b65 w65 n65 k65 s65 q65 l65 b67 w67 n67 k67 s67 q67 l67 b68 w68 n68 k68 s68 q68 l68 b69 w69 n69 k69 s69 q69 l69 b71 w71 n71 k71 s71 q71 l71 b72 w72 n72 k72 s72 q72 l72 b74 w74 n74 k74 s74 q74 l74 b75 w75 n75 k75 s75 q75 l75 b77 w77 n77 k77 s77 q77 l77 b78 w78 n78 k78 s78 q78 l78 b80 w80 n80 k80 s80 q80 l80 b81 w81 n81 k81 s81 q81 l81 b82 w82 n82 k82 s82 q82 l82 b83 w83 n83 k83 s83 q83 l83 b85 w85 n85 k85 s85 q85 l85 b86 w86 n86 k86 s86 q86 l86 b87 w87 n87 k87 s87 q87 l87 b88 w88 n88 k88 s88 q88 l88 b90 w90 n90 k90 s90 q90
  have c0 : LLR w90 w90.heap.size (.slice (some ⟨b60, 0, none⟩) 13 13) (List.replicate 13 (.slice none 0 0)) (List.replicate 13 ([] : List Int)) := llr_lit (k60.2.1 _ FR) (by simp) (by simp) (by simp) fun i hi hj => by
    simp only [List.getElem_replicate]
    exact Sl.nil _ _ _ _
  have r62 : Sl w90 w90.heap.size none 1 (.slice (some ⟨b62, 0, none⟩) 2 2) (([2, 1] : List Int).map intV) := row_sl (k62.2.1 _ FR) rfl (by simp)
  have r63 : Sl w90 w90.heap.size none 1 (.slice (some ⟨b63, 0, none⟩) 1 1) (([0] : List Int).map intV) := row_sl (k63.2.1 _ FR) rfl (by simp)
  have r64 : Sl w90 w90.heap.size none 1 (.slice (some ⟨b64, 0, none⟩) 1 1) (([0] : List Int).map intV) := row_sl (k64.2.1 _ FR) rfl (by simp)
  have c1 : LLR w90 w90.heap.size (.slice (some ⟨b65, 0, none⟩) 3 3) [.slice (some ⟨b62, 0, none⟩) 2 2, .slice (some ⟨b63, 0, none⟩) 1 1, .slice (some ⟨b64, 0, none⟩) 1 1] ([[2, 1], [0], [0]] : List (List Int)) := llr_lit (k65.2.1 _ FR) rfl rfl (by simp) fun i hi hj => by
    match i, hi, hj with
    | 0, _, _ => exact r62
    | 1, _, _ => exact r63
    | 2, _, _ => exact r64
    | i + 3, h, _ => exact absurd h (by simp)
  have r67 : Sl w90 w90.heap.size none 1 (.slice (some ⟨b67, 0, none⟩) 1 1) (([5] : List Int).map intV) := row_sl (k67.2.1 _ FR) rfl (by simp)
  have r68 : Sl w90 w90.heap.size none 1 (.slice (some ⟨b68, 0, none⟩) 2 2) (([1, 1] : List Int).map intV) := row_sl (k68.2.1 _ FR) rfl (by simp)
  have c2 : LLR w90 w90.heap.size (.slice (some ⟨b69, 0, none⟩) 2 2) [.slice (some ⟨b67, 0, none⟩) 1 1, .slice (some ⟨b68, 0, none⟩) 2 2] ([[5], [1, 1]] : List (List Int)) := llr_lit (k69.2.1 _ FR) rfl rfl (by simp) fun i hi hj => by
    match i, hi, hj with
    | 0, _, _ => exact r67
    | 1, _, _ => exact r68
    | i + 2, h, _ => exact absurd h (by simp)
  have r71 : Sl w90 w90.heap.size none 1 (.slice (some ⟨b71, 0, none⟩) 1 1) (([-1] : List Int).map intV) := row_sl (k71.2.1 _ FR) rfl (by simp)
  have c3 : LLR w90 w90.heap.size (.slice (some ⟨b72, 0, none⟩) 1 1) [.slice (some ⟨b71, 0, none⟩) 1 1] ([[-1]] : List (List Int)) := llr_lit (k72.2.1 _ FR) rfl rfl (by simp) fun i hi hj => by
    match i, hi, hj with
    | 0, _, _ => exact r71
    | i + 1, h, _ => exact absurd h (by simp)
  have r74 : Sl w90 w90.heap.size none 1 (.slice (some ⟨b74, 0, none⟩) 1 1) (([1] : List Int).map intV) := row_sl (k74.2.1 _ FR) rfl (by simp)
  have c4 : LLR w90 w90.heap.size (.slice (some ⟨b75, 0, none⟩) 1 1) [.slice (some ⟨b74, 0, none⟩) 1 1] ([[1]] : List (List Int)) := llr_lit (k75.2.1 _ FR) rfl rfl (by simp) fun i hi hj => by
    match i, hi, hj with
    | 0, _, _ => exact r74
    | i + 1, h, _ => exact absurd h (by simp)
  have r77 : Sl w90 w90.heap.size none 1 (.slice (some ⟨b77, 0, none⟩) 1 1) (([0] : List Int).map intV) := row_sl (k77.2.1 _ FR) rfl (by simp)
  have c5 : LLR w90 w90.heap.size (.slice (some ⟨b78, 0, none⟩) 1 1) [.slice (some ⟨b77, 0, none⟩) 1 1] ([[0]] : List (List Int)) := llr_lit (k78.2.1 _ FR) rfl rfl (by simp) fun i hi hj => by
    match i, hi, hj with
    | 0, _, _ => exact r77
    | i + 1, h, _ => exact absurd h (by simp)
  have r80 : Sl w90 w90.heap.size none 1 (.slice (some ⟨b80, 0, none⟩) 1 1) (([1] : List Int).map intV) := row_sl (k80.2.1 _ FR) rfl (by simp)
  have r81 : Sl w90 w90.heap.size none 1 (.slice (some ⟨b81, 0, none⟩) 1 1) (([0] : List Int).map intV) := row_sl (k81.2.1 _ FR) rfl (by simp)
  have r82 : Sl w90 w90.heap.size none 1 (.slice (some ⟨b82, 0, none⟩) 1 1) (([2] : List Int).map intV) := row_sl (k82.2.1 _ FR) rfl (by simp)
  have c6 : LLR w90 w90.heap.size (.slice (some ⟨b83, 0, none⟩) 3 3) [.slice (some ⟨b80, 0, none⟩) 1 1, .slice (some ⟨b81, 0, none⟩) 1 1, .slice (some ⟨b82, 0, none⟩) 1 1] ([[1], [0], [2]] : List (List Int)) := llr_lit (k83.2.1 _ FR) rfl rfl (by simp) fun i hi hj => by
    match i, hi, hj with
    | 0, _, _ => exact r80
    | 1, _, _ => exact r81
    | 2, _, _ => exact r82
    | i + 3, h, _ => exact absurd h (by simp)
  have r85 : Sl w90 w90.heap.size none 1 (.slice (some ⟨b85, 0, none⟩) 1 1) (([2] : List Int).map intV) := row_sl (k85.2.1 _ FR) rfl (by simp)
  have r86 : Sl w90 w90.heap.size none 1 (.slice (some ⟨b86, 0, none⟩) 1 1) (([0] : List Int).map intV) := row_sl (k86.2.1 _ FR) rfl (by simp)
  have r87 : Sl w90 w90.heap.size none 1 (.slice (some ⟨b87, 0, none⟩) 1 1) (([1] : List Int).map intV) := row_sl (k87.2.1 _ FR) rfl (by simp)
  have c7 : LLR w90 w90.heap.size (.slice (some ⟨b88, 0, none⟩) 3 3) [.slice (some ⟨b85, 0, none⟩) 1 1, .slice (some ⟨b86, 0, none⟩) 1 1, .slice (some ⟨b87, 0, none⟩) 1 1] ([[2], [0], [1]] : List (List Int)) := llr_lit (k88.2.1 _ FR) rfl rfl (by simp) fun i hi hj => by
    match i, hi, hj with
    | 0, _, _ => exact r85
    | 1, _, _ => exact r86
    | 2, _, _ => exact r87
    | i + 3, h, _ => exact absurd h (by simp)
  have hS : Sl w90 w90.heap.size (some 2) 2 (.slice (some ⟨b90, 0, none⟩) 8 8) (([(.slice (some ⟨b60, 0, none⟩) 13 13, 1), (.slice (some ⟨b65, 0, none⟩) 3 3, 1), (.slice (some ⟨b69, 0, none⟩) 2 2, 1), (.slice (some ⟨b72, 0, none⟩) 1 1, 2), (.slice (some ⟨b75, 0, none⟩) 1 1, 2), (.slice (some ⟨b78, 0, none⟩) 1 1, 2), (.slice (some ⟨b83, 0, none⟩) 3 3, 2), (.slice (some ⟨b88, 0, none⟩) 3 3, 12)] : List (Value × Int)).map fun p => .agg #[p.1, intV p.2]) := by
    have h9 : Sl w90 w90.heap.size (some 2) 2 (.slice (some ⟨b90, 0, none⟩) 8 8) ((([(.slice (some ⟨b60, 0, none⟩) 13 13, 1), (.slice (some ⟨b65, 0, none⟩) 3 3, 1), (.slice (some ⟨b69, 0, none⟩) 2 2, 1), (.slice (some ⟨b72, 0, none⟩) 1 1, 2), (.slice (some ⟨b75, 0, none⟩) 1 1, 2), (.slice (some ⟨b78, 0, none⟩) 1 1, 2), (.slice (some ⟨b83, 0, none⟩) 3 3, 2), (.slice (some ⟨b88, 0, none⟩) 3 3, 12)] : List (Value × Int)).map fun p => [p.1, intV p.2]).map fun c => .agg c.toArray) := row_of10 (k90.2.1 _ FR) rfl rfl (by simp) (by simp)
    rw [List.map_map] at h9
    exact h9
  obtain ⟨L, hL⟩ : ∃ L : List (Value × Int), L = [(.slice (some ⟨b60, 0, none⟩) 13 13, 1), (.slice (some ⟨b65, 0, none⟩) 3 3, 1), (.slice (some ⟨b69, 0, none⟩) 2 2, 1), (.slice (some ⟨b72, 0, none⟩) 1 1, 2), (.slice (some ⟨b75, 0, none⟩) 1 1, 2), (.slice (some ⟨b78, 0, none⟩) 1 1, 2), (.slice (some ⟨b83, 0, none⟩) 3 3, 2), (.slice (some ⟨b88, 0, none⟩) 3 3, 12)] := ⟨_, rfl⟩
  have hLl : L.length = 8 := by rw [hL]; rfl
  have hC : ∀ k (h : k < L.length), ∃ vs A, LLR w90 w90.heap.size L[k].1 vs A ∧ (ofS A).1 = L[k].2 ∧ L[k].2 ≠ 0 := by
    subst hL
    intro k hk
    have hf := fun (h : k < kcs.length) => kcs_at h
    match k, hk with
    | 0, _ => exact ⟨_, _, c0, hf (by decide)⟩
    | 1, _ => exact ⟨_, _, c1, hf (by decide)⟩
    | 2, _ => exact ⟨_, _, c2, hf (by decide)⟩
    | 3, _ => exact ⟨_, _, c3, hf (by decide)⟩
    | 4, _ => exact ⟨_, _, c4, hf (by decide)⟩
    | 5, _ => exact ⟨_, _, c5, hf (by decide)⟩
    | 6, _ => exact ⟨_, _, c6, hf (by decide)⟩
    | 7, _ => exact ⟨_, _, c7, hf (by decide)⟩
    | k + 8, h => exact absurd h (by simp)
  rw [← hL] at hS
  have KS := hS.k (Nat.le_refl _)
  have hC' : Hid _ := hC
  have b90' : Bl w90.heap.size w90 w90 := Bl.refl (Nat.le_refl _)
  generalize hrow : Value.slice (some ⟨b90, 0, none⟩) 8 8 = row90 at *
  clear hC hS hL c0 c1 c2 c3 c4 c5 c6 c7 r62 r63 r64 r67 r68 r71 r74 r77 r80 r81 r82 r85 r86 r87 k60 q60 k62 q62 k63 q63 k64 q64 k65 q65 k67 q67 k68 q68 k69 q69 k71 q71 k72 q72 k74 q74 k75 q75 k77 q77 k78 q78 k80 q80 k81 q81 k82 q82 k83 q83 k85 q85 k86 q86 k87 q87 k88 q88 k90 q90 l62 l63 l64 l65 l67 l68 l69 l71 l72 l74 l75 l77 l78 l80 l81 l82 l83 l85 l86 l87 l88
  (repeat' first
    | ((with_reducible refine at_row ?_); refine row1_a fun _ _ _ _ _ _ _ => ?_)
    | with_reducible first | (first | apply alloc_k | apply row_k); intro _ _ _ _ _ _ | (first | apply fork | apply forkp) <;> intro _ | refine forke (fun _ => ?_) fun _ _ => ?_ | refine tail_k fun _ _ _ => ?_ | refine ext_k fun _ _ _ => ?_ | refine need_a ?_ | refine st_agg KR rfl ON fun _ _ _ _ => ?_ | refine wpd_q_a ?_
    | simp (maxDischargeDepth := 3) only [↓X, ↓Y, ↓Q, S1, ↓reduceIte, Nat.reduceEqDiff, Nat.reduceAdd, Int.reduceLT, Int.reduceLE, Int.reduceNeg, Int.reduceBEq, Int.reduceBNe, Int.reduceEq, Nat.reduceLeDiff, Nat.reduceMul, Nat.reduceLT, *]
    | simp (singlePass := true) (maxDischargeDepth := 99) only [*, S2, Nat.reduceLT])
  refine loop_k 8 (fun g0 k g _ => g 92 = .int .i64 k ∧ (g 90 = g0 90 ∧ g 91 = g0 91)) KR (by decide) ?_ ?_ ?_
  · (repeat' first
    | ((with_reducible refine at_row ?_); refine row1_a fun _ _ _ _ _ _ _ => ?_)
    | with_reducible first | (first | apply alloc_k | apply row_k); intro _ _ _ _ _ _ | (first | apply fork | apply forkp) <;> intro _ | refine forke (fun _ => ?_) fun _ _ => ?_ | refine tail_k fun _ _ _ => ?_ | refine ext_k fun _ _ _ => ?_ | refine need_a ?_ | refine st_agg KR rfl ON fun _ _ _ _ => ?_ | refine wpd_q_a ?_
    | simp (maxDischargeDepth := 3) only [↓X, ↓Y, ↓Q, S1, ↓reduceIte, Nat.reduceEqDiff, Nat.reduceAdd, Int.reduceLT, Int.reduceLE, Int.reduceNeg, Int.reduceBEq, Int.reduceBNe, Int.reduceEq, Nat.reduceLeDiff, Nat.reduceMul, Nat.reduceLT, *]
    | simp (singlePass := true) (maxDischargeDepth := 99) only [*, S2, Nat.reduceLT])
  · rintro k m g wk hk hlt nk sk bk hw ⟨hi, hf⟩
    simp (maxDischargeDepth := 3) only [U, ↓reduceIte, Nat.reduceEqDiff, *] at hf
    have hltL : k < L.length := by omega
    obtain ⟨vs, A, hll, hof, hne⟩ := hC'.out k hltL
    generalize hp : L[k] = p at *
    obtain ⟨av, e⟩ := p
    simp only at hll hof hne
    have e1 : (e == 0) = false := by simpa using hne
    have hV := fun w' (h : Bl w90.heap.size w90 w') => hll.blz h
    replace hV : Hid _ := hV
    have avone := hll.v.one
    have hltI : ((k : Int) < 8) := by omega
    have hex : Hid ((ofS A).1 = e ∧ e ≠ 0) := ⟨hof, hne⟩
    clear hll hof hne
    (repeat' first
    | ((with_reducible refine at_row ?_); refine row1_a fun _ _ _ _ _ _ _ => ?_)
    | with_reducible first | (first | apply alloc_k | apply row_k); intro _ _ _ _ _ _ | (first | apply fork | apply forkp) <;> intro _ | refine forke (fun _ => ?_) fun _ _ => ?_ | refine tail_k fun _ _ _ => ?_ | refine ext_k fun _ _ _ => ?_ | refine need_a ?_ | refine st_agg KR rfl ON fun _ _ _ _ => ?_ | refine wpd_q_a ?_
    | simp (maxDischargeDepth := 3) only [↓X, ↓Y, ↓Q, S1, ↓reduceIte, Nat.reduceEqDiff, Nat.reduceAdd, Int.reduceLT, Int.reduceLE, Int.reduceNeg, Int.reduceBEq, Int.reduceBNe, Int.reduceEq, Nat.reduceLeDiff, Nat.reduceMul, Nat.reduceLT, *, hp]
    | simp (singlePass := true) (maxDischargeDepth := 99) only [*, S2, Nat.reduceLT, hp])
    have c1 := fun w' (h1 : Ext w w') (h2 : Bl w90.heap.size w90 w') (h3 : w90.heap.size ≤ w'.heap.size) => orderClosure (w := w') (B := w90.heap.size) (hT'.out w' h1) h3 (hV.out w' h2)
    simp only [hex.out.1, isIdealE, enabE, countE, nthE, rankE, heightE, if_neg hex.out.2] at c1
    refine call_k (c1 _ FR FR FR) ?_
    clear c1
    rintro _ u1 m1 t1 ⟨o1, rfl, ho1⟩
    have one1 := ho1.one
    clear ho1
    (repeat' first
    | ((with_reducible refine at_row ?_); refine row1_a fun _ _ _ _ _ _ _ => ?_)
    | with_reducible first | (first | apply alloc_k | apply row_k); intro _ _ _ _ _ _ | (first | apply fork | apply forkp) <;> intro _ | refine forke (fun _ => ?_) fun _ _ => ?_ | refine tail_k fun _ _ _ => ?_ | refine ext_k fun _ _ _ => ?_ | refine need_a ?_ | refine st_agg KR rfl ON fun _ _ _ _ => ?_ | refine wpd_q_a ?_
    | simp (maxDischargeDepth := 3) only [↓X, ↓Y, ↓Q, S1, ↓reduceIte, Nat.reduceEqDiff, Nat.reduceAdd, Int.reduceLT, Int.reduceLE, Int.reduceNeg, Int.reduceBEq, Int.reduceBNe, Int.reduceEq, Nat.reduceLeDiff, Nat.reduceMul, Nat.reduceLT, *, hp]
    | simp (singlePass := true) (maxDischargeDepth := 99) only [*, S2, Nat.reduceLT, hp])
    have c1 := fun w' (h1 : Ext w w') (h2 : Bl w90.heap.size w90 w') (h3 : w90.heap.size ≤ w'.heap.size) => orderReduce (w := w') (B := w90.heap.size) (hT'.out w' h1) h3 (hV.out w' h2)
    simp only [hex.out.1, isIdealE, enabE, countE, nthE, rankE, heightE, if_neg hex.out.2] at c1
    refine call_k (c1 _ FR FR FR) ?_
    clear c1
    rintro _ u2 m2 t2 ⟨o2, rfl, ho2⟩
    have one2 := ho2.one
    clear ho2
    (repeat' first
    | ((with_reducible refine at_row ?_); refine row1_a fun _ _ _ _ _ _ _ => ?_)
    | with_reducible first | (first | apply alloc_k | apply row_k); intro _ _ _ _ _ _ | (first | apply fork | apply forkp) <;> intro _ | refine forke (fun _ => ?_) fun _ _ => ?_ | refine tail_k fun _ _ _ => ?_ | refine ext_k fun _ _ _ => ?_ | refine need_a ?_ | refine st_agg KR rfl ON fun _ _ _ _ => ?_ | refine wpd_q_a ?_
    | simp (maxDischargeDepth := 3) only [↓X, ↓Y, ↓Q, S1, ↓reduceIte, Nat.reduceEqDiff, Nat.reduceAdd, Int.reduceLT, Int.reduceLE, Int.reduceNeg, Int.reduceBEq, Int.reduceBNe, Int.reduceEq, Nat.reduceLeDiff, Nat.reduceMul, Nat.reduceLT, *, hp]
    | simp (singlePass := true) (maxDischargeDepth := 99) only [*, S2, Nat.reduceLT, hp])
    have c1 := fun w' (h1 : Ext w w') (h2 : Bl w90.heap.size w90 w') (h3 : w90.heap.size ≤ w'.heap.size) => orderIsIdeal (w := w') (B := w90.heap.size) (x := -1) (hT'.out w' h1) h3 (hV.out w' h2)
    simp only [hex.out.1, isIdealE, enabE, countE, nthE, rankE, heightE, if_neg hex.out.2] at c1
    refine ret_k (c1 _ FR FR FR) fun u3 m3 t3 => ?_
    clear c1
    (repeat' first
    | ((with_reducible refine at_row ?_); refine row1_a fun _ _ _ _ _ _ _ => ?_)
    | with_reducible first | (first | apply alloc_k | apply row_k); intro _ _ _ _ _ _ | (first | apply fork | apply forkp) <;> intro _ | refine forke (fun _ => ?_) fun _ _ => ?_ | refine tail_k fun _ _ _ => ?_ | refine ext_k fun _ _ _ => ?_ | refine need_a ?_ | refine st_agg KR rfl ON fun _ _ _ _ => ?_ | refine wpd_q_a ?_
    | simp (maxDischargeDepth := 3) only [↓X, ↓Y, ↓Q, S1, ↓reduceIte, Nat.reduceEqDiff, Nat.reduceAdd, Int.reduceLT, Int.reduceLE, Int.reduceNeg, Int.reduceBEq, Int.reduceBNe, Int.reduceEq, Nat.reduceLeDiff, Nat.reduceMul, Nat.reduceLT, *, hp]
    | simp (singlePass := true) (maxDischargeDepth := 99) only [*, S2, Nat.reduceLT, hp])
    have c1 := fun w' (h1 : Ext w w') (h2 : Bl w90.heap.size w90 w') (h3 : w90.heap.size ≤ w'.heap.size) => orderIdeals (w := w') (B := w90.heap.size) (hT'.out w' h1) h3 (hV.out w' h2)
    simp only [hex.out.1, isIdealE, enabE, countE, nthE, rankE, heightE, if_neg hex.out.2] at c1
    refine call_k (c1 _ FR FR FR) ?_
    clear c1
    rintro _ u4 m4 t4 ⟨o4, rfl, ho4⟩
    have one4 := ho4.one
    clear ho4
    (repeat' first
    | ((with_reducible refine at_row ?_); refine row1_a fun _ _ _ _ _ _ _ => ?_)
    | with_reducible first | (first | apply alloc_k | apply row_k); intro _ _ _ _ _ _ | (first | apply fork | apply forkp) <;> intro _ | refine forke (fun _ => ?_) fun _ _ => ?_ | refine tail_k fun _ _ _ => ?_ | refine ext_k fun _ _ _ => ?_ | refine need_a ?_ | refine st_agg KR rfl ON fun _ _ _ _ => ?_ | refine wpd_q_a ?_
    | simp (maxDischargeDepth := 3) only [↓X, ↓Y, ↓Q, S1, ↓reduceIte, Nat.reduceEqDiff, Nat.reduceAdd, Int.reduceLT, Int.reduceLE, Int.reduceNeg, Int.reduceBEq, Int.reduceBNe, Int.reduceEq, Nat.reduceLeDiff, Nat.reduceMul, Nat.reduceLT, *, hp]
    | simp (singlePass := true) (maxDischargeDepth := 99) only [*, S2, Nat.reduceLT, hp])
    have c1 := fun w' (h1 : Ext w w') (h2 : Bl w90.heap.size w90 w') (h3 : w90.heap.size ≤ w'.heap.size) => orderEnabled (w := w') (B := w90.heap.size) (x := -1) (hT'.out w' h1) h3 (hV.out w' h2)
    simp only [hex.out.1, isIdealE, enabE, countE, nthE, rankE, heightE, if_neg hex.out.2] at c1
    refine call_k (c1 _ FR FR FR) ?_
    clear c1
    rintro _ u5 m5 t5 ⟨o5, rfl, ho5⟩
    have one5 := ho5.one
    clear ho5
    (repeat' first
    | ((with_reducible refine at_row ?_); refine row1_a fun _ _ _ _ _ _ _ => ?_)
    | with_reducible first | (first | apply alloc_k | apply row_k); intro _ _ _ _ _ _ | (first | apply fork | apply forkp) <;> intro _ | refine forke (fun _ => ?_) fun _ _ => ?_ | refine tail_k fun _ _ _ => ?_ | refine ext_k fun _ _ _ => ?_ | refine need_a ?_ | refine st_agg KR rfl ON fun _ _ _ _ => ?_ | refine wpd_q_a ?_
    | simp (maxDischargeDepth := 3) only [↓X, ↓Y, ↓Q, S1, ↓reduceIte, Nat.reduceEqDiff, Nat.reduceAdd, Int.reduceLT, Int.reduceLE, Int.reduceNeg, Int.reduceBEq, Int.reduceBNe, Int.reduceEq, Nat.reduceLeDiff, Nat.reduceMul, Nat.reduceLT, *, hp]
    | simp (singlePass := true) (maxDischargeDepth := 99) only [*, S2, Nat.reduceLT, hp])
    have c1 := fun w' (h1 : Ext w w') (h2 : Bl w90.heap.size w90 w') (h3 : w90.heap.size ≤ w'.heap.size) => orderCount (w := w') (B := w90.heap.size) (hT'.out w' h1) h3 (hV.out w' h2)
    simp only [hex.out.1, isIdealE, enabE, countE, nthE, rankE, heightE, if_neg hex.out.2] at c1
    refine ret_k (c1 _ FR FR FR) fun u6 m6 t6 => ?_
    clear c1
    (repeat' first
    | ((with_reducible refine at_row ?_); refine row1_a fun _ _ _ _ _ _ _ => ?_)
    | with_reducible first | (first | apply alloc_k | apply row_k); intro _ _ _ _ _ _ | (first | apply fork | apply forkp) <;> intro _ | refine forke (fun _ => ?_) fun _ _ => ?_ | refine tail_k fun _ _ _ => ?_ | refine ext_k fun _ _ _ => ?_ | refine need_a ?_ | refine st_agg KR rfl ON fun _ _ _ _ => ?_ | refine wpd_q_a ?_
    | simp (maxDischargeDepth := 3) only [↓X, ↓Y, ↓Q, S1, ↓reduceIte, Nat.reduceEqDiff, Nat.reduceAdd, Int.reduceLT, Int.reduceLE, Int.reduceNeg, Int.reduceBEq, Int.reduceBNe, Int.reduceEq, Nat.reduceLeDiff, Nat.reduceMul, Nat.reduceLT, *, hp]
    | simp (singlePass := true) (maxDischargeDepth := 99) only [*, S2, Nat.reduceLT, hp])
    have c1 := fun w' (h1 : Ext w w') (h2 : Bl w90.heap.size w90 w') (h3 : w90.heap.size ≤ w'.heap.size) => orderNth (w := w') (B := w90.heap.size) (x := -1) (by decide) (hT'.out w' h1) h3 (hV.out w' h2)
    simp only [hex.out.1, isIdealE, enabE, countE, nthE, rankE, heightE, if_neg hex.out.2] at c1
    refine call_k (c1 _ FR FR FR) ?_
    clear c1
    rintro _ u7 m7 t7 ⟨o7, rfl, ho7⟩
    have one7 := ho7.one
    clear ho7
    (repeat' first
    | ((with_reducible refine at_row ?_); refine row1_a fun _ _ _ _ _ _ _ => ?_)
    | with_reducible first | (first | apply alloc_k | apply row_k); intro _ _ _ _ _ _ | (first | apply fork | apply forkp) <;> intro _ | refine forke (fun _ => ?_) fun _ _ => ?_ | refine tail_k fun _ _ _ => ?_ | refine ext_k fun _ _ _ => ?_ | refine need_a ?_ | refine st_agg KR rfl ON fun _ _ _ _ => ?_ | refine wpd_q_a ?_
    | simp (maxDischargeDepth := 3) only [↓X, ↓Y, ↓Q, S1, ↓reduceIte, Nat.reduceEqDiff, Nat.reduceAdd, Int.reduceLT, Int.reduceLE, Int.reduceNeg, Int.reduceBEq, Int.reduceBNe, Int.reduceEq, Nat.reduceLeDiff, Nat.reduceMul, Nat.reduceLT, *, hp]
    | simp (singlePass := true) (maxDischargeDepth := 99) only [*, S2, Nat.reduceLT, hp])
    have c1 := fun w' (h1 : Ext w w') (h2 : Bl w90.heap.size w90 w') (h3 : w90.heap.size ≤ w'.heap.size) => orderRank (w := w') (B := w90.heap.size) (lv := .slice none 0 0) (line := []) (hT'.out w' h1) h3 (hV.out w' h2) (Sl.nil w' w90.heap.size none 1)
    simp only [hex.out.1, isIdealE, enabE, countE, nthE, rankE, heightE, if_neg hex.out.2] at c1
    refine ret_k (c1 _ FR FR FR) fun u8 m8 t8 => ?_
    clear c1
    (repeat' first
    | ((with_reducible refine at_row ?_); refine row1_a fun _ _ _ _ _ _ _ => ?_)
    | with_reducible first | (first | apply alloc_k | apply row_k); intro _ _ _ _ _ _ | (first | apply fork | apply forkp) <;> intro _ | refine forke (fun _ => ?_) fun _ _ => ?_ | refine tail_k fun _ _ _ => ?_ | refine ext_k fun _ _ _ => ?_ | refine need_a ?_ | refine st_agg KR rfl ON fun _ _ _ _ => ?_ | refine wpd_q_a ?_
    | simp (maxDischargeDepth := 3) only [↓X, ↓Y, ↓Q, S1, ↓reduceIte, Nat.reduceEqDiff, Nat.reduceAdd, Int.reduceLT, Int.reduceLE, Int.reduceNeg, Int.reduceBEq, Int.reduceBNe, Int.reduceEq, Nat.reduceLeDiff, Nat.reduceMul, Nat.reduceLT, *, hp]
    | simp (singlePass := true) (maxDischargeDepth := 99) only [*, S2, Nat.reduceLT, hp])
    have c1 := fun w' (h1 : Ext w w') (h2 : Bl w90.heap.size w90 w') (h3 : w90.heap.size ≤ w'.heap.size) => orderHeight (w := w') (B := w90.heap.size) (hT'.out w' h1) h3 (hV.out w' h2)
    simp only [hex.out.1, isIdealE, enabE, countE, nthE, rankE, heightE, if_neg hex.out.2] at c1
    refine ret_k (c1 _ FR FR FR) fun u9 m9 t9 => ?_
    clear c1
    (repeat' first
    | ((with_reducible refine at_row ?_); refine row1_a fun _ _ _ _ _ _ _ => ?_)
    | with_reducible first | (first | apply alloc_k | apply row_k); intro _ _ _ _ _ _ | (first | apply fork | apply forkp) <;> intro _ | refine forke (fun _ => ?_) fun _ _ => ?_ | refine tail_k fun _ _ _ => ?_ | refine ext_k fun _ _ _ => ?_ | refine need_a ?_ | refine st_agg KR rfl ON fun _ _ _ _ => ?_ | refine wpd_q_a ?_
    | simp (maxDischargeDepth := 3) only [↓X, ↓Y, ↓Q, S1, ↓reduceIte, Nat.reduceEqDiff, Nat.reduceAdd, Int.reduceLT, Int.reduceLE, Int.reduceNeg, Int.reduceBEq, Int.reduceBNe, Int.reduceEq, Nat.reduceLeDiff, Nat.reduceMul, Nat.reduceLT, *, hp]
    | simp (singlePass := true) (maxDischargeDepth := 99) only [*, S2, Nat.reduceLT, hp])
    have c1 := fun w' (h1 : Ext w w') (h2 : Bl w90.heap.size w90 w') (h3 : w90.heap.size ≤ w'.heap.size) => orderWidth (w := w') (B := w90.heap.size) (hT'.out w' h1) h3 (hV.out w' h2) (fun h => absurd (hex.out.1.symm.trans h) hex.out.2)
    simp only [hex.out.1, isIdealE, enabE, countE, nthE, rankE, heightE, if_neg hex.out.2] at c1
    refine ret_k (c1 _ FR FR FR) fun u10 m10 t10 => ?_
    clear c1
    (repeat' first
    | ((with_reducible refine at_row ?_); refine row1_a fun _ _ _ _ _ _ _ => ?_)
    | with_reducible first | (first | apply alloc_k | apply row_k); intro _ _ _ _ _ _ | (first | apply fork | apply forkp) <;> intro _ | refine forke (fun _ => ?_) fun _ _ => ?_ | refine tail_k fun _ _ _ => ?_ | refine ext_k fun _ _ _ => ?_ | refine need_a ?_ | refine st_agg KR rfl ON fun _ _ _ _ => ?_ | refine wpd_q_a ?_
    | simp (maxDischargeDepth := 3) only [↓X, ↓Y, ↓Q, S1, ↓reduceIte, Nat.reduceEqDiff, Nat.reduceAdd, Int.reduceLT, Int.reduceLE, Int.reduceNeg, Int.reduceBEq, Int.reduceBNe, Int.reduceEq, Nat.reduceLeDiff, Nat.reduceMul, Nat.reduceLT, *, hp]
    | simp (singlePass := true) (maxDischargeDepth := 99) only [*, S2, Nat.reduceLT, hp])
    have c1 := fun w' (h1 : Ext w w') (h2 : Bl w90.heap.size w90 w') (h3 : w90.heap.size ≤ w'.heap.size) => orderChains (w := w') (B := w90.heap.size) (hT'.out w' h1) h3 (hV.out w' h2) (fun h => absurd (hex.out.1.symm.trans h) hex.out.2)
    simp only [hex.out.1, isIdealE, enabE, countE, nthE, rankE, heightE, if_neg hex.out.2] at c1
    refine call_k (c1 _ FR FR FR) ?_
    clear c1
    rintro _ u11 m11 t11 ⟨o11, rfl, ho11⟩
    have one11 := ho11.one
    clear ho11
    (repeat' first
    | ((with_reducible refine at_row ?_); refine row1_a fun _ _ _ _ _ _ _ => ?_)
    | with_reducible first | (first | apply alloc_k | apply row_k); intro _ _ _ _ _ _ | (first | apply fork | apply forkp) <;> intro _ | refine forke (fun _ => ?_) fun _ _ => ?_ | refine tail_k fun _ _ _ => ?_ | refine ext_k fun _ _ _ => ?_ | refine need_a ?_ | refine st_agg KR rfl ON fun _ _ _ _ => ?_ | refine wpd_q_a ?_
    | simp (maxDischargeDepth := 3) only [↓X, ↓Y, ↓Q, S1, ↓reduceIte, Nat.reduceEqDiff, Nat.reduceAdd, Int.reduceLT, Int.reduceLE, Int.reduceNeg, Int.reduceBEq, Int.reduceBNe, Int.reduceEq, Nat.reduceLeDiff, Nat.reduceMul, Nat.reduceLT, *, hp]
    | simp (singlePass := true) (maxDischargeDepth := 99) only [*, S2, Nat.reduceLT, hp])
    have c1 := fun w' (h1 : Ext w w') (h2 : Bl w90.heap.size w90 w') (h3 : w90.heap.size ≤ w'.heap.size) => orderValid (w := w') (B := w90.heap.size) (hT'.out w' h1) h3 (hV.out w' h2)
    simp only [hex.out.1, isIdealE, enabE, countE, nthE, rankE, heightE, if_neg hex.out.2] at c1
    refine ret_k (c1 _ FR FR FR) fun u12 m12 t12 => ?_
    clear c1
    (repeat' first
    | ((with_reducible refine at_row ?_); refine row1_a fun _ _ _ _ _ _ _ => ?_)
    | with_reducible first | (first | apply alloc_k | apply row_k); intro _ _ _ _ _ _ | (first | apply fork | apply forkp) <;> intro _ | refine forke (fun _ => ?_) fun _ _ => ?_ | refine tail_k fun _ _ _ => ?_ | refine ext_k fun _ _ _ => ?_ | refine need_a ?_ | refine st_agg KR rfl ON fun _ _ _ _ => ?_ | refine wpd_q_a ?_
    | simp (maxDischargeDepth := 3) only [↓X, ↓Y, ↓Q, S1, ↓reduceIte, Nat.reduceEqDiff, Nat.reduceAdd, Int.reduceLT, Int.reduceLE, Int.reduceNeg, Int.reduceBEq, Int.reduceBNe, Int.reduceEq, Nat.reduceLeDiff, Nat.reduceMul, Nat.reduceLT, *, hp]
    | simp (singlePass := true) (maxDischargeDepth := 99) only [*, S2, Nat.reduceLT, hp])
    rename_i br wr nr kr sr qr lr
    have hR : Sl wr wr.heap.size none 1 (.slice (some ⟨br, 0, none⟩) 12 12) ((List.replicate 12 e).map intV) := row_sl (kr.2.1 _ FR) rfl (by simp)
    have KW := hR.k (Nat.le_refl _)
    have hrl : (List.replicate 12 e).length = 12 := by simp
    generalize hrw : Value.slice (some ⟨br, 0, none⟩) 12 12 = rowr at *
    clear hR lr kr
    (repeat' first
    | ((with_reducible refine at_row ?_); refine row1_a fun _ _ _ _ _ _ _ => ?_)
    | with_reducible first | (first | apply alloc_k | apply row_k); intro _ _ _ _ _ _ | (first | apply fork | apply forkp) <;> intro _ | refine forke (fun _ => ?_) fun _ _ => ?_ | refine tail_k fun _ _ _ => ?_ | refine ext_k fun _ _ _ => ?_ | refine need_a ?_ | refine st_agg KR rfl ON fun _ _ _ _ => ?_ | refine wpd_q_a ?_
    | simp (maxDischargeDepth := 3) only [↓X, ↓Y, ↓Q, S1, ↓reduceIte, Nat.reduceEqDiff, Nat.reduceAdd, Int.reduceLT, Int.reduceLE, Int.reduceNeg, Int.reduceBEq, Int.reduceBNe, Int.reduceEq, Nat.reduceLeDiff, Nat.reduceMul, Nat.reduceLT, *, hp]
    | simp (singlePass := true) (maxDischargeDepth := 99) only [*, S2, Nat.reduceLT, hp])
    refine loop_k 12 (fun g0 j g _ => g 178 = .int .i64 j ∧ (g 2 = g0 2 ∧ g 90 = g0 90 ∧ g 91 = g0 91 ∧ g 92 = g0 92 ∧ g 176 = g0 176 ∧ g 177 = g0 177)) KR (by decide) ?_ ?_ ?_
    · (repeat' first
    | ((with_reducible refine at_row ?_); refine row1_a fun _ _ _ _ _ _ _ => ?_)
    | with_reducible first | (first | apply alloc_k | apply row_k); intro _ _ _ _ _ _ | (first | apply fork | apply forkp) <;> intro _ | refine forke (fun _ => ?_) fun _ _ => ?_ | refine tail_k fun _ _ _ => ?_ | refine ext_k fun _ _ _ => ?_ | refine need_a ?_ | refine st_agg KR rfl ON fun _ _ _ _ => ?_ | refine wpd_q_a ?_
    | simp (maxDischargeDepth := 3) only [↓X, ↓Y, ↓Q, S1, ↓reduceIte, Nat.reduceEqDiff, Nat.reduceAdd, Int.reduceLT, Int.reduceLE, Int.reduceNeg, Int.reduceBEq, Int.reduceBNe, Int.reduceEq, Nat.reduceLeDiff, Nat.reduceMul, Nat.reduceLT, *]
    | simp (singlePass := true) (maxDischargeDepth := 99) only [*, S2, Nat.reduceLT])
    · rintro j m2 g2 w2 hk2 hlt2 n2 s2 b2 hw2 ⟨hi2, hf2⟩
      simp (maxDischargeDepth := 3) only [U, ↓reduceIte, Nat.reduceEqDiff, *] at hf2
      have hlt3 : j < (List.replicate 12 e).length := by omega
      have hgr : (List.replicate 12 e)[j] = e := List.getElem_replicate _
      have hjI : ((j : Int) < 12) := by omega
      (repeat' first
    | ((with_reducible refine at_row ?_); refine row1_a fun _ _ _ _ _ _ _ => ?_)
    | with_reducible first | (first | apply alloc_k | apply row_k); intro _ _ _ _ _ _ | (first | apply fork | apply forkp) <;> intro _ | refine forke (fun _ => ?_) fun _ _ => ?_ | refine tail_k fun _ _ _ => ?_ | refine ext_k fun _ _ _ => ?_ | refine need_a ?_ | refine st_agg KR rfl ON fun _ _ _ _ => ?_ | refine wpd_q_a ?_
    | simp (maxDischargeDepth := 3) only [↓X, ↓Y, ↓Q, S1, ↓reduceIte, Nat.reduceEqDiff, Nat.reduceAdd, Int.reduceLT, Int.reduceLE, Int.reduceNeg, Int.reduceBEq, Int.reduceBNe, Int.reduceEq, Nat.reduceLeDiff, Nat.reduceMul, Nat.reduceLT, *, hgr]
    | simp (singlePass := true) (maxDischargeDepth := 99) only [*, S2, Nat.reduceLT, hgr])
      refine next_k hk2 hlt2 ?_ FR
      (repeat' first
    | ((with_reducible refine at_row ?_); refine row1_a fun _ _ _ _ _ _ _ => ?_)
    | with_reducible first | (first | apply alloc_k | apply row_k); intro _ _ _ _ _ _ | (first | apply fork | apply forkp) <;> intro _ | refine forke (fun _ => ?_) fun _ _ => ?_ | refine tail_k fun _ _ _ => ?_ | refine ext_k fun _ _ _ => ?_ | refine need_a ?_ | refine st_agg KR rfl ON fun _ _ _ _ => ?_ | refine wpd_q_a ?_
    | simp (maxDischargeDepth := 3) only [↓X, ↓Y, ↓Q, S1, ↓reduceIte, Nat.reduceEqDiff, Nat.reduceAdd, Int.reduceLT, Int.reduceLE, Int.reduceNeg, Int.reduceBEq, Int.reduceBNe, Int.reduceEq, Nat.reduceLeDiff, Nat.reduceMul, Nat.reduceLT, *]
    | simp (singlePass := true) (maxDischargeDepth := 99) only [*, S2, Nat.reduceLT])
    · rintro g2 w2 n2 s2 b2 ⟨hi2, hf2⟩
      simp (maxDischargeDepth := 3) only [U, ↓reduceIte, Nat.reduceEqDiff, *] at hf2
      have e12 : ¬ (((12 : Nat) : Int) < 12) := by omega
      (repeat' first
    | ((with_reducible refine at_row ?_); refine row1_a fun _ _ _ _ _ _ _ => ?_)
    | with_reducible first | (first | apply alloc_k | apply row_k); intro _ _ _ _ _ _ | (first | apply fork | apply forkp) <;> intro _ | refine forke (fun _ => ?_) fun _ _ => ?_ | refine tail_k fun _ _ _ => ?_ | refine ext_k fun _ _ _ => ?_ | refine need_a ?_ | refine st_agg KR rfl ON fun _ _ _ _ => ?_ | refine wpd_q_a ?_
    | simp (maxDischargeDepth := 3) only [↓X, ↓Y, ↓Q, S1, ↓reduceIte, Nat.reduceEqDiff, Nat.reduceAdd, Int.reduceLT, Int.reduceLE, Int.reduceNeg, Int.reduceBEq, Int.reduceBNe, Int.reduceEq, Nat.reduceLeDiff, Nat.reduceMul, Nat.reduceLT, *]
    | simp (singlePass := true) (maxDischargeDepth := 99) only [*, S2, Nat.reduceLT])
      refine next_k hk hlt ?_ FR
      (repeat' first
    | ((with_reducible refine at_row ?_); refine row1_a fun _ _ _ _ _ _ _ => ?_)
    | with_reducible first | (first | apply alloc_k | apply row_k); intro _ _ _ _ _ _ | (first | apply fork | apply forkp) <;> intro _ | refine forke (fun _ => ?_) fun _ _ => ?_ | refine tail_k fun _ _ _ => ?_ | refine ext_k fun _ _ _ => ?_ | refine need_a ?_ | refine st_agg KR rfl ON fun _ _ _ _ => ?_ | refine wpd_q_a ?_
    | simp (maxDischargeDepth := 3) only [↓X, ↓Y, ↓Q, S1, ↓reduceIte, Nat.reduceEqDiff, Nat.reduceAdd, Int.reduceLT, Int.reduceLE, Int.reduceNeg, Int.reduceBEq, Int.reduceBNe, Int.reduceEq, Nat.reduceLeDiff, Nat.reduceMul, Nat.reduceLT, *]
    | simp (singlePass := true) (maxDischargeDepth := 99) only [*, S2, Nat.reduceLT])
  · rintro g wk nk sk bk ⟨hi, hf⟩
    simp (maxDischargeDepth := 3) only [U, ↓reduceIte, Nat.reduceEqDiff, *] at hf
    have e8 : ¬ (((8 : Nat) : Int) < 8) := by omega
    clear KS hC' b90' hLl
    (repeat' first
    | ((with_reducible refine at_row ?_); refine row1_a fun _ _ _ _ _ _ _ => ?_)
    | with_reducible first | (first | apply alloc_k | apply row_k); intro _ _ _ _ _ _ | (first | apply fork | apply forkp) <;> intro _ | refine forke (fun _ => ?_) fun _ _ => ?_ | refine tail_k fun _ _ _ => ?_ | refine ext_k fun _ _ _ => ?_ | refine need_a ?_ | refine st_agg KR rfl ON fun _ _ _ _ => ?_ | refine wpd_q_a ?_
    | simp (maxDischargeDepth := 3) only [↓X, ↓Y, ↓Q, S1, ↓reduceIte, Nat.reduceEqDiff, Nat.reduceAdd, Int.reduceLT, Int.reduceLE, Int.reduceNeg, Int.reduceBEq, Int.reduceBNe, Int.reduceEq, Nat.reduceLeDiff, Nat.reduceMul, Nat.reduceLT, *]
    | simp (singlePass := true) (maxDischargeDepth := 99) only [*, S2, Nat.reduceLT])
    refine call_k law10sample ?_
    rintro v w1 n1 s1 ⟨vs, hsm⟩
    have hV1 := fun w' (h : Bl w1.heap.size w1 w') => hsm.blz h
    replace hV1 : Hid _ := hV1
    have b1 : Bl w1.heap.size w1 w1 := Bl.refl (Nat.le_refl _)
    have one1 := hsm.v.one
    clear hsm
    (repeat' first
    | ((with_reducible refine at_row ?_); refine row1_a fun _ _ _ _ _ _ _ => ?_)
    | with_reducible first | (first | apply alloc_k | apply row_k); intro _ _ _ _ _ _ | (first | apply fork | apply forkp) <;> intro _ | refine forke (fun _ => ?_) fun _ _ => ?_ | refine tail_k fun _ _ _ => ?_ | refine ext_k fun _ _ _ => ?_ | refine need_a ?_ | refine st_agg KR rfl ON fun _ _ _ _ => ?_ | refine wpd_q_a ?_
    | simp (maxDischargeDepth := 3) only [↓X, ↓Y, ↓Q, S1, ↓reduceIte, Nat.reduceEqDiff, Nat.reduceAdd, Int.reduceLT, Int.reduceLE, Int.reduceNeg, Int.reduceBEq, Int.reduceBNe, Int.reduceEq, Nat.reduceLeDiff, Nat.reduceMul, Nat.reduceLT, *]
    | simp (singlePass := true) (maxDischargeDepth := 99) only [*, S2, Nat.reduceLT])
    rename_i b2 w2 n2 k2 s2 q2 l2
    have hR2 : Sl w2 w2.heap.size none 1 (.slice (some ⟨b2, 0, none⟩) 2 2) (([-1, 16] : List Int).map intV) := row_sl (k2.2.1 _ FR) rfl (by simp)
    obtain ⟨L2, hL2⟩ : ∃ L2 : List Int, L2 = [-1, 16] := ⟨_, rfl⟩
    rw [← hL2] at hR2
    have K2 := hR2.k (Nat.le_refl _)
    have hl2 : L2.length = 2 := by rw [hL2]; rfl
    have hx2 : Hid (∀ k (h : k < L2.length), L2[k] = -1 ∨ L2[k] = 16) := by
      subst hL2
      intro k hk
      match k, hk with
      | 0, _ => exact .inl rfl
      | 1, _ => exact .inr rfl
      | k + 2, h => exact absurd h (by simp)
    generalize Value.slice (some ⟨b2, 0, none⟩) 2 2 = row2 at *
    clear hR2 hL2 k2 l2
    (repeat' first
    | ((with_reducible refine at_row ?_); refine row1_a fun _ _ _ _ _ _ _ => ?_)
    | with_reducible first | (first | apply alloc_k | apply row_k); intro _ _ _ _ _ _ | (first | apply fork | apply forkp) <;> intro _ | refine forke (fun _ => ?_) fun _ _ => ?_ | refine tail_k fun _ _ _ => ?_ | refine ext_k fun _ _ _ => ?_ | refine need_a ?_ | refine st_agg KR rfl ON fun _ _ _ _ => ?_ | refine wpd_q_a ?_
    | simp (maxDischargeDepth := 3) only [↓X, ↓Y, ↓Q, S1, ↓reduceIte, Nat.reduceEqDiff, Nat.reduceAdd, Int.reduceLT, Int.reduceLE, Int.reduceNeg, Int.reduceBEq, Int.reduceBNe, Int.reduceEq, Nat.reduceLeDiff, Nat.reduceMul, Nat.reduceLT, *]
    | simp (singlePass := true) (maxDischargeDepth := 99) only [*, S2, Nat.reduceLT])
    refine loop_k 2 (fun g0 k g _ => g 191 = .int .i64 k ∧ (g 27 = g0 27 ∧ g 189 = g0 189 ∧ g 190 = g0 190)) KR (by decide) ?_ ?_ ?_
    · (repeat' first
    | ((with_reducible refine at_row ?_); refine row1_a fun _ _ _ _ _ _ _ => ?_)
    | with_reducible first | (first | apply alloc_k | apply row_k); intro _ _ _ _ _ _ | (first | apply fork | apply forkp) <;> intro _ | refine forke (fun _ => ?_) fun _ _ => ?_ | refine tail_k fun _ _ _ => ?_ | refine ext_k fun _ _ _ => ?_ | refine need_a ?_ | refine st_agg KR rfl ON fun _ _ _ _ => ?_ | refine wpd_q_a ?_
    | simp (maxDischargeDepth := 3) only [↓X, ↓Y, ↓Q, S1, ↓reduceIte, Nat.reduceEqDiff, Nat.reduceAdd, Int.reduceLT, Int.reduceLE, Int.reduceNeg, Int.reduceBEq, Int.reduceBNe, Int.reduceEq, Nat.reduceLeDiff, Nat.reduceMul, Nat.reduceLT, *]
    | simp (singlePass := true) (maxDischargeDepth := 99) only [*, S2, Nat.reduceLT])
    · rintro j m3 g3 w3 hk3 hlt3 n3 s3 b3 hw3 ⟨hi3, hf3⟩
      simp (maxDischargeDepth := 3) only [U, ↓reduceIte, Nat.reduceEqDiff, *] at hf3
      have hltL : j < L2.length := by omega
      have hxx := hx2.out j hltL
      have hjI : ((j : Int) < 2) := by omega
      generalize hxe : L2[j] = x at *
      have hii : (isIdealE 0 smpA.length smpD x).2 = 2 ∧ (enabE 0 smpA.length smpD x).2 = 2 := by
        obtain ⟨i1, i2, i3, i4⟩ := smp_ism
        rcases hxx with rfl | rfl
        · exact ⟨i1, i3⟩
        · exact ⟨i2, i4⟩
      replace hii : Hid _ := hii
      clear hxx
      (repeat' first
    | ((with_reducible refine at_row ?_); refine row1_a fun _ _ _ _ _ _ _ => ?_)
    | with_reducible first | (first | apply alloc_k | apply row_k); intro _ _ _ _ _ _ | (first | apply fork | apply forkp) <;> intro _ | refine forke (fun _ => ?_) fun _ _ => ?_ | refine tail_k fun _ _ _ => ?_ | refine ext_k fun _ _ _ => ?_ | refine need_a ?_ | refine st_agg KR rfl ON fun _ _ _ _ => ?_ | refine wpd_q_a ?_
    | simp (maxDischargeDepth := 3) only [↓X, ↓Y, ↓Q, S1, ↓reduceIte, Nat.reduceEqDiff, Nat.reduceAdd, Int.reduceLT, Int.reduceLE, Int.reduceNeg, Int.reduceBEq, Int.reduceBNe, Int.reduceEq, Nat.reduceLeDiff, Nat.reduceMul, Nat.reduceLT, *, hxe]
    | simp (singlePass := true) (maxDischargeDepth := 99) only [*, S2, Nat.reduceLT, hxe])
      have c1 := fun w' (h1 : Ext w w') (h2 : Bl w1.heap.size w1 w') (h3 : w1.heap.size ≤ w'.heap.size) => orderIsIdeal (w := w') (B := w1.heap.size) (x := x) (hT'.out w' h1) h3 (hV1.out w' h2)
      simp only [smp_of, hii.out.1] at c1
      refine ret_k (c1 _ FR FR FR) fun u1 m1 t1 => ?_
      clear c1
      generalize (isIdealE 0 smpA.length smpD x).1 = ib at *
      (repeat' first
    | ((with_reducible refine at_row ?_); refine row1_a fun _ _ _ _ _ _ _ => ?_)
    | with_reducible first | (first | apply alloc_k | apply row_k); intro _ _ _ _ _ _ | (first | apply fork | apply forkp) <;> intro _ | refine forke (fun _ => ?_) fun _ _ => ?_ | refine tail_k fun _ _ _ => ?_ | refine ext_k fun _ _ _ => ?_ | refine need_a ?_ | refine st_agg KR rfl ON fun _ _ _ _ => ?_ | refine wpd_q_a ?_
    | simp (maxDischargeDepth := 3) only [↓X, ↓Y, ↓Q, S1, ↓reduceIte, Nat.reduceEqDiff, Nat.reduceAdd, Int.reduceLT, Int.reduceLE, Int.reduceNeg, Int.reduceBEq, Int.reduceBNe, Int.reduceEq, Nat.reduceLeDiff, Nat.reduceMul, Nat.reduceLT, *, hxe]
    | simp (singlePass := true) (maxDischargeDepth := 99) only [*, S2, Nat.reduceLT, hxe])
      have c1 := fun w' (h1 : Ext w w') (h2 : Bl w1.heap.size w1 w') (h3 : w1.heap.size ≤ w'.heap.size) => orderEnabled (w := w') (B := w1.heap.size) (x := x) (hT'.out w' h1) h3 (hV1.out w' h2)
      simp only [smp_of, hii.out.2] at c1
      refine call_k (c1 _ FR FR FR) ?_
      clear c1
      rintro _ u2 m2 t2 ⟨o2, rfl, ho2⟩
      have one2 := ho2.one
      clear ho2
      (repeat' first
    | ((with_reducible refine at_row ?_); refine row1_a fun _ _ _ _ _ _ _ => ?_)
    | with_reducible first | (first | apply alloc_k | apply row_k); intro _ _ _ _ _ _ | (first | apply fork | apply forkp) <;> intro _ | refine forke (fun _ => ?_) fun _ _ => ?_ | refine tail_k fun _ _ _ => ?_ | refine ext_k fun _ _ _ => ?_ | refine need_a ?_ | refine st_agg KR rfl ON fun _ _ _ _ => ?_ | refine wpd_q_a ?_
    | simp (maxDischargeDepth := 3) only [↓X, ↓Y, ↓Q, S1, ↓reduceIte, Nat.reduceEqDiff, Nat.reduceAdd, Int.reduceLT, Int.reduceLE, Int.reduceNeg, Int.reduceBEq, Int.reduceBNe, Int.reduceEq, Nat.reduceLeDiff, Nat.reduceMul, Nat.reduceLT, *, hxe]
    | simp (singlePass := true) (maxDischargeDepth := 99) only [*, S2, Nat.reduceLT, hxe])
      refine next_k hk3 hlt3 ?_ FR
      (repeat' first
    | ((with_reducible refine at_row ?_); refine row1_a fun _ _ _ _ _ _ _ => ?_)
    | with_reducible first | (first | apply alloc_k | apply row_k); intro _ _ _ _ _ _ | (first | apply fork | apply forkp) <;> intro _ | refine forke (fun _ => ?_) fun _ _ => ?_ | refine tail_k fun _ _ _ => ?_ | refine ext_k fun _ _ _ => ?_ | refine need_a ?_ | refine st_agg KR rfl ON fun _ _ _ _ => ?_ | refine wpd_q_a ?_
    | simp (maxDischargeDepth := 3) only [↓X, ↓Y, ↓Q, S1, ↓reduceIte, Nat.reduceEqDiff, Nat.reduceAdd, Int.reduceLT, Int.reduceLE, Int.reduceNeg, Int.reduceBEq, Int.reduceBNe, Int.reduceEq, Nat.reduceLeDiff, Nat.reduceMul, Nat.reduceLT, *]
    | simp (singlePass := true) (maxDischargeDepth := 99) only [*, S2, Nat.reduceLT])
    · rintro g3 w3 n3 s3 b3 ⟨hi3, hf3⟩
      simp (maxDischargeDepth := 3) only [U, ↓reduceIte, Nat.reduceEqDiff, *] at hf3
      have e2 : ¬ (((2 : Nat) : Int) < 2) := by omega
      clear K2 hx2 hl2 b3
      (repeat' first
    | ((with_reducible refine at_row ?_); refine row1_a fun _ _ _ _ _ _ _ => ?_)
    | with_reducible first | (first | apply alloc_k | apply row_k); intro _ _ _ _ _ _ | (first | apply fork | apply forkp) <;> intro _ | refine forke (fun _ => ?_) fun _ _ => ?_ | refine tail_k fun _ _ _ => ?_ | refine ext_k fun _ _ _ => ?_ | refine need_a ?_ | refine st_agg KR rfl ON fun _ _ _ _ => ?_ | refine wpd_q_a ?_
    | simp (maxDischargeDepth := 3) only [↓X, ↓Y, ↓Q, S1, ↓reduceIte, Nat.reduceEqDiff, Nat.reduceAdd, Int.reduceLT, Int.reduceLE, Int.reduceNeg, Int.reduceBEq, Int.reduceBNe, Int.reduceEq, Nat.reduceLeDiff, Nat.reduceMul, Nat.reduceLT, *]
    | simp (singlePass := true) (maxDischargeDepth := 99) only [*, S2, Nat.reduceLT])
      have c1 := fun w' (h1 : Ext w w') (h2 : Bl w1.heap.size w1 w') (h3 : w1.heap.size ≤ w'.heap.size) => orderIsIdeal (w := w') (B := w1.heap.size) (x := 4) (hT'.out w' h1) h3 (hV1.out w' h2)
      simp only [smp_of, smp_is4] at c1
      refine ret_k (c1 _ FR FR FR) fun u1 m1 t1 => ?_
      clear c1
      (repeat' first
    | ((with_reducible refine at_row ?_); refine row1_a fun _ _ _ _ _ _ _ => ?_)
    | with_reducible first | (first | apply alloc_k | apply row_k); intro _ _ _ _ _ _ | (first | apply fork | apply forkp) <;> intro _ | refine forke (fun _ => ?_) fun _ _ => ?_ | refine tail_k fun _ _ _ => ?_ | refine ext_k fun _ _ _ => ?_ | refine need_a ?_ | refine st_agg KR rfl ON fun _ _ _ _ => ?_ | refine wpd_q_a ?_
    | simp (maxDischargeDepth := 3) only [↓X, ↓Y, ↓Q, S1, ↓reduceIte, Nat.reduceEqDiff, Nat.reduceAdd, Int.reduceLT, Int.reduceLE, Int.reduceNeg, Int.reduceBEq, Int.reduceBNe, Int.reduceEq, Nat.reduceLeDiff, Nat.reduceMul, Nat.reduceLT, *]
    | simp (singlePass := true) (maxDischargeDepth := 99) only [*, S2, Nat.reduceLT])
      have c1 := fun w' (h1 : Ext w w') (h2 : Bl w1.heap.size w1 w') (h3 : w1.heap.size ≤ w'.heap.size) => orderEnabled (w := w') (B := w1.heap.size) (x := 4) (hT'.out w' h1) h3 (hV1.out w' h2)
      simp only [smp_of, smp_en4] at c1
      refine call_k (c1 _ FR FR FR) ?_
      clear c1
      rintro _ u2 m2 t2 ⟨o2, rfl, ho2⟩
      have one2 := ho2.one
      clear ho2
      (repeat' first
    | ((with_reducible refine at_row ?_); refine row1_a fun _ _ _ _ _ _ _ => ?_)
    | with_reducible first | (first | apply alloc_k | apply row_k); intro _ _ _ _ _ _ | (first | apply fork | apply forkp) <;> intro _ | refine forke (fun _ => ?_) fun _ _ => ?_ | refine tail_k fun _ _ _ => ?_ | refine ext_k fun _ _ _ => ?_ | refine need_a ?_ | refine st_agg KR rfl ON fun _ _ _ _ => ?_ | refine wpd_q_a ?_
    | simp (maxDischargeDepth := 3) only [↓X, ↓Y, ↓Q, S1, ↓reduceIte, Nat.reduceEqDiff, Nat.reduceAdd, Int.reduceLT, Int.reduceLE, Int.reduceNeg, Int.reduceBEq, Int.reduceBNe, Int.reduceEq, Nat.reduceLeDiff, Nat.reduceMul, Nat.reduceLT, *]
    | simp (singlePass := true) (maxDischargeDepth := 99) only [*, S2, Nat.reduceLT])
      have c1 := fun w' (h1 : Ext w w') (h2 : Bl w1.heap.size w1 w') (h3 : w1.heap.size ≤ w'.heap.size) => orderNth (w := w') (B := w1.heap.size) (x := 2) (by decide) (hT'.out w' h1) h3 (hV1.out w' h2)
      simp only [smp_of, smp_nth2] at c1
      refine call_k (c1 _ FR FR FR) ?_
      clear c1
      rintro _ u3 m3 t3 ⟨o3, rfl, ho3⟩
      have one3 := ho3.one
      clear ho3
      (repeat' first
    | ((with_reducible refine at_row ?_); refine row1_a fun _ _ _ _ _ _ _ => ?_)
    | with_reducible first | (first | apply alloc_k | apply row_k); intro _ _ _ _ _ _ | (first | apply fork | apply forkp) <;> intro _ | refine forke (fun _ => ?_) fun _ _ => ?_ | refine tail_k fun _ _ _ => ?_ | refine ext_k fun _ _ _ => ?_ | refine need_a ?_ | refine st_agg KR rfl ON fun _ _ _ _ => ?_ | refine wpd_q_a ?_
    | simp (maxDischargeDepth := 3) only [↓X, ↓Y, ↓Q, S1, ↓reduceIte, Nat.reduceEqDiff, Nat.reduceAdd, Int.reduceLT, Int.reduceLE, Int.reduceNeg, Int.reduceBEq, Int.reduceBNe, Int.reduceEq, Nat.reduceLeDiff, Nat.reduceMul, Nat.reduceLT, *]
    | simp (singlePass := true) (maxDischargeDepth := 99) only [*, S2, Nat.reduceLT])
      have c1 := fun w' (h1 : Ext w w') (h2 : Bl w1.heap.size w1 w') (h3 : w1.heap.size ≤ w'.heap.size) => orderNth (w := w') (B := w1.heap.size) (x := -1) (by decide) (hT'.out w' h1) h3 (hV1.out w' h2)
      simp only [smp_of, smp_nth2] at c1
      refine call_k (c1 _ FR FR FR) ?_
      clear c1
      rintro _ u4 m4 t4 ⟨o4, rfl, ho4⟩
      have one4 := ho4.one
      clear ho4
      (repeat' first
    | ((with_reducible refine at_row ?_); refine row1_a fun _ _ _ _ _ _ _ => ?_)
    | with_reducible first | (first | apply alloc_k | apply row_k); intro _ _ _ _ _ _ | (first | apply fork | apply forkp) <;> intro _ | refine forke (fun _ => ?_) fun _ _ => ?_ | refine tail_k fun _ _ _ => ?_ | refine ext_k fun _ _ _ => ?_ | refine need_a ?_ | refine st_agg KR rfl ON fun _ _ _ _ => ?_ | refine wpd_q_a ?_
    | simp (maxDischargeDepth := 3) only [↓X, ↓Y, ↓Q, S1, ↓reduceIte, Nat.reduceEqDiff, Nat.reduceAdd, Int.reduceLT, Int.reduceLE, Int.reduceNeg, Int.reduceBEq, Int.reduceBNe, Int.reduceEq, Nat.reduceLeDiff, Nat.reduceMul, Nat.reduceLT, *]
    | simp (singlePass := true) (maxDischargeDepth := 99) only [*, S2, Nat.reduceLT])
      rename_i b251 w251 n251 k251 s251 q251 l251 b252 w252 n252 k252 s252 q252 l252 b253 w253 n253 k253 s253 q253 l253 b254 w254 n254 k254 s254 q254 l254 b255 w255 n255 k255 s255 q255 l255 b256 w256 n256 k256 s256 q256 l256 b257 w257 n257 k257 s257 q257 l257
      have r251 : Sl w257 w257.heap.size none 1 (.slice (some ⟨b251, 0, none⟩) 4 4) (([0, 2, 1, 3] : List Int).map intV) := row_sl (k251.2.1 _ FR) rfl (by simp)
      have r252 : Sl w257 w257.heap.size none 1 (.slice (some ⟨b252, 0, none⟩) 3 3) (([0, 1, 2] : List Int).map intV) := row_sl (k252.2.1 _ FR) rfl (by simp)
      have r253 : Sl w257 w257.heap.size none 1 (.slice (some ⟨b253, 0, none⟩) 5 5) (([0, 1, 2, 3, 3] : List Int).map intV) := row_sl (k253.2.1 _ FR) rfl (by simp)
      have r254 : Sl w257 w257.heap.size none 1 (.slice (some ⟨b254, 0, none⟩) 4 4) (([0, 0, 2, 3] : List Int).map intV) := row_sl (k254.2.1 _ FR) rfl (by simp)
      have r255 : Sl w257 w257.heap.size none 1 (.slice (some ⟨b255, 0, none⟩) 4 4) (([0, 1, 2, 4] : List Int).map intV) := row_sl (k255.2.1 _ FR) rfl (by simp)
      have r256 : Sl w257 w257.heap.size none 1 (.slice (some ⟨b256, 0, none⟩) 4 4) (([-1, 1, 2, 3] : List Int).map intV) := row_sl (k256.2.1 _ FR) rfl (by simp)
      have c257 : LLR w257 w257.heap.size (.slice (some ⟨b257, 0, none⟩) 7 7) [.slice (some ⟨b251, 0, none⟩) 4 4, .slice (some ⟨b252, 0, none⟩) 3 3, .slice (some ⟨b253, 0, none⟩) 5 5, .slice (some ⟨b254, 0, none⟩) 4 4, .slice (some ⟨b255, 0, none⟩) 4 4, .slice (some ⟨b256, 0, none⟩) 4 4, .slice none 0 0] ranks10 := llr_lit (k257.2.1 _ FR) rfl rfl (by simp) fun i hi hj => by
        match i, hi, hj with
        | 0, _, _ => exact r251
        | 1, _, _ => exact r252
        | 2, _, _ => exact r253
        | 3, _, _ => exact r254
        | 4, _, _ => exact r255
        | 5, _, _ => exact r256
        | 6, _, _ => exact Sl.nil _ _ _ _
        | i + 7, h, _ => exact absurd h (by simp)
      have hg := fun w' (h : Bl w257.heap.size w257 w') (k : Nat) (hk : k < ranks10.length) => (c257.blz h).get hk
      replace hg : Hid _ := hg
      have b257' : Bl w257.heap.size w257 w257 := Bl.refl (Nat.le_refl _)
      have hl7 : ranks10.length = 7 := rfl
      have hlen7 := c257.len_
      rw [hl7] at hlen7
      generalize Value.slice (some ⟨b257, 0, none⟩) 7 7 = row7 at *
      clear c257 r251 r252 r253 r254 r255 r256 k251 q251 l251 k252 q252 l252 k253 q253 l253 k254 q254 l254 k255 q255 l255 k256 q256 l256 k257 q257 l257
      (repeat' first
    | ((with_reducible refine at_row ?_); refine row1_a fun _ _ _ _ _ _ _ => ?_)
    | with_reducible first | (first | apply alloc_k | apply row_k); intro _ _ _ _ _ _ | (first | apply fork | apply forkp) <;> intro _ | refine forke (fun _ => ?_) fun _ _ => ?_ | refine tail_k fun _ _ _ => ?_ | refine ext_k fun _ _ _ => ?_ | refine need_a ?_ | refine st_agg KR rfl ON fun _ _ _ _ => ?_ | refine wpd_q_a ?_
    | simp (maxDischargeDepth := 3) only [↓X, ↓Y, ↓Q, S1, ↓reduceIte, Nat.reduceEqDiff, Nat.reduceAdd, Int.reduceLT, Int.reduceLE, Int.reduceNeg, Int.reduceBEq, Int.reduceBNe, Int.reduceEq, Nat.reduceLeDiff, Nat.reduceMul, Nat.reduceLT, *]
    | simp (singlePass := true) (maxDischargeDepth := 99) only [*, S2, Nat.reduceLT])
      refine loop_k 7 (fun g0 k g _ => g 259 = .int .i64 k ∧ (g 27 = g0 27 ∧ g 257 = g0 257 ∧ g 258 = g0 258)) KR (by decide) ?_ ?_ ?_
      · (repeat' first
    | ((with_reducible refine at_row ?_); refine row1_a fun _ _ _ _ _ _ _ => ?_)
    | with_reducible first | (first | apply alloc_k | apply row_k); intro _ _ _ _ _ _ | (first | apply fork | apply forkp) <;> intro _ | refine forke (fun _ => ?_) fun _ _ => ?_ | refine tail_k fun _ _ _ => ?_ | refine ext_k fun _ _ _ => ?_ | refine need_a ?_ | refine st_agg KR rfl ON fun _ _ _ _ => ?_ | refine wpd_q_a ?_
    | simp (maxDischargeDepth := 3) only [↓X, ↓Y, ↓Q, S1, ↓reduceIte, Nat.reduceEqDiff, Nat.reduceAdd, Int.reduceLT, Int.reduceLE, Int.reduceNeg, Int.reduceBEq, Int.reduceBNe, Int.reduceEq, Nat.reduceLeDiff, Nat.reduceMul, Nat.reduceLT, *]
    | simp (singlePass := true) (maxDischargeDepth := 99) only [*, S2, Nat.reduceLT])
      · rintro j m3 g3 w4 hk3 hlt3 n4 s4 b4 hw3 ⟨hi3, hf3⟩
        simp (maxDischargeDepth := 3) only [U, ↓reduceIte, Nat.reduceEqDiff, *] at hf3
        have hltL : j < ranks10.length := by omega
        obtain ⟨z, hz, hsz⟩ := hg.out w4 FR j hltL
        have hjI : ((j : Int) < 7) := by omega
        have hrk := ranks_at hltL
        have zone := hsz.one
        have hsz' : Hid _ := hsz
        have hrk' : Hid _ := hrk
        clear hsz hrk
        (repeat' first
    | ((with_reducible refine at_row ?_); refine row1_a fun _ _ _ _ _ _ _ => ?_)
    | with_reducible first | (first | apply alloc_k | apply row_k); intro _ _ _ _ _ _ | (first | apply fork | apply forkp) <;> intro _ | refine forke (fun _ => ?_) fun _ _ => ?_ | refine tail_k fun _ _ _ => ?_ | refine ext_k fun _ _ _ => ?_ | refine need_a ?_ | refine st_agg KR rfl ON fun _ _ _ _ => ?_ | refine wpd_q_a ?_
    | simp (maxDischargeDepth := 3) only [↓X, ↓Y, ↓Q, S1, ↓reduceIte, Nat.reduceEqDiff, Nat.reduceAdd, Int.reduceLT, Int.reduceLE, Int.reduceNeg, Int.reduceBEq, Int.reduceBNe, Int.reduceEq, Nat.reduceLeDiff, Nat.reduceMul, Nat.reduceLT, *]
    | simp (singlePass := true) (maxDischargeDepth := 99) only [*, S2, Nat.reduceLT])
        have h14 : w1.heap.size ≤ w257.heap.size := FR
        have h44 : w257.heap.size ≤ w4.heap.size := FR
        have c1 := orderRank (hT'.out _ FR) h44 ((hV1.out w4 FR).more10 h14) hsz'.out
        simp only [smp_of, hrk'.out] at c1
        refine ret_k c1 fun u1 m1 t1 => ?_
        clear c1
        (repeat' first
    | ((with_reducible refine at_row ?_); refine row1_a fun _ _ _ _ _ _ _ => ?_)
    | with_reducible first | (first | apply alloc_k | apply row_k); intro _ _ _ _ _ _ | (first | apply fork | apply forkp) <;> intro _ | refine forke (fun _ => ?_) fun _ _ => ?_ | refine tail_k fun _ _ _ => ?_ | refine ext_k fun _ _ _ => ?_ | refine need_a ?_ | refine st_agg KR rfl ON fun _ _ _ _ => ?_ | refine wpd_q_a ?_
    | simp (maxDischargeDepth := 3) only [↓X, ↓Y, ↓Q, S1, ↓reduceIte, Nat.reduceEqDiff, Nat.reduceAdd, Int.reduceLT, Int.reduceLE, Int.reduceNeg, Int.reduceBEq, Int.reduceBNe, Int.reduceEq, Nat.reduceLeDiff, Nat.reduceMul, Nat.reduceLT, *]
    | simp (singlePass := true) (maxDischargeDepth := 99) only [*, S2, Nat.reduceLT])
        refine next_k hk3 hlt3 ?_ FR
        (repeat' first
    | ((with_reducible refine at_row ?_); refine row1_a fun _ _ _ _ _ _ _ => ?_)
    | with_reducible first | (first | apply alloc_k | apply row_k); intro _ _ _ _ _ _ | (first | apply fork | apply forkp) <;> intro _ | refine forke (fun _ => ?_) fun _ _ => ?_ | refine tail_k fun _ _ _ => ?_ | refine ext_k fun _ _ _ => ?_ | refine need_a ?_ | refine st_agg KR rfl ON fun _ _ _ _ => ?_ | refine wpd_q_a ?_
    | simp (maxDischargeDepth := 3) only [↓X, ↓Y, ↓Q, S1, ↓reduceIte, Nat.reduceEqDiff, Nat.reduceAdd, Int.reduceLT, Int.reduceLE, Int.reduceNeg, Int.reduceBEq, Int.reduceBNe, Int.reduceEq, Nat.reduceLeDiff, Nat.reduceMul, Nat.reduceLT, *]
    | simp (singlePass := true) (maxDischargeDepth := 99) only [*, S2, Nat.reduceLT])
      · rintro g3 w4 n4 s4 b4 ⟨hi3, hf3⟩
        simp (maxDischargeDepth := 3) only [U, ↓reduceIte, Nat.reduceEqDiff, *] at hf3
        have e7 : ¬ (((7 : Nat) : Int) < 7) := by omega
        clear hg b257' hl7 hlen7 b4 hV1 b1 one1
        (repeat' first
    | ((with_reducible refine at_row ?_); refine row1_a fun _ _ _ _ _ _ _ => ?_)
    | with_reducible first | (first | apply alloc_k | apply row_k); intro _ _ _ _ _ _ | (first | apply fork | apply forkp) <;> intro _ | refine forke (fun _ => ?_) fun _ _ => ?_ | refine tail_k fun _ _ _ => ?_ | refine ext_k fun _ _ _ => ?_ | refine need_a ?_ | refine st_agg KR rfl ON fun _ _ _ _ => ?_ | refine wpd_q_a ?_
    | simp (maxDischargeDepth := 3) only [↓X, ↓Y, ↓Q, S1, ↓reduceIte, Nat.reduceEqDiff, Nat.reduceAdd, Int.reduceLT, Int.reduceLE, Int.reduceNeg, Int.reduceBEq, Int.reduceBNe, Int.reduceEq, Nat.reduceLeDiff, Nat.reduceMul, Nat.reduceLT, *]
    | simp (singlePass := true) (maxDischargeDepth := 99) only [*, S2, Nat.reduceLT])
        refine mk_one_k (n := 12) (z := .slice none 0 0) rfl (by decide) (by decide) fun b5 w5 n5 k5 s5 q5 => ?_
        have c5 : LLR w5 w5.heap.size (.slice (some ⟨b5, 0, none⟩) 12 12) (List.replicate 12 (.slice none 0 0)) freeA := llr_lit (k5.2.1 _ k5.2.2.1) (by simp) (by simp) (by simp) fun i hi hj => by
          simp only [List.getElem_replicate]
          exact Sl.nil _ _ _ _
        have hV5 := fun w' (h : Bl w5.heap.size w5 w') => c5.blz h
        replace hV5 : Hid _ := hV5
        have b5' : Bl w5.heap.size w5 w5 := Bl.refl (Nat.le_refl _)
        generalize Value.slice (some ⟨b5, 0, none⟩) 12 12 = row5 at *
        have one5 := c5.v.one
        clear c5 k5 q5
        have hchf : (ofS freeA).1 = 0 → (chainsN (ofS freeA).2.2 freeA.length).isSome := fun _ => by
          have := free_chains
          rw [free_of]
          cases h : chainsN z12 freeA.length with
          | none => rw [h] at this; cases this
          | some _ => rfl
        have hchl : Hid (((chainsN z12 freeA.length).getD []).length = 12) := by
          have := free_chains
          show List.length _ = _
          cases h : chainsN z12 freeA.length with
          | none => rw [h] at this; cases this
          | some c => rw [h] at this; simpa using this
        (repeat' first
    | ((with_reducible refine at_row ?_); refine row1_a fun _ _ _ _ _ _ _ => ?_)
    | with_reducible first | (first | apply alloc_k | apply row_k); intro _ _ _ _ _ _ | (first | apply fork | apply forkp) <;> intro _ | refine forke (fun _ => ?_) fun _ _ => ?_ | refine tail_k fun _ _ _ => ?_ | refine ext_k fun _ _ _ => ?_ | refine need_a ?_ | refine st_agg KR rfl ON fun _ _ _ _ => ?_ | refine wpd_q_a ?_
    | simp (maxDischargeDepth := 3) only [↓X, ↓Y, ↓Q, S1, ↓reduceIte, Nat.reduceEqDiff, Nat.reduceAdd, Int.reduceLT, Int.reduceLE, Int.reduceNeg, Int.reduceBEq, Int.reduceBNe, Int.reduceEq, Nat.reduceLeDiff, Nat.reduceMul, Nat.reduceLT, *]
    | simp (singlePass := true) (maxDischargeDepth := 99) only [*, S2, Nat.reduceLT])
        have c1 := fun w' (h1 : Ext w w') (h2 : Bl w5.heap.size w5 w') (h3 : w5.heap.size ≤ w'.heap.size) => orderCount (w := w') (B := w5.heap.size) (hT'.out w' h1) h3 (hV5.out w' h2)
        simp only [free_of, free_count, natVc] at c1
        refine ret_k (c1 _ FR FR FR) fun u1 m1 t1 => ?_
        clear c1
        (repeat' first
    | ((with_reducible refine at_row ?_); refine row1_a fun _ _ _ _ _ _ _ => ?_)
    | with_reducible first | (first | apply alloc_k | apply row_k); intro _ _ _ _ _ _ | (first | apply fork | apply forkp) <;> intro _ | refine forke (fun _ => ?_) fun _ _ => ?_ | refine tail_k fun _ _ _ => ?_ | refine ext_k fun _ _ _ => ?_ | refine need_a ?_ | refine st_agg KR rfl ON fun _ _ _ _ => ?_ | refine wpd_q_a ?_
    | simp (maxDischargeDepth := 3) only [↓X, ↓Y, ↓Q, S1, ↓reduceIte, Nat.reduceEqDiff, Nat.reduceAdd, Int.reduceLT, Int.reduceLE, Int.reduceNeg, Int.reduceBEq, Int.reduceBNe, Int.reduceEq, Nat.reduceLeDiff, Nat.reduceMul, Nat.reduceLT, *]
    | simp (singlePass := true) (maxDischargeDepth := 99) only [*, S2, Nat.reduceLT])
        have c1 := fun w' (h1 : Ext w w') (h2 : Bl w5.heap.size w5 w') (h3 : w5.heap.size ≤ w'.heap.size) => orderNth (w := w') (B := w5.heap.size) (x := 479001599) (by decide) (hT'.out w' h1) h3 (hV5.out w' h2)
        simp only [free_of, free_nth] at c1
        refine call_k (c1 _ FR FR FR) ?_
        clear c1
        rintro _ u2 m2 t2 ⟨o2, rfl, ho2⟩
        have one2 := ho2.one
        have hs2 := ho2.sl1 (f := natV)
        rw [natC_ints] at hs2
        have hL2 := fun w' (h : Bl u2.heap.size u2 w') => hs2.bl h
        replace hL2 : Hid _ := hL2
        have bb2 : Bl u2.heap.size u2 u2 := Bl.refl (Nat.le_refl _)
        clear ho2 hs2
        (repeat' first
    | ((with_reducible refine at_row ?_); refine row1_a fun _ _ _ _ _ _ _ => ?_)
    | with_reducible first | (first | apply alloc_k | apply row_k); intro _ _ _ _ _ _ | (first | apply fork | apply forkp) <;> intro _ | refine forke (fun _ => ?_) fun _ _ => ?_ | refine tail_k fun _ _ _ => ?_ | refine ext_k fun _ _ _ => ?_ | refine need_a ?_ | refine st_agg KR rfl ON fun _ _ _ _ => ?_ | refine wpd_q_a ?_
    | simp (maxDischargeDepth := 3) only [↓X, ↓Y, ↓Q, S1, ↓reduceIte, Nat.reduceEqDiff, Nat.reduceAdd, Int.reduceLT, Int.reduceLE, Int.reduceNeg, Int.reduceBEq, Int.reduceBNe, Int.reduceEq, Nat.reduceLeDiff, Nat.reduceMul, Nat.reduceLT, *]
    | simp (singlePass := true) (maxDischargeDepth := 99) only [*, S2, Nat.reduceLT])
        have c1 := fun w' (h1 : Ext w w') (h2 : Bl w5.heap.size w5 w') (h3 : w5.heap.size ≤ w'.heap.size) => orderWidth (w := w') (B := w5.heap.size) (hT'.out w' h1) h3 (hV5.out w' h2) hchf
        simp only [free_of, if_true, hchl.out, natVd] at c1
        refine ret_k (c1 _ FR FR FR) fun u3 m3 t3 => ?_
        clear c1
        (repeat' first
    | ((with_reducible refine at_row ?_); refine row1_a fun _ _ _ _ _ _ _ => ?_)
    | with_reducible first | (first | apply alloc_k | apply row_k); intro _ _ _ _ _ _ | (first | apply fork | apply forkp) <;> intro _ | refine forke (fun _ => ?_) fun _ _ => ?_ | refine tail_k fun _ _ _ => ?_ | refine ext_k fun _ _ _ => ?_ | refine need_a ?_ | refine st_agg KR rfl ON fun _ _ _ _ => ?_ | refine wpd_q_a ?_
    | simp (maxDischargeDepth := 3) only [↓X, ↓Y, ↓Q, S1, ↓reduceIte, Nat.reduceEqDiff, Nat.reduceAdd, Int.reduceLT, Int.reduceLE, Int.reduceNeg, Int.reduceBEq, Int.reduceBNe, Int.reduceEq, Nat.reduceLeDiff, Nat.reduceMul, Nat.reduceLT, *]
    | simp (singlePass := true) (maxDischargeDepth := 99) only [*, S2, Nat.reduceLT])
        have c1 := fun w' (h1 : Ext w w') (h2 : Bl w5.heap.size w5 w') (h3 : w5.heap.size ≤ w'.heap.size) => orderIdeals (w := w') (B := w5.heap.size) (hT'.out w' h1) h3 (hV5.out w' h2)
        simp only [free_of, if_true] at c1
        refine call_k (c1 _ FR FR FR) ?_
        clear c1
        rintro _ u4 m4 t4 ⟨o4, rfl, ho4⟩
        have one4 := ho4.one
        have hlo4 : lenN o4 = 4096 := by
          have := (ho4.sl1 (f := natV)).len
          rw [List.length_map, free_ideals] at this
          exact this
        have hlk4 := (ho4.sl1 (f := natV)).wf
        have hls4 := (ho4.sl1 (f := natV)).sl
        clear ho4
        (repeat' first
    | ((with_reducible refine at_row ?_); refine row1_a fun _ _ _ _ _ _ _ => ?_)
    | with_reducible first | (first | apply alloc_k | apply row_k); intro _ _ _ _ _ _ | (first | apply fork | apply forkp) <;> intro _ | refine forke (fun _ => ?_) fun _ _ => ?_ | refine tail_k fun _ _ _ => ?_ | refine ext_k fun _ _ _ => ?_ | refine need_a ?_ | refine st_agg KR rfl ON fun _ _ _ _ => ?_ | refine wpd_q_a ?_
    | simp (maxDischargeDepth := 3) only [↓X, ↓Y, ↓Q, S1, ↓reduceIte, Nat.reduceEqDiff, Nat.reduceAdd, Int.reduceLT, Int.reduceLE, Int.reduceNeg, Int.reduceBEq, Int.reduceBNe, Int.reduceEq, Nat.reduceLeDiff, Nat.reduceMul, Nat.reduceLT, *]
    | simp (singlePass := true) (maxDischargeDepth := 99) only [*, S2, Nat.reduceLT])
        rename_i b301 w301 n301 k301 s301 q301 l301
        have r301 : Sl w301 w301.heap.size none 1 (.slice (some ⟨b301, 0, none⟩) 12 12) (([11, 10, 9, 8, 7, 6, 5, 4, 3, 2, 1, 0] : List Int).map intV) := row_sl (k301.2.1 _ FR) rfl (by simp)
        refine ret_k (slicesEqualIn (B := u2.heap.size) FR (Nat.le_refl _) (hL2.out _ FR) r301) fun u5 m5 t5 => ?_
        rw [show decide (List.map (fun n : Nat => (n : Int)) [11, 10, 9, 8, 7, 6, 5, 4, 3, 2, 1, 0] = [11, 10, 9, 8, 7, 6, 5, 4, 3, 2, 1, 0]) = true from by decide]
        have e4096 : (((4096 : Nat) : Int) != 4096) = false := rfl
        clear r301 l301 k301 q301 hL2 bb2 hV5 b5' hchf hchl
        (repeat' first
    | ((with_reducible refine at_row ?_); refine row1_a fun _ _ _ _ _ _ _ => ?_)
    | with_reducible first | (first | apply alloc_k | apply row_k); intro _ _ _ _ _ _ | (first | apply fork | apply forkp) <;> intro _ | refine forke (fun _ => ?_) fun _ _ => ?_ | refine tail_k fun _ _ _ => ?_ | refine ext_k fun _ _ _ => ?_ | refine need_a ?_ | refine st_agg KR rfl ON fun _ _ _ _ => ?_ | refine wpd_q_a ?_
    | simp (maxDischargeDepth := 3) only [↓X, ↓Y, ↓Q, S1, ↓reduceIte, Nat.reduceEqDiff, Nat.reduceAdd, Int.reduceLT, Int.reduceLE, Int.reduceNeg, Int.reduceBEq, Int.reduceBNe, Int.reduceEq, Nat.reduceLeDiff, Nat.reduceMul, Nat.reduceLT, *, e4096]
    | simp (singlePass := true) (maxDischargeDepth := 99) only [*, S2, Nat.reduceLT, e4096])
        have ru5 := Ext.refl u5
        have hxw : Ext w u5 := FR
        refine mk_one_k (n := 12) (z := .slice none 0 0) rfl (by decide) (by decide) fun b6 w6 n6 k6 s6 q6 => ?_
        have hrs : RowsB w6 u5.heap.size b6 (List.replicate 12 (.slice none 0 0)) (lineP 1 0) := by
          rw [← lineP_start]
          exact RowsB.start (k6.2.1 _ k6.2.2.1)
        have hx6 : Ext u5 w6 := FR
        have hbb : u5.heap.size ≤ b6 := FR
        have I0 : Hid (Ext u5 w6 ∧ ∃ us, us.length = 12 ∧ RowsB w6 u5.heap.size b6 us (lineP 1 0)) := ⟨hx6, _, by simp, hrs⟩
        clear hrs k6 q6 one4 hlo4 hlk4 hls4 e4096
        (repeat' first
    | ((with_reducible refine at_row ?_); refine row1_a fun _ _ _ _ _ _ _ => ?_)
    | with_reducible first | (first | apply alloc_k | apply row_k); intro _ _ _ _ _ _ | (first | apply fork | apply forkp) <;> intro _ | refine forke (fun _ => ?_) fun _ _ => ?_ | refine tail_k fun _ _ _ => ?_ | refine ext_k fun _ _ _ => ?_ | refine need_a ?_ | refine st_agg KR rfl ON fun _ _ _ _ => ?_ | refine wpd_q_a ?_
    | simp (maxDischargeDepth := 3) only [↓X, ↓Y, ↓Q, S1, ↓reduceIte, Nat.reduceEqDiff, Nat.reduceAdd, Int.reduceLT, Int.reduceLE, Int.reduceNeg, Int.reduceBEq, Int.reduceBNe, Int.reduceEq, Nat.reduceLeDiff, Nat.reduceMul, Nat.reduceLT, *]
    | simp (singlePass := true) (maxDischargeDepth := 99) only [*, S2, Nat.reduceLT])
        refine loop_g 11 (fun g0 k g w' => g 52 = .int .i64 (k + 1 : Nat) ∧ (g 51 = g0 51) ∧ Hid (Ext u5 w' ∧ ∃ us, us.length = 12 ∧ RowsB w' u5.heap.size b6 us (lineP (k + 1) 0))) KR ?_ ?_ ?_
        · (repeat' first
    | ((with_reducible refine at_row ?_); refine row1_a fun _ _ _ _ _ _ _ => ?_)
    | with_reducible first | (first | apply alloc_k | apply row_k); intro _ _ _ _ _ _ | (first | apply fork | apply forkp) <;> intro _ | refine forke (fun _ => ?_) fun _ _ => ?_ | refine tail_k fun _ _ _ => ?_ | refine ext_k fun _ _ _ => ?_ | refine need_a ?_ | refine st_agg KR rfl ON fun _ _ _ _ => ?_ | refine wpd_q_a ?_
    | simp (maxDischargeDepth := 3) only [↓X, ↓Y, ↓Q, S1, ↓reduceIte, Nat.reduceEqDiff, Nat.reduceAdd, Int.reduceLT, Int.reduceLE, Int.reduceNeg, Int.reduceBEq, Int.reduceBNe, Int.reduceEq, Nat.reduceLeDiff, Nat.reduceMul, Nat.reduceLT, *]
    | simp (singlePass := true) (maxDischargeDepth := 99) only [*, S2, Nat.reduceLT])
          exact ⟨rfl, I0.out.2⟩
        · rintro k9 m9 g9 wk9 hk9 hlt9 nk9 ⟨hi9, hf9, hp9⟩
          simp (maxDischargeDepth := 3) only [U, ↓reduceIte, Nat.reduceEqDiff, *] at hf9
          have hk12 : (((k9 + 1 : Nat) : Int) < 12) := by omega
          obtain ⟨hx9, us9, hl9, hr9⟩ := hp9.out
          have J0 : Hid (Ext u5 wk9 ∧ ∃ us, us.length = 12 ∧ RowsB wk9 u5.heap.size b6 us (lineP (k9 + 1) 0)) := hp9.out
          have hwi9 : IntKind.i64.wrap (((k9 + 1 : Nat) : Int) + 1) = ((k9 + 1 + 1 : Nat) : Int) := by rw [wrap_i64_id] <;> omega
          clear hp9 hx9 hr9 hl9
          (repeat' first
    | ((with_reducible refine at_row ?_); refine row1_a fun _ _ _ _ _ _ _ => ?_)
    | with_reducible first | (first | apply alloc_k | apply row_k); intro _ _ _ _ _ _ | (first | apply fork | apply forkp) <;> intro _ | refine forke (fun _ => ?_) fun _ _ => ?_ | refine tail_k fun _ _ _ => ?_ | refine ext_k fun _ _ _ => ?_ | refine need_a ?_ | refine st_agg KR rfl ON fun _ _ _ _ => ?_ | refine wpd_q_a ?_
    | simp (maxDischargeDepth := 3) only [↓X, ↓Y, ↓Q, S1, ↓reduceIte, Nat.reduceEqDiff, Nat.reduceAdd, Int.reduceLT, Int.reduceLE, Int.reduceNeg, Int.reduceBEq, Int.reduceBNe, Int.reduceEq, Nat.reduceLeDiff, Nat.reduceMul, Nat.reduceLT, *]
    | simp (singlePass := true) (maxDischargeDepth := 99) only [*, S2, Nat.reduceLT])
          refine loop_g (k9 + 1) (fun g0 j g w' => g 332 = .int .i64 j ∧ (g 51 = g0 51 ∧ g 52 = g0 52 ∧ g 331 = g0 331) ∧ Hid (Ext u5 w' ∧ ∃ us, us.length = 12 ∧ RowsB w' u5.heap.size b6 us (lineP (k9 + 1) j))) KR ?_ ?_ ?_
          · (repeat' first
    | ((with_reducible refine at_row ?_); refine row1_a fun _ _ _ _ _ _ _ => ?_)
    | with_reducible first | (first | apply alloc_k | apply row_k); intro _ _ _ _ _ _ | (first | apply fork | apply forkp) <;> intro _ | refine forke (fun _ => ?_) fun _ _ => ?_ | refine tail_k fun _ _ _ => ?_ | refine ext_k fun _ _ _ => ?_ | refine need_a ?_ | refine st_agg KR rfl ON fun _ _ _ _ => ?_ | refine wpd_q_a ?_
    | simp (maxDischargeDepth := 3) only [↓X, ↓Y, ↓Q, S1, ↓reduceIte, Nat.reduceEqDiff, Nat.reduceAdd, Int.reduceLT, Int.reduceLE, Int.reduceNeg, Int.reduceBEq, Int.reduceBNe, Int.reduceEq, Nat.reduceLeDiff, Nat.reduceMul, Nat.reduceLT, *]
    | simp (singlePass := true) (maxDischargeDepth := 99) only [*, S2, Nat.reduceLT])
            all_goals first | exact J0.out | exact ⟨rfl, J0.out⟩ | rfl
          · rintro j m3 g3 w3 hk3 hlt3 n3 ⟨hi3, hf3, hp3⟩
            simp (maxDischargeDepth := 3) only [U, ↓reduceIte, Nat.reduceEqDiff, *] at hf3
            obtain ⟨hx3, us, hl3, hr3⟩ := hp3.out
            have hjI : ((j : Int) < ((k9 + 1 : Nat) : Int)) := by omega
            have hwj : IntKind.i64.wrap ((j : Int) + 1) = ((j + 1 : Nat) : Int) := by rw [wrap_i64_id] <;> omega
            have kb := hr3.hb.bk
            have hiu : k9 + 1 < us.length := by omega
            have hi12 : k9 + 1 < 12 := by omega
            have g1 : us[k9 + 1]? = some us[k9 + 1] := List.getElem?_eq_getElem hiu
            have hone9 := (hr3.own _ hiu).one
            have rk3 := Ext.refl w3
            have hbd : ((lineP (k9 + 1) j).getD (k9 + 1) []).length < 1000000000000 := by rw [lineP_get hi12]; simp [intL]; omega
            have hB3 : u5.heap.size ≤ w3.heap.size := hx3.size
            have hst9 := lineP_step (j := j) hi12
            have hr3' : Hid _ := hr3
            have hx3' : Hid _ := hx3
            replace hst9 : Hid _ := hst9
            clear hp3 hr3 hx3
            (repeat' first
    | ((with_reducible refine at_row ?_); refine row1_a fun _ _ _ _ _ _ _ => ?_)
    | with_reducible first | (first | apply alloc_k | apply row_k); intro _ _ _ _ _ _ | (first | apply fork | apply forkp) <;> intro _ | refine forke (fun _ => ?_) fun _ _ => ?_ | refine tail_k fun _ _ _ => ?_ | refine ext_k fun _ _ _ => ?_ | refine need_a ?_ | refine st_agg KR rfl ON fun _ _ _ _ => ?_ | refine wpd_q_a ?_
    | simp (maxDischargeDepth := 3) only [↓X, ↓Y, ↓Q, S1, ↓reduceIte, Nat.reduceEqDiff, Nat.reduceAdd, Int.reduceLT, Int.reduceLE, Int.reduceNeg, Int.reduceBEq, Int.reduceBNe, Int.reduceEq, Nat.reduceLeDiff, Nat.reduceMul, Nat.reduceLT, *]
    | simp (singlePass := true) (maxDischargeDepth := 99) only [*, S2, Nat.reduceLT])
            rename_i b10 w10 n10 k10 s10 q10 l10
            have hx10 : Ext w3 w10 := FR
            have hr10 := hr3'.out.ext hx10
            have hB10 : u5.heap.size ≤ w10.heap.size := Nat.le_trans hB3 hx10.size
            refine hr10.append hiu (k10.2.1 _ FR) hbd hB10 fun v11 w11 n11 hp11 => ?_
            have k11 := (RowP.blkb hr10 hp11).bk
            have c11 : Cg b6 w11 w11 := Chg.refl' w11 b6
            have one11 := hp11.own.one
            have hx11 : Ext u5 w11 := Ext.trans' (Ext.trans' hx3'.out (hx10.mono hB3)) (RowP.below hr10 hp11 hB10)
            have hpp : Hid _ := hp11
            have hrr : Hid _ := hr10
            have hxx : Hid _ := hx11
            clear hp11 hr10 hx11 kb k10 q10 l10
            (repeat' first
    | ((with_reducible refine at_row ?_); refine row1_a fun _ _ _ _ _ _ _ => ?_)
    | with_reducible first | (first | apply alloc_k | apply row_k); intro _ _ _ _ _ _ | (first | apply fork | apply forkp) <;> intro _ | refine forke (fun _ => ?_) fun _ _ => ?_ | refine tail_k fun _ _ _ => ?_ | refine ext_k fun _ _ _ => ?_ | refine need_a ?_ | refine st_agg KR rfl ON fun _ _ _ _ => ?_ | refine wpd_q_a ?_
    | simp (maxDischargeDepth := 3) only [↓X, ↓Y, ↓Q, S1, ↓reduceIte, Nat.reduceEqDiff, Nat.reduceAdd, Int.reduceLT, Int.reduceLE, Int.reduceNeg, Int.reduceBEq, Int.reduceBNe, Int.reduceEq, Nat.reduceLeDiff, Nat.reduceMul, Nat.reduceLT, *]
    | simp (singlePass := true) (maxDischargeDepth := 99) only [*, S2, Nat.reduceLT])
            refine st_one KR hiu one11 fun w12 n12 k12 s12 => ?_
            have hc12 : Cg b6 w11 w12 := FR
            have hr12 := hrr.out.put hiu hpp.out (k12.2.1 _ k12.2.2.1) hc12
            rw [hst9.out] at hr12
            have hx12 : Ext u5 w12 := Ext.trans' hxx.out (hc12.below hbb hxx.out.size)
            have hN : Hid (Ext u5 w12 ∧ ∃ us, us.length = 12 ∧ RowsB w12 u5.heap.size b6 us (lineP (k9 + 1) (j + 1))) := ⟨hx12, _, by rw [List.length_set]; exact hl3, hr12⟩
            clear hr12 hx12 k11 k12 c11 hc12
            (repeat' first
    | ((with_reducible refine at_row ?_); refine row1_a fun _ _ _ _ _ _ _ => ?_)
    | with_reducible first | (first | apply alloc_k | apply row_k); intro _ _ _ _ _ _ | (first | apply fork | apply forkp) <;> intro _ | refine forke (fun _ => ?_) fun _ _ => ?_ | refine tail_k fun _ _ _ => ?_ | refine ext_k fun _ _ _ => ?_ | refine need_a ?_ | refine st_agg KR rfl ON fun _ _ _ _ => ?_ | refine wpd_q_a ?_
    | simp (maxDischargeDepth := 3) only [↓X, ↓Y, ↓Q, S1, ↓reduceIte, Nat.reduceEqDiff, Nat.reduceAdd, Int.reduceLT, Int.reduceLE, Int.reduceNeg, Int.reduceBEq, Int.reduceBNe, Int.reduceEq, Nat.reduceLeDiff, Nat.reduceMul, Nat.reduceLT, *]
    | simp (singlePass := true) (maxDischargeDepth := 99) only [*, S2, Nat.reduceLT])
            refine next_g hk3 hlt3 ?_
            (repeat' first
    | ((with_reducible refine at_row ?_); refine row1_a fun _ _ _ _ _ _ _ => ?_)
    | with_reducible first | (first | apply alloc_k | apply row_k); intro _ _ _ _ _ _ | (first | apply fork | apply forkp) <;> intro _ | refine forke (fun _ => ?_) fun _ _ => ?_ | refine tail_k fun _ _ _ => ?_ | refine ext_k fun _ _ _ => ?_ | refine need_a ?_ | refine st_agg KR rfl ON fun _ _ _ _ => ?_ | refine wpd_q_a ?_
    | simp (maxDischargeDepth := 3) only [↓X, ↓Y, ↓Q, S1, ↓reduceIte, Nat.reduceEqDiff, Nat.reduceAdd, Int.reduceLT, Int.reduceLE, Int.reduceNeg, Int.reduceBEq, Int.reduceBNe, Int.reduceEq, Nat.reduceLeDiff, Nat.reduceMul, Nat.reduceLT, *]
    | simp (singlePass := true) (maxDischargeDepth := 99) only [*, S2, Nat.reduceLT])
          · rintro g3 w3 n3 ⟨hi3, hf3, hp3⟩
            simp (maxDischargeDepth := 3) only [U, ↓reduceIte, Nat.reduceEqDiff, *] at hf3
            have e9 : ¬ (((k9 + 1 : Nat) : Int) < ((k9 + 1 : Nat) : Int)) := by omega
            have hN : Hid (Ext u5 w3 ∧ ∃ us, us.length = 12 ∧ RowsB w3 u5.heap.size b6 us (lineP (k9 + 1 + 1) 0)) := by
              have := hp3.out
              rw [lineP_next] at this
              exact this
            clear hp3
            (repeat' first
    | ((with_reducible refine at_row ?_); refine row1_a fun _ _ _ _ _ _ _ => ?_)
    | with_reducible first | (first | apply alloc_k | apply row_k); intro _ _ _ _ _ _ | (first | apply fork | apply forkp) <;> intro _ | refine forke (fun _ => ?_) fun _ _ => ?_ | refine tail_k fun _ _ _ => ?_ | refine ext_k fun _ _ _ => ?_ | refine need_a ?_ | refine st_agg KR rfl ON fun _ _ _ _ => ?_ | refine wpd_q_a ?_
    | simp (maxDischargeDepth := 3) only [↓X, ↓Y, ↓Q, S1, ↓reduceIte, Nat.reduceEqDiff, Nat.reduceAdd, Int.reduceLT, Int.reduceLE, Int.reduceNeg, Int.reduceBEq, Int.reduceBNe, Int.reduceEq, Nat.reduceLeDiff, Nat.reduceMul, Nat.reduceLT, *, hwi9]
    | simp (singlePass := true) (maxDischargeDepth := 99) only [*, S2, Nat.reduceLT, hwi9])
            refine next_g hk9 hlt9 ?_
            (repeat' first
    | ((with_reducible refine at_row ?_); refine row1_a fun _ _ _ _ _ _ _ => ?_)
    | with_reducible first | (first | apply alloc_k | apply row_k); intro _ _ _ _ _ _ | (first | apply fork | apply forkp) <;> intro _ | refine forke (fun _ => ?_) fun _ _ => ?_ | refine tail_k fun _ _ _ => ?_ | refine ext_k fun _ _ _ => ?_ | refine need_a ?_ | refine st_agg KR rfl ON fun _ _ _ _ => ?_ | refine wpd_q_a ?_
    | simp (maxDischargeDepth := 3) only [↓X, ↓Y, ↓Q, S1, ↓reduceIte, Nat.reduceEqDiff, Nat.reduceAdd, Int.reduceLT, Int.reduceLE, Int.reduceNeg, Int.reduceBEq, Int.reduceBNe, Int.reduceEq, Nat.reduceLeDiff, Nat.reduceMul, Nat.reduceLT, *]
    | simp (singlePass := true) (maxDischargeDepth := 99) only [*, S2, Nat.reduceLT])
            trace_state
        · rintro g9 wk9 nk9 ⟨hi9, hf9, hp9⟩
          simp (maxDischargeDepth := 3) only [U, ↓reduceIte, Nat.reduceEqDiff, *] at hf9
          obtain ⟨hx9, us9, hl9, hr9⟩ := hp9.out
          have e12 : ¬ (((11 + 1 : Nat) : Int) < 12) := by omega
          rw [show 11 + 1 = 12 from rfl, lineP_end] at hr9
          have hll := hr9.toLL (by omega)
          rw [hl9] at hll
          have st9 := hx9.st
          have hV9 := fun w' (h : Bl wk9.heap.size wk9 w') => hll.blz h
          replace hV9 : Hid _ := hV9
          have b9 : Bl wk9.heap.size wk9 wk9 := Bl.refl (Nat.le_refl _)
          have one9 := hll.v.one
          generalize Value.slice (some ⟨b6, 0, none⟩) 12 12 = row9 at *
          clear hp9 hr9 hll I0 hx9 hx6
          (repeat' first
    | ((with_reducible refine at_row ?_); refine row1_a fun _ _ _ _ _ _ _ => ?_)
    | with_reducible first | (first | apply alloc_k | apply row_k); intro _ _ _ _ _ _ | (first | apply fork | apply forkp) <;> intro _ | refine forke (fun _ => ?_) fun _ _ => ?_ | refine tail_k fun _ _ _ => ?_ | refine ext_k fun _ _ _ => ?_ | refine need_a ?_ | refine st_agg KR rfl ON fun _ _ _ _ => ?_ | refine wpd_q_a ?_
    | simp (maxDischargeDepth := 3) only [↓X, ↓Y, ↓Q, S1, ↓reduceIte, Nat.reduceEqDiff, Nat.reduceAdd, Int.reduceLT, Int.reduceLE, Int.reduceNeg, Int.reduceBEq, Int.reduceBNe, Int.reduceEq, Nat.reduceLeDiff, Nat.reduceMul, Nat.reduceLT, *]
    | simp (singlePass := true) (maxDischargeDepth := 99) only [*, S2, Nat.reduceLT])
          have c1 := fun w' (h1 : Ext w w') (h2 : Bl wk9.heap.size wk9 w') (h3 : wk9.heap.size ≤ w'.heap.size) => orderReduce (w := w') (B := wk9.heap.size) (hT'.out w' h1) h3 (hV9.out w' h2)
          simp only [line_of, if_true, line_red] at c1
          refine call_k (c1 _ FR FR FR) ?_
          clear c1
          rintro _ u1 m1 t1 ⟨o1, rfl, ho1⟩
          have one1 := ho1.one
          obtain ⟨us1, hr1⟩ := ho1.r
          have hl1 := hr1.len_
          have hll1 : lenN o1 = 12 := hl1.2.2
          have hu1 : us1.length = 12 := by rw [hr1.len]; rfl
          have hz1 : ∀ w', Bl u1.heap.size u1 w' → rdv none w' (elemAt o1 1 11) = some (us1[11]'(by omega)) := fun w' h => (hr1.v.bl h).rd 11 (by omega)
          have hzs : Hid (∀ w', Bl u1.heap.size u1 w' → Sl w' u1.heap.size none 1 (us1[11]'(by omega)) (([10] : List Int).map intV)) := fun w' h => by
            obtain ⟨z, h1, h2⟩ := (hr1.blz h).at_ 11 (by decide)
            rw [List.getElem?_eq_getElem (by omega)] at h1
            obtain rfl := Option.some.inj h1
            exact h2
          have hzo : (us1[11]'(by omega)).oneCell' = true := (hzs.out u1 (Bl.refl (Nat.le_refl _))).one
          have hlen1 := hl1.1
          have hlen2 := hl1.2.1
          have bu1 : Bl u1.heap.size u1 u1 := Bl.refl (Nat.le_refl _)
          clear ho1 hl1 hr1
          (repeat' first
    | ((with_reducible refine at_row ?_); refine row1_a fun _ _ _ _ _ _ _ => ?_)
    | with_reducible first | (first | apply alloc_k | apply row_k); intro _ _ _ _ _ _ | (first | apply fork | apply forkp) <;> intro _ | refine forke (fun _ => ?_) fun _ _ => ?_ | refine tail_k fun _ _ _ => ?_ | refine ext_k fun _ _ _ => ?_ | refine need_a ?_ | refine st_agg KR rfl ON fun _ _ _ _ => ?_ | refine wpd_q_a ?_
    | simp (maxDischargeDepth := 3) only [↓X, ↓Y, ↓Q, S1, ↓reduceIte, Nat.reduceEqDiff, Nat.reduceAdd, Int.reduceLT, Int.reduceLE, Int.reduceNeg, Int.reduceBEq, Int.reduceBNe, Int.reduceEq, Nat.reduceLeDiff, Nat.reduceMul, Nat.reduceLT, *]
    | simp (singlePass := true) (maxDischargeDepth := 99) only [*, S2, Nat.reduceLT])
          have c1 := fun w' (h1 : Ext w w') (h2 : Bl wk9.heap.size wk9 w') (h3 : wk9.heap.size ≤ w'.heap.size) => orderHeight (w := w') (B := wk9.heap.size) (hT'.out w' h1) h3 (hV9.out w' h2)
          simp only [line_of, line_height, natVd] at c1
          refine ret_k (c1 _ FR FR FR) fun u2 m2 t2 => ?_
          clear c1
          have hchs : (ofS lineA).1 = 0 → (chainsN (ofS lineA).2.2 lineA.length).isSome := fun _ => by
            have := line_chains
            cases h : chainsN (ofS lineA).2.2 lineA.length with
            | none => rw [h] at this; cases this
            | some _ => rfl
          (repeat' first
    | ((with_reducible refine at_row ?_); refine row1_a fun _ _ _ _ _ _ _ => ?_)
    | with_reducible first | (first | apply alloc_k | apply row_k); intro _ _ _ _ _ _ | (first | apply fork | apply forkp) <;> intro _ | refine forke (fun _ => ?_) fun _ _ => ?_ | refine tail_k fun _ _ _ => ?_ | refine ext_k fun _ _ _ => ?_ | refine need_a ?_ | refine st_agg KR rfl ON fun _ _ _ _ => ?_ | refine wpd_q_a ?_
    | simp (maxDischargeDepth := 3) only [↓X, ↓Y, ↓Q, S1, ↓reduceIte, Nat.reduceEqDiff, Nat.reduceAdd, Int.reduceLT, Int.reduceLE, Int.reduceNeg, Int.reduceBEq, Int.reduceBNe, Int.reduceEq, Nat.reduceLeDiff, Nat.reduceMul, Nat.reduceLT, *]
    | simp (singlePass := true) (maxDischargeDepth := 99) only [*, S2, Nat.reduceLT])
          have c1 := fun w' (h1 : Ext w w') (h2 : Bl wk9.heap.size wk9 w') (h3 : wk9.heap.size ≤ w'.heap.size) => orderChains (w := w') (B := wk9.heap.size) (hT'.out w' h1) h3 (hV9.out w' h2) hchs
          simp only [line_of, if_true] at c1
          refine call_k (c1 _ FR FR FR) ?_
          clear c1
          rintro _ u3 m3 t3 ⟨o3, rfl, ho3⟩
          have one3 := ho3.one
          have hlo3 : lenN o3 = 1 := by
            obtain ⟨us, hr⟩ := ho3.r
            have := hr.len_.2.2
            rw [this, List.length_map]
            have := line_chains
            cases h : chainsN (ofS lineA).2.2 lineA.length with
            | none => rw [h] at this; cases this
            | some c => rw [h] at this; simpa using this
          have hlo4 : SlWf o3 ∧ isSl o3 := by
            obtain ⟨us, hr⟩ := ho3.r
            exact ⟨hr.len_.1, hr.len_.2.1⟩
          have i11 : Int.toNat 11 = 11 := rfl
          have i12 : ((12 : Nat) : Int) = 12 := rfl
          have i1 : ((1 : Nat) : Int) = 1 := rfl
          clear ho3 hchs
          (repeat' first
    | ((with_reducible refine at_row ?_); refine row1_a fun _ _ _ _ _ _ _ => ?_)
    | with_reducible first | (first | apply alloc_k | apply row_k); intro _ _ _ _ _ _ | (first | apply fork | apply forkp) <;> intro _ | refine forke (fun _ => ?_) fun _ _ => ?_ | refine tail_k fun _ _ _ => ?_ | refine ext_k fun _ _ _ => ?_ | refine need_a ?_ | refine st_agg KR rfl ON fun _ _ _ _ => ?_ | refine wpd_q_a ?_
    | simp (maxDischargeDepth := 3) only [↓X, ↓Y, ↓Q, S1, ↓reduceIte, Nat.reduceEqDiff, Nat.reduceAdd, Int.reduceLT, Int.reduceLE, Int.reduceNeg, Int.reduceBEq, Int.reduceBNe, Int.reduceEq, Nat.reduceLeDiff, Nat.reduceMul, Nat.reduceLT, *]
    | simp (singlePass := true) (maxDischargeDepth := 99) only [*, S2, Nat.reduceLT])
          rename_i b20 w20 n20 k20 s20 q20 l20
          have r20 : Sl w20 w20.heap.size none 1 (.slice (some ⟨b20, 0, none⟩) 1 1) (([10] : List Int).map intV) := row_sl (k20.2.1 _ FR) rfl (by simp)
          refine ret_k (slicesEqualIn (B := u1.heap.size) FR (Nat.le_refl _) (hzs.out _ FR) r20) fun u5 m5 t5 => ?_
          rw [show decide (([10] : List Int) = [10]) = true from rfl]
          clear r20 l20 k20 q20 hzs hz1
          (repeat' first
    | ((with_reducible refine at_row ?_); refine row1_a fun _ _ _ _ _ _ _ => ?_)
    | with_reducible first | (first | apply alloc_k | apply row_k); intro _ _ _ _ _ _ | (first | apply fork | apply forkp) <;> intro _ | refine forke (fun _ => ?_) fun _ _ => ?_ | refine tail_k fun _ _ _ => ?_ | refine ext_k fun _ _ _ => ?_ | refine need_a ?_ | refine st_agg KR rfl ON fun _ _ _ _ => ?_ | refine wpd_q_a ?_
    | simp (maxDischargeDepth := 3) only [↓X, ↓Y, ↓Q, S1, ↓reduceIte, Nat.reduceEqDiff, Nat.reduceAdd, Int.reduceLT, Int.reduceLE, Int.reduceNeg, Int.reduceBEq, Int.reduceBNe, Int.reduceEq, Nat.reduceLeDiff, Nat.reduceMul, Nat.reduceLT, *]
    | simp (singlePass := true) (maxDischargeDepth := 99) only [*, S2, Nat.reduceLT])
          have hnil : Hid (∀ w', LLR w' w.heap.size (.slice none 0 0) [] []) := fun w' => ⟨Sl.nil _ _ _ _, rfl, fun i h => absurd h (by simp)⟩
          have c1 := fun w' (h1 : Ext w w') (h3 : w.heap.size ≤ w'.heap.size) => orderCount (w := w') (B := w.heap.size) (hT'.out w' h1) h3 (hnil.out w')
          simp only [nil_of10', nil_facts.1, natV1] at c1
          refine ret_k (c1 _ FR FR) fun u10 m10 t10 => ?_
          clear c1
          (repeat' first
    | ((with_reducible refine at_row ?_); refine row1_a fun _ _ _ _ _ _ _ => ?_)
    | with_reducible first | (first | apply alloc_k | apply row_k); intro _ _ _ _ _ _ | (first | apply fork | apply forkp) <;> intro _ | refine forke (fun _ => ?_) fun _ _ => ?_ | refine tail_k fun _ _ _ => ?_ | refine ext_k fun _ _ _ => ?_ | refine need_a ?_ | refine st_agg KR rfl ON fun _ _ _ _ => ?_ | refine wpd_q_a ?_
    | simp (maxDischargeDepth := 3) only [↓X, ↓Y, ↓Q, S1, ↓reduceIte, Nat.reduceEqDiff, Nat.reduceAdd, Int.reduceLT, Int.reduceLE, Int.reduceNeg, Int.reduceBEq, Int.reduceBNe, Int.reduceEq, Nat.reduceLeDiff, Nat.reduceMul, Nat.reduceLT, *]
    | simp (singlePass := true) (maxDischargeDepth := 99) only [*, S2, Nat.reduceLT])
          have c1 := fun w' (h1 : Ext w w') (h3 : w.heap.size ≤ w'.heap.size) => orderNth (w := w') (B := w.heap.size) (x := 0) (by decide) (hT'.out w' h1) h3 (hnil.out w')
          simp only [nil_of10', nil_facts.2.1] at c1
          refine call_k (c1 _ FR FR) ?_
          clear c1
          rintro _ u11 m11 t11 ⟨o11, rfl, ho11⟩
          have one11 := ho11.one
          have hlo11 : lenN o11 = 0 := (ho11.sl1 (f := natV)).len
          have hlw11 := (ho11.sl1 (f := natV)).wf
          have hls11 := (ho11.sl1 (f := natV)).sl
          clear ho11
          (repeat' first
    | ((with_reducible refine at_row ?_); refine row1_a fun _ _ _ _ _ _ _ => ?_)
    | with_reducible first | (first | apply alloc_k | apply row_k); intro _ _ _ _ _ _ | (first | apply fork | apply forkp) <;> intro _ | refine forke (fun _ => ?_) fun _ _ => ?_ | refine tail_k fun _ _ _ => ?_ | refine ext_k fun _ _ _ => ?_ | refine need_a ?_ | refine st_agg KR rfl ON fun _ _ _ _ => ?_ | refine wpd_q_a ?_
    | simp (maxDischargeDepth := 3) only [↓X, ↓Y, ↓Q, S1, ↓reduceIte, Nat.reduceEqDiff, Nat.reduceAdd, Int.reduceLT, Int.reduceLE, Int.reduceNeg, Int.reduceBEq, Int.reduceBNe, Int.reduceEq, Nat.reduceLeDiff, Nat.reduceMul, Nat.reduceLT, *]
    | simp (singlePass := true) (maxDischargeDepth := 99) only [*, S2, Nat.reduceLT])
          have c1 := fun w' (h1 : Ext w w') (h3 : w.heap.size ≤ w'.heap.size) => orderIdeals (w := w') (B := w.heap.size) (hT'.out w' h1) h3 (hnil.out w')
          simp only [nil_of10', if_true, nil_facts.2.2.1] at c1
          refine call_k (c1 _ FR FR) ?_
          clear c1
          rintro _ u12 m12 t12 ⟨o12, rfl, ho12⟩
          have one12 := ho12.one
          have hs12 := ho12.sl1 (f := natV)
          rw [natC_ints] at hs12
          have hL12 := fun w' (h : Bl u12.heap.size u12 w') => hs12.bl h
          replace hL12 : Hid _ := hL12
          have bb12 : Bl u12.heap.size u12 u12 := Bl.refl (Nat.le_refl _)
          clear ho12 hs12
          have hchn : (ofS ([] : List (List Int))).1 = 0 → (chainsN (ofS ([] : List (List Int))).2.2 ([] : List (List Int)).length).isSome := fun _ => by
            rw [nil_of10', nil_facts.2.2.2.1]; rfl
          have natV0 : natV 0 = .int .i64 0 := rfl
          (repeat' first
    | ((with_reducible refine at_row ?_); refine row1_a fun _ _ _ _ _ _ _ => ?_)
    | with_reducible first | (first | apply alloc_k | apply row_k); intro _ _ _ _ _ _ | (first | apply fork | apply forkp) <;> intro _ | refine forke (fun _ => ?_) fun _ _ => ?_ | refine tail_k fun _ _ _ => ?_ | refine ext_k fun _ _ _ => ?_ | refine need_a ?_ | refine st_agg KR rfl ON fun _ _ _ _ => ?_ | refine wpd_q_a ?_
    | simp (maxDischargeDepth := 3) only [↓X, ↓Y, ↓Q, S1, ↓reduceIte, Nat.reduceEqDiff, Nat.reduceAdd, Int.reduceLT, Int.reduceLE, Int.reduceNeg, Int.reduceBEq, Int.reduceBNe, Int.reduceEq, Nat.reduceLeDiff, Nat.reduceMul, Nat.reduceLT, *]
    | simp (singlePass := true) (maxDischargeDepth := 99) only [*, S2, Nat.reduceLT])
          have c1 := fun w' (h1 : Ext w w') (h3 : w.heap.size ≤ w'.heap.size) => orderWidth (w := w') (B := w.heap.size) (hT'.out w' h1) h3 (hnil.out w') hchn
          simp only [nil_of10', if_true, (show chainsN [] 0 = some [] from nil_facts.2.2.2.1), Option.getD_some, List.length_nil, natV0] at c1
          refine ret_k (c1 _ FR FR) fun u13 m13 t13 => ?_
          clear c1
          (repeat' first
    | ((with_reducible refine at_row ?_); refine row1_a fun _ _ _ _ _ _ _ => ?_)
    | with_reducible first | (first | apply alloc_k | apply row_k); intro _ _ _ _ _ _ | (first | apply fork | apply forkp) <;> intro _ | refine forke (fun _ => ?_) fun _ _ => ?_ | refine tail_k fun _ _ _ => ?_ | refine ext_k fun _ _ _ => ?_ | refine need_a ?_ | refine st_agg KR rfl ON fun _ _ _ _ => ?_ | refine wpd_q_a ?_
    | simp (maxDischargeDepth := 3) only [↓X, ↓Y, ↓Q, S1, ↓reduceIte, Nat.reduceEqDiff, Nat.reduceAdd, Int.reduceLT, Int.reduceLE, Int.reduceNeg, Int.reduceBEq, Int.reduceBNe, Int.reduceEq, Nat.reduceLeDiff, Nat.reduceMul, Nat.reduceLT, *]
    | simp (singlePass := true) (maxDischargeDepth := 99) only [*, S2, Nat.reduceLT])
          have c1 := fun w' (h1 : Ext w w') (h3 : w.heap.size ≤ w'.heap.size) => orderHeight (w := w') (B := w.heap.size) (hT'.out w' h1) h3 (hnil.out w')
          simp only [nil_of10', nil_facts.2.2.2.2, natV0] at c1
          refine ret_k (c1 _ FR FR) fun u14 m14 t14 => ?_
          clear c1
          (repeat' first
    | ((with_reducible refine at_row ?_); refine row1_a fun _ _ _ _ _ _ _ => ?_)
    | with_reducible first | (first | apply alloc_k | apply row_k); intro _ _ _ _ _ _ | (first | apply fork | apply forkp) <;> intro _ | refine forke (fun _ => ?_) fun _ _ => ?_ | refine tail_k fun _ _ _ => ?_ | refine ext_k fun _ _ _ => ?_ | refine need_a ?_ | refine st_agg KR rfl ON fun _ _ _ _ => ?_ | refine wpd_q_a ?_
    | simp (maxDischargeDepth := 3) only [↓X, ↓Y, ↓Q, S1, ↓reduceIte, Nat.reduceEqDiff, Nat.reduceAdd, Int.reduceLT, Int.reduceLE, Int.reduceNeg, Int.reduceBEq, Int.reduceBNe, Int.reduceEq, Nat.reduceLeDiff, Nat.reduceMul, Nat.reduceLT, *]
    | simp (singlePass := true) (maxDischargeDepth := 99) only [*, S2, Nat.reduceLT])
          have c1 := fun w' (h1 : Ext w w') (h3 : w.heap.size ≤ w'.heap.size) => orderChains (w := w') (B := w.heap.size) (hT'.out w' h1) h3 (hnil.out w') hchn
          simp only [nil_of10', if_true, nil_facts.2.2.2.1, Option.getD_some] at c1
          refine call_k (c1 _ FR FR) ?_
          clear c1
          rintro _ u15 m15 t15 ⟨o15, rfl, ho15⟩
          have one15 := ho15.one
          have hlo15 : lenN o15 = 0 := by
            obtain ⟨us, hr⟩ := ho15.r
            exact hr.len_.2.2
          have hlw15 : SlWf o15 ∧ isSl o15 := by
            obtain ⟨us, hr⟩ := ho15.r
            exact ⟨hr.len_.1, hr.len_.2.1⟩
          have i0 : ((0 : Nat) : Int) = 0 := rfl
          clear ho15 hchn
          (repeat' first
    | ((with_reducible refine at_row ?_); refine row1_a fun _ _ _ _ _ _ _ => ?_)
    | with_reducible first | (first | apply alloc_k | apply row_k); intro _ _ _ _ _ _ | (first | apply fork | apply forkp) <;> intro _ | refine forke (fun _ => ?_) fun _ _ => ?_ | refine tail_k fun _ _ _ => ?_ | refine ext_k fun _ _ _ => ?_ | refine need_a ?_ | refine st_agg KR rfl ON fun _ _ _ _ => ?_ | refine wpd_q_a ?_
    | simp (maxDischargeDepth := 3) only [↓X, ↓Y, ↓Q, S1, ↓reduceIte, Nat.reduceEqDiff, Nat.reduceAdd, Int.reduceLT, Int.reduceLE, Int.reduceNeg, Int.reduceBEq, Int.reduceBNe, Int.reduceEq, Nat.reduceLeDiff, Nat.reduceMul, Nat.reduceLT, *]
    | simp (singlePass := true) (maxDischargeDepth := 99) only [*, S2, Nat.reduceLT])
          rename_i b30 w30 n30 k30 s30 q30 l30
          have r30 : Sl w30 w30.heap.size none 1 (.slice (some ⟨b30, 0, none⟩) 1 1) (([0] : List Int).map intV) := row_sl (k30.2.1 _ FR) rfl (by simp)
          refine ret_k (slicesEqualIn (B := u12.heap.size) FR (Nat.le_refl _) (hL12.out _ FR) r30) fun u16 m16 t16 => ?_
          rw [show decide (List.map (fun n : Nat => (n : Int)) [0] = [0]) = true from by decide]
          clear r30 l30 k30 q30 hL12
          (repeat' first
    | ((with_reducible refine at_row ?_); refine row1_a fun _ _ _ _ _ _ _ => ?_)
    | with_reducible first | (first | apply alloc_k | apply row_k); intro _ _ _ _ _ _ | (first | apply fork | apply forkp) <;> intro _ | refine forke (fun _ => ?_) fun _ _ => ?_ | refine tail_k fun _ _ _ => ?_ | refine ext_k fun _ _ _ => ?_ | refine need_a ?_ | refine st_agg KR rfl ON fun _ _ _ _ => ?_ | refine wpd_q_a ?_
    | simp (maxDischargeDepth := 3) only [↓X, ↓Y, ↓Q, S1, ↓reduceIte, Nat.reduceEqDiff, Nat.reduceAdd, Int.reduceLT, Int.reduceLE, Int.reduceNeg, Int.reduceBEq, Int.reduceBNe, Int.reduceEq, Nat.reduceLeDiff, Nat.reduceMul, Nat.reduceLT, *]
    | simp (singlePass := true) (maxDischargeDepth := 99) only [*, S2, Nat.reduceLT])
          refine ret_k (law10works (hT'.out _ FR)) fun u17 m17 t17 => ?_
          (repeat' first
    | ((with_reducible refine at_row ?_); refine row1_a fun _ _ _ _ _ _ _ => ?_)
    | with_reducible first | (first | apply alloc_k | apply row_k); intro _ _ _ _ _ _ | (first | apply fork | apply forkp) <;> intro _ | refine forke (fun _ => ?_) fun _ _ => ?_ | refine tail_k fun _ _ _ => ?_ | refine ext_k fun _ _ _ => ?_ | refine need_a ?_ | refine st_agg KR rfl ON fun _ _ _ _ => ?_ | refine wpd_q_a ?_
    | simp (maxDischargeDepth := 3) only [↓X, ↓Y, ↓Q, S1, ↓reduceIte, Nat.reduceEqDiff, Nat.reduceAdd, Int.reduceLT, Int.reduceLE, Int.reduceNeg, Int.reduceBEq, Int.reduceBNe, Int.reduceEq, Nat.reduceLeDiff, Nat.reduceMul, Nat.reduceLT, *]
    | simp (singlePass := true) (maxDischargeDepth := 99) only [*, S2, Nat.reduceLT])
          all_goals done

end
end Go.Proofs.YteeaccnklkcchaaDoor
