
/- Lists of lists that a call makes; Reduce of the layer order and of the document's answer, layer 10. -/
import Derived.Test.YteeaccnklkcchaaDoorPure
import Derived.Test.YteeaccnklkcchaaDoorRef10
import Derived.Test.YteeaccnklkcchaaDoorRow
import Derived.Test.YteeaccnklkcchaaDoorInts10
namespace Go.Proofs.YteeaccnklkcchaaDoor
set_option linter.unusedSimpArgs false
set_option linter.unusedVariables false
open Go Go.RowKit
set_option maxRecDepth 100000
set_option linter.unusedSectionVars false
set_option maxHeartbeats 2000000
/-- A row of the call's own whose elements are rows of its own. -/
def OwnLL (w : World) (B : Nat) (v : Value) (ll : List (List Nat)) : Prop := ∃ us : List Value, us.length = ll.length ∧ Own w B 25 1 v (us.map fun u => [u]) ∧ ∀ i (h : i < us.length), Own w B 3 1 us[i] ((ll.getD i []).map natC)
section
variable {w w' : World} {B B' b : Nat} {v : Value} {ll : List (List Nat)}
theorem OwnLL.nil (w : World) (B : Nat) : OwnLL w B (.slice none 0 0) [] := ⟨[], rfl, Own.nil _ _ _ _, fun i h => absurd h (by simp)⟩
theorem OwnLL.ext (h : OwnLL w B v ll) (hx : Ext w w') : OwnLL w' B v ll := by
  obtain ⟨us, h1, h2, h3⟩ := h
  exact ⟨us, h1, h2.ext hx, fun i hi => (h3 i hi).ext hx⟩
theorem OwnLL.more (h : OwnLL w B v ll) (hB : B' ≤ B) : OwnLL w B' v ll := by
  obtain ⟨us, h1, h2, h3⟩ := h
  exact ⟨us, h1, h2.more hB, fun i hi => (h3 i hi).more hB⟩
theorem OwnLL.one (h : OwnLL w B v ll) : v.oneCell' = true := by
  obtain ⟨us, h1, h2, h3⟩ := h
  exact h2.one
theorem OwnLL.r (h : OwnLL w B v ll) : ∃ us, LLR w w.heap.size v us (ll.map intL) := by
  obtain ⟨us, h1, h2, h3⟩ := h
  refine ⟨us, by have := h2.sl1 (f := id); rwa [List.map_id] at this, by rw [List.length_map]; exact h1, fun i hi => ?_⟩
  rw [List.length_map] at hi
  have hu : i < us.length := by omega
  refine ⟨us[i], List.getElem?_eq_getElem hu, ?_⟩
  have := (h3 i hu).sl1 (f := natV)
  rw [natC_ints] at this
  simpa [intL, List.getD_eq_getElem?_getD, List.getElem?_eq_getElem hi] using this
/-- One more row behind the others. -/
theorem appLL {cp : Nat} {s u : Value} {l : List Nat} {k : Value → World → Prop} (hown : OwnLL w B s ll) (hu : Own w B 3 1 u (l.map natC)) (hb : Blk w b 25 [u]) (hbound : ll.length < 1000000000000) (hB : B ≤ w.heap.size)
    (h : ∀ v' w', Now w' → Sa B w w' → OwnLL w' B v' (ll ++ [l]) → k v' w') : appX Tryd.prog 22 22 22 s (.slice (some ⟨b, 0, none⟩) 1 cp) w k := by
  obtain ⟨us, h1, h2, h3⟩ := hown
  refine append_row (e := 25) (sz := 1) (by_ := 24) (z := .slice none 0 0) (ns := [[u]]) KR KR rfl (by decide) h2 (by simpa using hb) (by simp) (by simp [hu.one]) rfl ?_ hB fun v' w' ho hg hbl hd => ?_
  · simp only [List.length_map, List.length_cons, List.length_nil, Nat.zero_add]
    have : (us.length + 1) * (24 + 1) ≤ 1000000000000 * 25 := Nat.mul_le_mul (by omega) (Nat.le_refl _)
    omega
  · have keep : ∀ {x : Value} {cs : List (List Value)}, Own w B 3 1 x cs → Own w' B 3 1 x cs := fun {x cs} hx => hx.keep fun c hc => hg.block c (hx.lt c hc).2 fun e => by
      rcases h2.1.2 with ⟨rfl, _⟩ | ⟨g, cap, cur, rfl, hbg, hgc, _⟩
      · simp [Value.ownBlock] at e
      · have hcg : c = g := by simpa [Value.ownBlock] using e
        subst hcg
        rcases hx.1.2 with ⟨rfl, _⟩ | ⟨g', cap', cur', rfl, _, hgc', _⟩
        · simp [Value.ownBlock] at hc
        · obtain rfl : g' = c := Option.some.inj hc
          have := hgc.symm.trans hgc'
          simp at this
    refine h v' w' trivial (sa_of hbl) ⟨us ++ [u], by simp [h1], by simpa using ho, fun i hi => ?_⟩
    by_cases hlt : i < us.length
    · rw [List.getElem_append_left hlt]
      have hil : i < ll.length := by omega
      have := keep (h3 i hlt)
      simpa [List.getD_eq_getElem?_getD, List.getElem?_append_left hil] using this
    · have hie : i = us.length := by simp at hi; omega
      subst hie
      rw [List.getElem_append_right (Nat.le_refl _)]
      have := keep hu
      simpa [List.getD_eq_getElem?_getD, h1] using this
theorem ref10list {s : Nat} (hs : s < 4096) : CallsV Tryd.prog 57 #[natV s] w fun v w' => Ext w w' ∧ Own w' w.heap.size 3 1 v ((lst s).map natC) := by
  have hn : Now w := trivial
  have hx : Ext w w := Ext.refl w
  (refine callsV_of Tryd.func57 rfl KR KR ?_; rw [Tryd.results57])
  (repeat' first
    | ((with_reducible refine at_row ?_); refine row1_a fun _ _ _ _ _ _ _ => ?_)
    | with_reducible first | (first | apply alloc_k | apply row_k); intro _ _ _ _ _ _ | (first | apply fork | apply forkp) <;> intro _ | refine forke (fun _ => ?_) fun _ _ => ?_ | refine tail_k fun _ _ _ => ?_ | refine ext_k fun _ _ _ => ?_ | refine need_a ?_ | refine st_agg KR rfl ON fun _ _ _ _ => ?_ | refine wpd_q_a ?_
    | simp (maxDischargeDepth := 3) only [↓X, ↓Y, ↓Q, S1, ↓reduceIte, Nat.reduceEqDiff, Nat.reduceAdd, Int.reduceLT, Int.reduceLE, Int.reduceNeg, Int.reduceBEq, Int.reduceBNe, Int.reduceEq, Nat.reduceLeDiff, Nat.reduceMul, Nat.reduceLT, *]
    | simp (singlePass := true) (maxDischargeDepth := 99) only [*, S2, Nat.reduceLT])
  refine loop_o 12 (fun w0 g0 k g w' => g 4 = .int .i64 k ∧ (g 0 = g0 0) ∧ ∃ v, g 3 = v ∧ Own w' w0.heap.size 3 1 v (((List.range k).filter fun i => s.testBit i).map natC)) KR (by decide) ?_ ?_ ?_
  · (repeat' first
    | ((with_reducible refine at_row ?_); refine row1_a fun _ _ _ _ _ _ _ => ?_)
    | with_reducible first | (first | apply alloc_k | apply row_k); intro _ _ _ _ _ _ | (first | apply fork | apply forkp) <;> intro _ | refine forke (fun _ => ?_) fun _ _ => ?_ | refine tail_k fun _ _ _ => ?_ | refine ext_k fun _ _ _ => ?_ | refine need_a ?_ | refine st_agg KR rfl ON fun _ _ _ _ => ?_ | refine wpd_q_a ?_
    | simp (maxDischargeDepth := 3) only [↓X, ↓Y, ↓Q, S1, ↓reduceIte, Nat.reduceEqDiff, Nat.reduceAdd, Int.reduceLT, Int.reduceLE, Int.reduceNeg, Int.reduceBEq, Int.reduceBNe, Int.reduceEq, Nat.reduceLeDiff, Nat.reduceMul, Nat.reduceLT, *]
    | simp (singlePass := true) (maxDischargeDepth := 99) only [*, S2, Nat.reduceLT])
    exact ⟨_, rfl, Own.nil _ _ _ _⟩
  · rintro k m g wk hk hlt nk sk bk hw ⟨hi, hf, v, hv5, hown⟩
    simp (maxDischargeDepth := 3) only [U, ↓reduceIte, Nat.reduceEqDiff, *] at hf
    have bw : Bl wk.heap.size wk wk := Bl.refl (Nat.le_refl _)
    have O := hown.o
    have hk12 : ((k : Int) < 12) := by omega
    have e := bit_eq1 (a := s) (k := k) (by omega) (by omega)
    have hle : ((List.range k).filter fun i => s.testBit i).length ≤ k := by have := List.length_filter_le (fun i => s.testBit i) (List.range k); simpa using this
    have hfil : ((List.range (k + 1)).filter fun i => s.testBit i) = ((List.range k).filter fun i => s.testBit i) ++ if s.testBit k = true then [k] else [] := by
      rw [List.range_succ, List.filter_append]
      congr 1
      rw [List.filter_cons]
      split <;> simp_all
    clear hown
    (repeat' first
    | ((with_reducible refine at_row ?_); refine row1_a fun _ _ _ _ _ _ _ => ?_)
    | with_reducible first | (first | apply alloc_k | apply row_k); intro _ _ _ _ _ _ | (first | apply fork | apply forkp) <;> intro _ | refine forke (fun _ => ?_) fun _ _ => ?_ | refine tail_k fun _ _ _ => ?_ | refine ext_k fun _ _ _ => ?_ | refine need_a ?_ | refine st_agg KR rfl ON fun _ _ _ _ => ?_ | refine wpd_q_a ?_
    | simp (maxDischargeDepth := 3) only [↓X, ↓Y, ↓Q, S1, ↓reduceIte, Nat.reduceEqDiff, Nat.reduceAdd, Int.reduceLT, Int.reduceLE, Int.reduceNeg, Int.reduceBEq, Int.reduceBNe, Int.reduceEq, Nat.reduceLeDiff, Nat.reduceMul, Nat.reduceLT, *]
    | simp (singlePass := true) (maxDischargeDepth := 99) only [*, S2, Nat.reduceLT])
    · rename_i b10 w10 n10 k10 s10 q10 l10
      refine appN k (O.1 _ FR) (k10.2.1 _ FR) (by omega) FR fun v' w9 n9 s9 hown9 => ?_
      (repeat' first
    | ((with_reducible refine at_row ?_); refine row1_a fun _ _ _ _ _ _ _ => ?_)
    | with_reducible first | (first | apply alloc_k | apply row_k); intro _ _ _ _ _ _ | (first | apply fork | apply forkp) <;> intro _ | refine forke (fun _ => ?_) fun _ _ => ?_ | refine tail_k fun _ _ _ => ?_ | refine ext_k fun _ _ _ => ?_ | refine need_a ?_ | refine st_agg KR rfl ON fun _ _ _ _ => ?_ | refine wpd_q_a ?_
    | simp (maxDischargeDepth := 3) only [↓X, ↓Y, ↓Q, S1, ↓reduceIte, Nat.reduceEqDiff, Nat.reduceAdd, Int.reduceLT, Int.reduceLE, Int.reduceNeg, Int.reduceBEq, Int.reduceBNe, Int.reduceEq, Nat.reduceLeDiff, Nat.reduceMul, Nat.reduceLT, *]
    | simp (singlePass := true) (maxDischargeDepth := 99) only [*, S2, Nat.reduceLT])
      refine next_k hk hlt ?_ FR
      (repeat' first
    | ((with_reducible refine at_row ?_); refine row1_a fun _ _ _ _ _ _ _ => ?_)
    | with_reducible first | (first | apply alloc_k | apply row_k); intro _ _ _ _ _ _ | (first | apply fork | apply forkp) <;> intro _ | refine forke (fun _ => ?_) fun _ _ => ?_ | refine tail_k fun _ _ _ => ?_ | refine ext_k fun _ _ _ => ?_ | refine need_a ?_ | refine st_agg KR rfl ON fun _ _ _ _ => ?_ | refine wpd_q_a ?_
    | simp (maxDischargeDepth := 3) only [↓X, ↓Y, ↓Q, S1, ↓reduceIte, Nat.reduceEqDiff, Nat.reduceAdd, Int.reduceLT, Int.reduceLE, Int.reduceNeg, Int.reduceBEq, Int.reduceBNe, Int.reduceEq, Nat.reduceLeDiff, Nat.reduceMul, Nat.reduceLT, *]
    | simp (singlePass := true) (maxDischargeDepth := 99) only [*, S2, Nat.reduceLT])
      refine ⟨_, rfl, ?_⟩
      exact hown9
    · refine next_k hk hlt ?_ FR
      (repeat' first
    | ((with_reducible refine at_row ?_); refine row1_a fun _ _ _ _ _ _ _ => ?_)
    | with_reducible first | (first | apply alloc_k | apply row_k); intro _ _ _ _ _ _ | (first | apply fork | apply forkp) <;> intro _ | refine forke (fun _ => ?_) fun _ _ => ?_ | refine tail_k fun _ _ _ => ?_ | refine ext_k fun _ _ _ => ?_ | refine need_a ?_ | refine st_agg KR rfl ON fun _ _ _ _ => ?_ | refine wpd_q_a ?_
    | simp (maxDischargeDepth := 3) only [↓X, ↓Y, ↓Q, S1, ↓reduceIte, Nat.reduceEqDiff, Nat.reduceAdd, Int.reduceLT, Int.reduceLE, Int.reduceNeg, Int.reduceBEq, Int.reduceBNe, Int.reduceEq, Nat.reduceLeDiff, Nat.reduceMul, Nat.reduceLT, *]
    | simp (singlePass := true) (maxDischargeDepth := 99) only [*, S2, Nat.reduceLT])
      refine ⟨_, rfl, ?_⟩
      exact O.1 _ FR
  · rintro g wk nk sk bk ⟨hi, hf, v, hv5, hown⟩
    simp (maxDischargeDepth := 3) only [U, ↓reduceIte, Nat.reduceEqDiff, *] at hf
    have O := hown.o
    have e12 : ((12 : Nat) : Int) = 12 := rfl
    clear hown
    (repeat' first
    | ((with_reducible refine at_row ?_); refine row1_a fun _ _ _ _ _ _ _ => ?_)
    | with_reducible first | (first | apply alloc_k | apply row_k); intro _ _ _ _ _ _ | (first | apply fork | apply forkp) <;> intro _ | refine forke (fun _ => ?_) fun _ _ => ?_ | refine tail_k fun _ _ _ => ?_ | refine ext_k fun _ _ _ => ?_ | refine need_a ?_ | refine st_agg KR rfl ON fun _ _ _ _ => ?_ | refine wpd_q_a ?_
    | simp (maxDischargeDepth := 3) only [↓X, ↓Y, ↓Q, S1, ↓reduceIte, Nat.reduceEqDiff, Nat.reduceAdd, Int.reduceLT, Int.reduceLE, Int.reduceNeg, Int.reduceBEq, Int.reduceBNe, Int.reduceEq, Nat.reduceLeDiff, Nat.reduceMul, Nat.reduceLT, *]
    | simp (singlePass := true) (maxDischargeDepth := 99) only [*, S2, Nat.reduceLT])
    exact (O.1 _ FR).more FR
theorem getN {l : List Nat} {i : Nat} (h : i < l.length) : l[i] = l.getD i 0 := by
  rw [List.getD_eq_getElem?_getD, List.getElem?_eq_getElem h]; rfl
theorem foldSub_lt (b : List Nat) : ∀ (L : List Nat) (t : Nat), t < 4096 → L.foldl (fun d k => sub d (b.getD k 0)) t < 4096
  | [], t, h => h
  | k :: r, t, h => foldSub_lt b r _ (sub_lt' h)
theorem foldOr_lt (b : List Nat) (hb : ∀ x, b.getD x 0 < 4096) : ∀ (L : List Nat) (t : Nat), t < 4096 → L.foldl (fun t k => t ||| b.getD k 0) t < 4096
  | [], t, h => h
  | k :: r, t, h => foldOr_lt b hb r _ (Nat.or_lt_two_pow (n := 12) h (hb k))
theorem foldl_take {α β : Type} (f : β → α → β) {l : List α} {k : Nat} (h : k < l.length) (b : β) : (l.take (k + 1)).foldl f b = f ((l.take k).foldl f b) l[k] := by
  simp only [List.take_add_one, List.getElem?_eq_getElem h, Option.toList_some, List.foldl_append, List.foldl_cons, List.foldl_nil]
theorem lst_len12 (s : Nat) : (lst s).length ≤ 12 := by have := List.length_filter_le (fun i => s.testBit i) (List.range 12); simpa [lst] using this
theorem appLL_take {α : Type} {l : List α} {k : Nat} (h : k < l.length) : l.take (k + 1) = l.take k ++ [l[k]] := by
  rw [List.take_add_one, List.getElem?_eq_getElem h, Option.toList_some]
theorem ref10Reduce {vs : List Value} {after : List (List Int)} (hB : B ≤ w.heap.size) (hv : LLR w B v vs after) : CallsV Tryd.prog 29 #[v] w fun r w' => Ext w w' ∧ ∃ o, r = .tuple #[o, intV (ofS after).1] ∧ OwnLL w' w.heap.size o (if (ofS after).1 = 0 then redR (bef (natA after)) else []) := by
  have hn : Now w := trivial
  have hx : Ext w w := Ext.refl w
  have hl := hv.len_
  have hl3 : lenN v = after.length := hl.2.2
  have hl1 := hl.1
  have hl2 := hl.2.1
  have hV := fun w' (h : Bl B w w') => hv.blz h
  have hva := fun w' (h : Bl B w w') (h3 : B ≤ w'.heap.size) => ref10Valid h3 (hV w' h)
  have hmax : after.length ≤ 9223372036854775807 := hv.max_
  have hbw : Bl B w w := Bl.refl hB
  have hok : (ofS after).1 = 0 → Hid (after.length ≤ 12 ∧ (∀ i (h : i < after.length), ∀ k ∈ after[i], 0 ≤ k ∧ k < after.length) ∧ (bef (natA after)).length = after.length ∧ (∀ x, (bef (natA after)).getD x 0 < 4096) ∧ (∀ i x, x ∈ lst ((bef (natA after)).getD i 0) → x < after.length)) := fun h => by
    obtain ⟨ds, hd, h12, hn, he⟩ := clos_eq h
    obtain ⟨hS, hr, hr0⟩ := dirs_sets hd
    have hr' : ∀ i k, k ∈ (natA after).getD i [] → k < (natA after).length := fun i k hk => by rw [natA_len]; exact (hr i k hk).1
    have hlt := bef_lt hn hr' (by rw [natA_len]; exact h12)
    refine ⟨h12, fun i hi k hk => ⟨hr0 i hi k hk, ?_⟩, by rw [bef, befN_len, natA_len], hlt, fun i x hx => ?_⟩
    · have := (hr i k.toNat (by rw [natA_get hi]; exact List.mem_map.2 ⟨k, hk, rfl⟩)).1
      have := hr0 i hi k hk
      omega
    · have := ((bef_iff hn i x).1 ((mem_lst' (hlt i)).1 hx))
      have := (Bef.lt hr' this).2
      rwa [natA_len] at this
  replace hV : Hid _ := hV
  clear hl
  generalize (ofS after).1 = e at *
  (refine callsV_of Tryd.func29 rfl KR KR ?_; rw [Tryd.results29])
  by_cases h0 : e = 0
  · subst h0
    obtain ⟨h12, hran, hbl, hblt, hin⟩ := (hok rfl).out
    rw [if_pos rfl]
    replace hran : Hid _ := hran
    clear hok
    (repeat' first
    | ((with_reducible refine at_row ?_); refine row1_a fun _ _ _ _ _ _ _ => ?_)
    | with_reducible first | (first | apply alloc_k | apply row_k); intro _ _ _ _ _ _ | (first | apply fork | apply forkp) <;> intro _ | refine forke (fun _ => ?_) fun _ _ => ?_ | refine tail_k fun _ _ _ => ?_ | refine ext_k fun _ _ _ => ?_ | refine need_a ?_ | refine st_agg KR rfl ON fun _ _ _ _ => ?_ | refine wpd_q_a ?_
    | ((with_reducible refine at_f 31 ?_); refine ret_k (hva _ FR FR) fun _ _ _ => ?_)
    | simp (maxDischargeDepth := 3) only [↓X, ↓Y, ↓Q, S1, ↓reduceIte, Nat.reduceEqDiff, Nat.reduceAdd, Int.reduceLT, Int.reduceLE, Int.reduceNeg, Int.reduceBEq, Int.reduceBNe, Int.reduceEq, Nat.reduceLeDiff, Nat.reduceMul, Nat.reduceLT, *]
    | simp (singlePass := true) (maxDischargeDepth := 99) only [*, S2, Nat.reduceLT])
    refine call_k (ref10before (B := B) FR (hV.out _ FR) h12 hran.out) ?_
    rintro _ w6 n6 s6 ⟨b, rfl, hbk, hbs⟩
    have kb := hbk.bk
    generalize bef (natA after) = O at *
    have hrl : (redR O).length = after.length := by simp [redR, hbl]
    replace hblt : Hid _ := hblt
    replace hin : Hid _ := hin
    clear hbk
    (repeat' first
    | ((with_reducible refine at_row ?_); refine row1_a fun _ _ _ _ _ _ _ => ?_)
    | with_reducible first | (first | apply alloc_k | apply row_k); intro _ _ _ _ _ _ | (first | apply fork | apply forkp) <;> intro _ | refine forke (fun _ => ?_) fun _ _ => ?_ | refine tail_k fun _ _ _ => ?_ | refine ext_k fun _ _ _ => ?_ | refine need_a ?_ | refine st_agg KR rfl ON fun _ _ _ _ => ?_ | refine wpd_q_a ?_
    | simp (maxDischargeDepth := 3) only [↓X, ↓Y, ↓Q, S1, ↓reduceIte, Nat.reduceEqDiff, Nat.reduceAdd, Int.reduceLT, Int.reduceLE, Int.reduceNeg, Int.reduceBEq, Int.reduceBNe, Int.reduceEq, Nat.reduceLeDiff, Nat.reduceMul, Nat.reduceLT, *]
    | simp (singlePass := true) (maxDischargeDepth := 99) only [*, S2, Nat.reduceLT])
    refine loop_o after.length (fun w0 g0 k g w' => g 20 = .int .i64 k ∧ (g 5 = g0 5 ∧ g 19 = g0 19) ∧ ∃ o, g 6 = o ∧ OwnLL w' w0.heap.size o ((redR O).take k)) KR hmax ?_ ?_ ?_
    · (repeat' first
    | ((with_reducible refine at_row ?_); refine row1_a fun _ _ _ _ _ _ _ => ?_)
    | with_reducible first | (first | apply alloc_k | apply row_k); intro _ _ _ _ _ _ | (first | apply fork | apply forkp) <;> intro _ | refine forke (fun _ => ?_) fun _ _ => ?_ | refine tail_k fun _ _ _ => ?_ | refine ext_k fun _ _ _ => ?_ | refine need_a ?_ | refine st_agg KR rfl ON fun _ _ _ _ => ?_ | refine wpd_q_a ?_
    | simp (maxDischargeDepth := 3) only [↓X, ↓Y, ↓Q, S1, ↓reduceIte, Nat.reduceEqDiff, Nat.reduceAdd, Int.reduceLT, Int.reduceLE, Int.reduceNeg, Int.reduceBEq, Int.reduceBNe, Int.reduceEq, Nat.reduceLeDiff, Nat.reduceMul, Nat.reduceLT, *]
    | simp (singlePass := true) (maxDischargeDepth := 99) only [*, S2, Nat.reduceLT])
      exact ⟨_, rfl, OwnLL.nil _ _⟩
    · rintro k m g wk hk hlt nk sk bk hw ⟨hi, hf, o, ho6, hown⟩
      simp (maxDischargeDepth := 3) only [U, ↓reduceIte, Nat.reduceEqDiff, *] at hf
      have bw : Bl wk.heap.size wk wk := Bl.refl (Nat.le_refl _)
      have g1 : (O.map natV)[k]? = some (.int .i64 (O.getD k 0 : Nat)) := rowN_get (by omega)
      have oo := hown.one
      have hs4 := hblt.out k
      have hOx := fun w' (h : Ext wk w') => hown.ext h
      replace hOx : Hid _ := hOx
      have hxk := Ext.refl wk
      clear hown
      (repeat' first
    | ((with_reducible refine at_row ?_); refine row1_a fun _ _ _ _ _ _ _ => ?_)
    | with_reducible first | (first | apply alloc_k | apply row_k); intro _ _ _ _ _ _ | (first | apply fork | apply forkp) <;> intro _ | refine forke (fun _ => ?_) fun _ _ => ?_ | refine tail_k fun _ _ _ => ?_ | refine ext_k fun _ _ _ => ?_ | refine need_a ?_ | refine st_agg KR rfl ON fun _ _ _ _ => ?_ | refine wpd_q_a ?_
    | simp (maxDischargeDepth := 3) only [↓X, ↓Y, ↓Q, S1, ↓reduceIte, Nat.reduceEqDiff, Nat.reduceAdd, Int.reduceLT, Int.reduceLE, Int.reduceNeg, Int.reduceBEq, Int.reduceBNe, Int.reduceEq, Nat.reduceLeDiff, Nat.reduceMul, Nat.reduceLT, *]
    | simp (singlePass := true) (maxDischargeDepth := 99) only [*, S2, Nat.reduceLT])
      refine call_k (ref10list (s := O.getD k 0) hs4) ?_
      intro u w7 n7 s7 hu
      have K := (hu.sl1 (f := natV)).k (Nat.le_refl _)
      have hll := lst_len12 (O.getD k 0)
      clear hu
      have e0 : Value.int .i64 (O.getD k 0 : Nat) = .int .i64 (((lst (O.getD k 0)).take 0).foldl (fun d k => sub d (O.getD k 0)) (O.getD k 0) : Nat) := rfl
      replace e0 : Hid _ := e0
      (repeat' first
    | ((with_reducible refine at_row ?_); refine row1_a fun _ _ _ _ _ _ _ => ?_)
    | with_reducible first | (first | apply alloc_k | apply row_k); intro _ _ _ _ _ _ | (first | apply fork | apply forkp) <;> intro _ | refine forke (fun _ => ?_) fun _ _ => ?_ | refine tail_k fun _ _ _ => ?_ | refine ext_k fun _ _ _ => ?_ | refine need_a ?_ | refine st_agg KR rfl ON fun _ _ _ _ => ?_ | refine wpd_q_a ?_
    | simp (maxDischargeDepth := 3) only [↓X, ↓Y, ↓Q, S1, ↓reduceIte, Nat.reduceEqDiff, Nat.reduceAdd, Int.reduceLT, Int.reduceLE, Int.reduceNeg, Int.reduceBEq, Int.reduceBNe, Int.reduceEq, Nat.reduceLeDiff, Nat.reduceMul, Nat.reduceLT, *]
    | simp (singlePass := true) (maxDischargeDepth := 99) only [*, S2, Nat.reduceLT])
      refine loop_o (lst (O.getD k 0)).length (fun w0 g0 j g w' => g 33 = .int .i64 j ∧ (g 5 = g0 5 ∧ g 6 = g0 6 ∧ g 19 = g0 19 ∧ g 20 = g0 20 ∧ g 31 = g0 31 ∧ g 32 = g0 32) ∧ g 8 = .int .i64 (((lst (O.getD k 0)).take j).foldl (fun d k => sub d (O.getD k 0)) (O.getD k 0) : Nat)) KR (by omega) ?_ ?_ ?_
      · (repeat' first
    | ((with_reducible refine at_row ?_); refine row1_a fun _ _ _ _ _ _ _ => ?_)
    | with_reducible first | (first | apply alloc_k | apply row_k); intro _ _ _ _ _ _ | (first | apply fork | apply forkp) <;> intro _ | refine forke (fun _ => ?_) fun _ _ => ?_ | refine tail_k fun _ _ _ => ?_ | refine ext_k fun _ _ _ => ?_ | refine need_a ?_ | refine st_agg KR rfl ON fun _ _ _ _ => ?_ | refine wpd_q_a ?_
    | simp (maxDischargeDepth := 3) only [↓X, ↓Y, ↓Q, S1, ↓reduceIte, Nat.reduceEqDiff, Nat.reduceAdd, Int.reduceLT, Int.reduceLE, Int.reduceNeg, Int.reduceBEq, Int.reduceBNe, Int.reduceEq, Nat.reduceLeDiff, Nat.reduceMul, Nat.reduceLT, *]
    | simp (singlePass := true) (maxDischargeDepth := 99) only [*, S2, Nat.reduceLT])
        all_goals exact e0.out
      · rintro j m2 g2 w2 hk2 hlt2 n2 s2 b2 hw2 ⟨hi2, hf2, h8⟩
        simp (maxDischargeDepth := 3) only [U, ↓reduceIte, Nat.reduceEqDiff, *] at hf2
        have hx12 := hin.out k _ (List.getElem_mem hlt2)
        have hft := foldl_take (fun d k => sub d (O.getD k 0)) hlt2 (O.getD k 0)
        have hd4 := foldSub_lt O ((lst (O.getD k 0)).take j) _ hs4
        have hx4 := hblt.out (lst (O.getD k 0))[j]
        have g2 : (O.map natV)[(lst (O.getD k 0))[j]]? = some (.int .i64 (O.getD (lst (O.getD k 0))[j] 0 : Nat)) := rowN_get (by omega)
        have e2 := andNotI_nat (a := ((lst (O.getD k 0)).take j).foldl (fun d k => sub d (O.getD k 0)) (O.getD k 0)) (b := O.getD (lst (O.getD k 0))[j] 0) (by omega) (by omega)
        replace hft : Hid _ := hft
        (repeat' first
    | ((with_reducible refine at_row ?_); refine row1_a fun _ _ _ _ _ _ _ => ?_)
    | with_reducible first | (first | apply alloc_k | apply row_k); intro _ _ _ _ _ _ | (first | apply fork | apply forkp) <;> intro _ | refine forke (fun _ => ?_) fun _ _ => ?_ | refine tail_k fun _ _ _ => ?_ | refine ext_k fun _ _ _ => ?_ | refine need_a ?_ | refine st_agg KR rfl ON fun _ _ _ _ => ?_ | refine wpd_q_a ?_
    | simp (maxDischargeDepth := 3) only [↓X, ↓Y, ↓Q, S1, ↓reduceIte, Nat.reduceEqDiff, Nat.reduceAdd, Int.reduceLT, Int.reduceLE, Int.reduceNeg, Int.reduceBEq, Int.reduceBNe, Int.reduceEq, Nat.reduceLeDiff, Nat.reduceMul, Nat.reduceLT, *]
    | simp (singlePass := true) (maxDischargeDepth := 99) only [*, S2, Nat.reduceLT])
        refine next_k hk2 hlt2 ?_ FR
        (repeat' first
    | ((with_reducible refine at_row ?_); refine row1_a fun _ _ _ _ _ _ _ => ?_)
    | with_reducible first | (first | apply alloc_k | apply row_k); intro _ _ _ _ _ _ | (first | apply fork | apply forkp) <;> intro _ | refine forke (fun _ => ?_) fun _ _ => ?_ | refine tail_k fun _ _ _ => ?_ | refine ext_k fun _ _ _ => ?_ | refine need_a ?_ | refine st_agg KR rfl ON fun _ _ _ _ => ?_ | refine wpd_q_a ?_
    | simp (maxDischargeDepth := 3) only [↓X, ↓Y, ↓Q, S1, ↓reduceIte, Nat.reduceEqDiff, Nat.reduceAdd, Int.reduceLT, Int.reduceLE, Int.reduceNeg, Int.reduceBEq, Int.reduceBNe, Int.reduceEq, Nat.reduceLeDiff, Nat.reduceMul, Nat.reduceLT, *]
    | simp (singlePass := true) (maxDischargeDepth := 99) only [*, S2, Nat.reduceLT])
        all_goals (rw [hft.out])
      · rintro g2 w2 n2 s2 b2 ⟨hi2, hf2, h8⟩
        simp (maxDischargeDepth := 3) only [U, ↓reduceIte, Nat.reduceEqDiff, *] at hf2
        rw [List.take_length] at h8
        have h8' : g2 8 = .int .i64 (outR O (O.getD k 0) : Nat) := h8
        have hso := foldSub_lt O (lst (O.getD k 0)) _ hs4
        have hrk : (redR O).take (k + 1) = (redR O).take k ++ [lst (outR O (O.getD k 0))] := by
          have hkl : k < (redR O).length := by omega
          rw [appLL_take hkl]
          have : (redR O)[k] = lst (outR O (O.getD k 0)) := by
            simp [redR, List.getD_eq_getElem?_getD, List.getElem?_eq_getElem (show k < O.length by omega)]
          rw [this]
        have hkl : ((redR O).take k).length < 1000000000000 := by simp; omega
        replace hrk : Hid _ := hrk
        clear h8 e0
        (repeat' first
    | ((with_reducible refine at_row ?_); refine row1_a fun _ _ _ _ _ _ _ => ?_)
    | with_reducible first | (first | apply alloc_k | apply row_k); intro _ _ _ _ _ _ | (first | apply fork | apply forkp) <;> intro _ | refine forke (fun _ => ?_) fun _ _ => ?_ | refine tail_k fun _ _ _ => ?_ | refine ext_k fun _ _ _ => ?_ | refine need_a ?_ | refine st_agg KR rfl ON fun _ _ _ _ => ?_ | refine wpd_q_a ?_
    | simp (maxDischargeDepth := 3) only [↓X, ↓Y, ↓Q, S1, ↓reduceIte, Nat.reduceEqDiff, Nat.reduceAdd, Int.reduceLT, Int.reduceLE, Int.reduceNeg, Int.reduceBEq, Int.reduceBNe, Int.reduceEq, Nat.reduceLeDiff, Nat.reduceMul, Nat.reduceLT, *]
    | simp (singlePass := true) (maxDischargeDepth := 99) only [*, S2, Nat.reduceLT])
        refine call_k (ref10list (s := outR O (O.getD k 0)) hso) ?_
        intro u2 w8 n8 s8 hu2
        have O2 := hu2.o
        clear hu2 K
        (repeat' first
    | ((with_reducible refine at_row ?_); refine row1_a fun _ _ _ _ _ _ _ => ?_)
    | with_reducible first | (first | apply alloc_k | apply row_k); intro _ _ _ _ _ _ | (first | apply fork | apply forkp) <;> intro _ | refine forke (fun _ => ?_) fun _ _ => ?_ | refine tail_k fun _ _ _ => ?_ | refine ext_k fun _ _ _ => ?_ | refine need_a ?_ | refine st_agg KR rfl ON fun _ _ _ _ => ?_ | refine wpd_q_a ?_
    | simp (maxDischargeDepth := 3) only [↓X, ↓Y, ↓Q, S1, ↓reduceIte, Nat.reduceEqDiff, Nat.reduceAdd, Int.reduceLT, Int.reduceLE, Int.reduceNeg, Int.reduceBEq, Int.reduceBNe, Int.reduceEq, Nat.reduceLeDiff, Nat.reduceMul, Nat.reduceLT, *]
    | simp (singlePass := true) (maxDischargeDepth := 99) only [*, S2, Nat.reduceLT])
        rename_i b10 w10 n10 k10 s10 q10 l10
        refine appLL (hOx.out _ FR) ((O2.1 _ FR).more FR) (k10.2.1 _ FR) hkl FR fun v' w9 n9 s9 hown9 => ?_
        rw [← hrk.out] at hown9
        have hO9 : Hid _ := hown9
        clear hown9
        (repeat' first
    | ((with_reducible refine at_row ?_); refine row1_a fun _ _ _ _ _ _ _ => ?_)
    | with_reducible first | (first | apply alloc_k | apply row_k); intro _ _ _ _ _ _ | (first | apply fork | apply forkp) <;> intro _ | refine forke (fun _ => ?_) fun _ _ => ?_ | refine tail_k fun _ _ _ => ?_ | refine ext_k fun _ _ _ => ?_ | refine need_a ?_ | refine st_agg KR rfl ON fun _ _ _ _ => ?_ | refine wpd_q_a ?_
    | simp (maxDischargeDepth := 3) only [↓X, ↓Y, ↓Q, S1, ↓reduceIte, Nat.reduceEqDiff, Nat.reduceAdd, Int.reduceLT, Int.reduceLE, Int.reduceNeg, Int.reduceBEq, Int.reduceBNe, Int.reduceEq, Nat.reduceLeDiff, Nat.reduceMul, Nat.reduceLT, *]
    | simp (singlePass := true) (maxDischargeDepth := 99) only [*, S2, Nat.reduceLT])
        refine next_k hk hlt ?_ FR
        (repeat' first
    | ((with_reducible refine at_row ?_); refine row1_a fun _ _ _ _ _ _ _ => ?_)
    | with_reducible first | (first | apply alloc_k | apply row_k); intro _ _ _ _ _ _ | (first | apply fork | apply forkp) <;> intro _ | refine forke (fun _ => ?_) fun _ _ => ?_ | refine tail_k fun _ _ _ => ?_ | refine ext_k fun _ _ _ => ?_ | refine need_a ?_ | refine st_agg KR rfl ON fun _ _ _ _ => ?_ | refine wpd_q_a ?_
    | simp (maxDischargeDepth := 3) only [↓X, ↓Y, ↓Q, S1, ↓reduceIte, Nat.reduceEqDiff, Nat.reduceAdd, Int.reduceLT, Int.reduceLE, Int.reduceNeg, Int.reduceBEq, Int.reduceBNe, Int.reduceEq, Nat.reduceLeDiff, Nat.reduceMul, Nat.reduceLT, *]
    | simp (singlePass := true) (maxDischargeDepth := 99) only [*, S2, Nat.reduceLT])
        exact ⟨_, rfl, hO9.out⟩
    · rintro g wk nk sk bk ⟨hi, hf, o, ho6, hown⟩
      simp (maxDischargeDepth := 3) only [U, ↓reduceIte, Nat.reduceEqDiff, *] at hf
      rw [← hrl, List.take_length] at hown
      have hO := fun w' (h : Ext wk w') => hown.ext h
      have oo := hown.one
      have hxk := Ext.refl wk
      replace hO : Hid _ := hO
      clear hown
      (repeat' first
    | ((with_reducible refine at_row ?_); refine row1_a fun _ _ _ _ _ _ _ => ?_)
    | with_reducible first | (first | apply alloc_k | apply row_k); intro _ _ _ _ _ _ | (first | apply fork | apply forkp) <;> intro _ | refine forke (fun _ => ?_) fun _ _ => ?_ | refine tail_k fun _ _ _ => ?_ | refine ext_k fun _ _ _ => ?_ | refine need_a ?_ | refine st_agg KR rfl ON fun _ _ _ _ => ?_ | refine wpd_q_a ?_
    | simp (maxDischargeDepth := 3) only [↓X, ↓Y, ↓Q, S1, ↓reduceIte, Nat.reduceEqDiff, Nat.reduceAdd, Int.reduceLT, Int.reduceLE, Int.reduceNeg, Int.reduceBEq, Int.reduceBNe, Int.reduceEq, Nat.reduceLeDiff, Nat.reduceMul, Nat.reduceLT, *]
    | simp (singlePass := true) (maxDischargeDepth := 99) only [*, S2, Nat.reduceLT])
      refine ⟨_, rfl, ?_⟩
      exact (hO.out _ FR).more FR
  · have e1 : (e == 0) = false := by simpa using h0
    rw [if_neg h0]
    clear hok
    (repeat' first
    | ((with_reducible refine at_row ?_); refine row1_a fun _ _ _ _ _ _ _ => ?_)
    | with_reducible first | (first | apply alloc_k | apply row_k); intro _ _ _ _ _ _ | (first | apply fork | apply forkp) <;> intro _ | refine forke (fun _ => ?_) fun _ _ => ?_ | refine tail_k fun _ _ _ => ?_ | refine ext_k fun _ _ _ => ?_ | refine need_a ?_ | refine st_agg KR rfl ON fun _ _ _ _ => ?_ | refine wpd_q_a ?_
    | ((with_reducible refine at_f 31 ?_); refine ret_k (hva _ FR FR) fun _ _ _ => ?_)
    | simp (maxDischargeDepth := 3) only [↓X, ↓Y, ↓Q, S1, ↓reduceIte, Nat.reduceEqDiff, Nat.reduceAdd, Int.reduceLT, Int.reduceLE, Int.reduceNeg, Int.reduceBEq, Int.reduceBNe, Int.reduceEq, Nat.reduceLeDiff, Nat.reduceMul, Nat.reduceLT, *]
    | simp (singlePass := true) (maxDischargeDepth := 99) only [*, S2, Nat.reduceLT])
    all_goals exact ⟨_, rfl, OwnLL.nil _ _⟩
theorem orderReduce {vs : List Value} {after : List (List Int)} (hT : TabW w) (hB : B ≤ w.heap.size) (hv : LLR w B v vs after) : CallsV Tryd.prog 13 #[v] w fun r w' => Ext w w' ∧ ∃ o, r = .tuple #[o, intV (ofS after).1] ∧ OwnLL w' w.heap.size o (if (ofS after).1 = 0 then redR (bef (natA after)) else []) := by
  have hn : Now w := trivial
  have hx : Ext w w := Ext.refl w
  have hT' := fun w' (h : Ext w w') => hT.ext h
  have hV := fun w' (h : Bl B w w') => hv.blz h
  have hbw : Bl B w w := Bl.refl hB
  have hok : (ofS after).1 = 0 → Hid ((ofS after).2.1.length ≤ 12 ∧ (ofS after).2.2.length = (ofS after).2.1.length ∧ (∀ x, (ofS after).2.1.getD x 0 < 4096) ∧ (∀ x, (ofS after).2.2.getD x 0 < 4096) ∧ (∀ i x, x ∈ lst ((ofS after).2.1.getD i 0) → x < (ofS after).2.1.length) ∧ redR (bef (natA after)) = redO (ofS after).2.1 (ofS after).2.2) := fun h => by
    have hre := red_eq h
    obtain ⟨ds, hd, h12, hn, he⟩ := clos_eq h
    obtain ⟨hS, hr, hr0⟩ := dirs_sets hd
    have hr' : ∀ i k, k ∈ (natA after).getD i [] → k < (natA after).length := fun i k hk => by rw [natA_len]; exact (hr i k hk).1
    have hlt := bef_lt hn hr' (by rw [natA_len]; exact h12)
    have hdl := dirs_lt hd h12
    rw [he] at hre ⊢
    have hl : ds.length = after.length := by rw [hS.1, natA_len]
    refine ⟨by simp only; omega, by simp only [bef, befN_len, natA_len]; omega, hdl, hlt, fun i x hx => ?_, hre.symm⟩
    have := (hr i x ((hS.2 i x).1 ((mem_lst' (hdl i)).1 hx))).1
    simp only
    omega
  replace hV : Hid _ := hV
  have hof := fun w' (h1 : Bl B w w') (h2 : Ext w w') (h3 : B ≤ w'.heap.size) => orderOf (hT' w' h2) h3 (hV.out w' h1)
  unfold OfR at hof
  replace hof : Hid _ := hof
  generalize ofS after = S at *
  obtain ⟨e, ds, al⟩ := S
  simp only at hok hof ⊢
  (refine callsV_of Tryd.func13 rfl KR KR ?_; rw [Tryd.results13])
  (repeat' first
    | ((with_reducible refine at_row ?_); refine row1_a fun _ _ _ _ _ _ _ => ?_)
    | with_reducible first | (first | apply alloc_k | apply row_k); intro _ _ _ _ _ _ | (first | apply fork | apply forkp) <;> intro _ | refine forke (fun _ => ?_) fun _ _ => ?_ | refine tail_k fun _ _ _ => ?_ | refine ext_k fun _ _ _ => ?_ | refine need_a ?_ | refine st_agg KR rfl ON fun _ _ _ _ => ?_ | refine wpd_q_a ?_
    | simp (maxDischargeDepth := 3) only [↓X, ↓Y, ↓Q, S1, ↓reduceIte, Nat.reduceEqDiff, Nat.reduceAdd, Int.reduceLT, Int.reduceLE, Int.reduceNeg, Int.reduceBEq, Int.reduceBNe, Int.reduceEq, Nat.reduceLeDiff, Nat.reduceMul, Nat.reduceLT, *]
    | simp (singlePass := true) (maxDischargeDepth := 99) only [*, S2, Nat.reduceLT])
  refine call_k (hof.out _ FR FR FR) ?_
  rintro _ w1 n1 s1 ⟨nv, vd, va, rfl, hone, hrow⟩
  obtain ⟨o1, o2, o3⟩ := hone
  by_cases h0 : e = 0
  · subst h0
    obtain ⟨h12, hal, hdl, hbl, hin, hre⟩ := (hok rfl).out
    obtain ⟨_, hvd, hva⟩ := hrow rfl
    have KD := hvd.k (Nat.le_refl _)
    have KA := hva.k (Nat.le_refl _)
    rw [if_pos rfl, hre]
    replace hdl : Hid _ := hdl
    replace hbl : Hid _ := hbl
    replace hin : Hid _ := hin
    have hrl : (redO ds al).length = ds.length := by simp [redO]
    clear hok hrow hvd hva hre
    (repeat' first
    | ((with_reducible refine at_row ?_); refine row1_a fun _ _ _ _ _ _ _ => ?_)
    | with_reducible first | (first | apply alloc_k | apply row_k); intro _ _ _ _ _ _ | (first | apply fork | apply forkp) <;> intro _ | refine forke (fun _ => ?_) fun _ _ => ?_ | refine tail_k fun _ _ _ => ?_ | refine ext_k fun _ _ _ => ?_ | refine need_a ?_ | refine st_agg KR rfl ON fun _ _ _ _ => ?_ | refine wpd_q_a ?_
    | simp (maxDischargeDepth := 3) only [↓X, ↓Y, ↓Q, S1, ↓reduceIte, Nat.reduceEqDiff, Nat.reduceAdd, Int.reduceLT, Int.reduceLE, Int.reduceNeg, Int.reduceBEq, Int.reduceBNe, Int.reduceEq, Nat.reduceLeDiff, Nat.reduceMul, Nat.reduceLT, *]
    | simp (singlePass := true) (maxDischargeDepth := 99) only [*, S2, Nat.reduceLT])
    refine loop_o ds.length (fun w0 g0 k g w' => g 23 = .int .i64 k ∧ (g 4 = g0 4 ∧ g 21 = g0 21 ∧ g 22 = g0 22) ∧ ∃ o, g 6 = o ∧ OwnLL w' w0.heap.size o ((redO ds al).take k)) KR (by omega) ?_ ?_ ?_
    · (repeat' first
    | ((with_reducible refine at_row ?_); refine row1_a fun _ _ _ _ _ _ _ => ?_)
    | with_reducible first | (first | apply alloc_k | apply row_k); intro _ _ _ _ _ _ | (first | apply fork | apply forkp) <;> intro _ | refine forke (fun _ => ?_) fun _ _ => ?_ | refine tail_k fun _ _ _ => ?_ | refine ext_k fun _ _ _ => ?_ | refine need_a ?_ | refine st_agg KR rfl ON fun _ _ _ _ => ?_ | refine wpd_q_a ?_
    | simp (maxDischargeDepth := 3) only [↓X, ↓Y, ↓Q, S1, ↓reduceIte, Nat.reduceEqDiff, Nat.reduceAdd, Int.reduceLT, Int.reduceLE, Int.reduceNeg, Int.reduceBEq, Int.reduceBNe, Int.reduceEq, Nat.reduceLeDiff, Nat.reduceMul, Nat.reduceLT, *]
    | simp (singlePass := true) (maxDischargeDepth := 99) only [*, S2, Nat.reduceLT])
      exact ⟨_, rfl, OwnLL.nil _ _⟩
    · rintro k m g wk hk hlt nk sk bk hw ⟨hi, hf, o, ho6, hown⟩
      simp (maxDischargeDepth := 3) only [U, ↓reduceIte, Nat.reduceEqDiff, *] at hf
      have bw : Bl wk.heap.size wk wk := Bl.refl (Nat.le_refl _)
      have oo := hown.one
      have hdk : ds[k] = ds.getD k 0 := by simp [List.getD_eq_getElem?_getD, List.getElem?_eq_getElem hlt]
      have hs4 := hdl.out k
      have hOx := fun w' (h : Ext wk w') => hown.ext h
      replace hOx : Hid _ := hOx
      have hxk := Ext.refl wk
      clear hown
      (repeat' first
    | ((with_reducible refine at_row ?_); refine row1_a fun _ _ _ _ _ _ _ => ?_)
    | with_reducible first | (first | apply alloc_k | apply row_k); intro _ _ _ _ _ _ | (first | apply fork | apply forkp) <;> intro _ | refine forke (fun _ => ?_) fun _ _ => ?_ | refine tail_k fun _ _ _ => ?_ | refine ext_k fun _ _ _ => ?_ | refine need_a ?_ | refine st_agg KR rfl ON fun _ _ _ _ => ?_ | refine wpd_q_a ?_
    | simp (maxDischargeDepth := 3) only [↓X, ↓Y, ↓Q, S1, ↓reduceIte, Nat.reduceEqDiff, Nat.reduceAdd, Int.reduceLT, Int.reduceLE, Int.reduceNeg, Int.reduceBEq, Int.reduceBNe, Int.reduceEq, Nat.reduceLeDiff, Nat.reduceMul, Nat.reduceLT, *, natV, intV]
    | simp (singlePass := true) (maxDischargeDepth := 99) only [*, S2, Nat.reduceLT, natV, intV])
      refine call_k (orderList (s := ds.getD k 0) (hT' _ FR) hs4) ?_
      intro u w7 n7 s7 hu
      have K := (hu.sl1 (f := natV)).k (Nat.le_refl _)
      have hll := lst_len12 (ds.getD k 0)
      clear hu
      have e0 : Value.int .i64 0 = .int .i64 (((lst (ds.getD k 0)).take 0).foldl (fun t k => t ||| al.getD k 0) 0 : Nat) := rfl
      replace e0 : Hid _ := e0
      (repeat' first
    | ((with_reducible refine at_row ?_); refine row1_a fun _ _ _ _ _ _ _ => ?_)
    | with_reducible first | (first | apply alloc_k | apply row_k); intro _ _ _ _ _ _ | (first | apply fork | apply forkp) <;> intro _ | refine forke (fun _ => ?_) fun _ _ => ?_ | refine tail_k fun _ _ _ => ?_ | refine ext_k fun _ _ _ => ?_ | refine need_a ?_ | refine st_agg KR rfl ON fun _ _ _ _ => ?_ | refine wpd_q_a ?_
    | simp (maxDischargeDepth := 3) only [↓X, ↓Y, ↓Q, S1, ↓reduceIte, Nat.reduceEqDiff, Nat.reduceAdd, Int.reduceLT, Int.reduceLE, Int.reduceNeg, Int.reduceBEq, Int.reduceBNe, Int.reduceEq, Nat.reduceLeDiff, Nat.reduceMul, Nat.reduceLT, *, natV, intV]
    | simp (singlePass := true) (maxDischargeDepth := 99) only [*, S2, Nat.reduceLT, natV, intV])
      refine loop_o (lst (ds.getD k 0)).length (fun w0 g0 j g w' => g 30 = .int .i64 j ∧ (g 4 = g0 4 ∧ g 6 = g0 6 ∧ g 8 = g0 8 ∧ g 21 = g0 21 ∧ g 22 = g0 22 ∧ g 23 = g0 23 ∧ g 28 = g0 28 ∧ g 29 = g0 29) ∧ g 9 = .int .i64 (((lst (ds.getD k 0)).take j).foldl (fun t k => t ||| al.getD k 0) 0 : Nat)) KR (by omega) ?_ ?_ ?_
      · (repeat' first
    | ((with_reducible refine at_row ?_); refine row1_a fun _ _ _ _ _ _ _ => ?_)
    | with_reducible first | (first | apply alloc_k | apply row_k); intro _ _ _ _ _ _ | (first | apply fork | apply forkp) <;> intro _ | refine forke (fun _ => ?_) fun _ _ => ?_ | refine tail_k fun _ _ _ => ?_ | refine ext_k fun _ _ _ => ?_ | refine need_a ?_ | refine st_agg KR rfl ON fun _ _ _ _ => ?_ | refine wpd_q_a ?_
    | simp (maxDischargeDepth := 3) only [↓X, ↓Y, ↓Q, S1, ↓reduceIte, Nat.reduceEqDiff, Nat.reduceAdd, Int.reduceLT, Int.reduceLE, Int.reduceNeg, Int.reduceBEq, Int.reduceBNe, Int.reduceEq, Nat.reduceLeDiff, Nat.reduceMul, Nat.reduceLT, *]
    | simp (singlePass := true) (maxDischargeDepth := 99) only [*, S2, Nat.reduceLT])
        all_goals exact e0.out
      · rintro j m2 g2 w2 hk2 hlt2 n2 s2 b2 hw2 ⟨hi2, hf2, h9⟩
        simp (maxDischargeDepth := 3) only [U, ↓reduceIte, Nat.reduceEqDiff, *] at hf2
        have hx12 := hin.out k _ (List.getElem_mem hlt2)
        have hft := foldl_take (fun t k => t ||| al.getD k 0) hlt2 0
        have hd4 := foldOr_lt al hbl.out ((lst (ds.getD k 0)).take j) 0 (by decide)
        have hx4 := hbl.out (lst (ds.getD k 0))[j]
        have hxa : (lst (ds.getD k 0))[j] < al.length := by omega
        have hay : al[(lst (ds.getD k 0))[j]] = al.getD (lst (ds.getD k 0))[j] 0 := getN hxa
        have e2 := orI_nat (a := ((lst (ds.getD k 0)).take j).foldl (fun t k => t ||| al.getD k 0) 0) (b := al.getD (lst (ds.getD k 0))[j] 0) (by omega) (by omega)
        replace hft : Hid _ := hft
        (repeat' first
    | ((with_reducible refine at_row ?_); refine row1_a fun _ _ _ _ _ _ _ => ?_)
    | with_reducible first | (first | apply alloc_k | apply row_k); intro _ _ _ _ _ _ | (first | apply fork | apply forkp) <;> intro _ | refine forke (fun _ => ?_) fun _ _ => ?_ | refine tail_k fun _ _ _ => ?_ | refine ext_k fun _ _ _ => ?_ | refine need_a ?_ | refine st_agg KR rfl ON fun _ _ _ _ => ?_ | refine wpd_q_a ?_
    | simp (maxDischargeDepth := 3) only [↓X, ↓Y, ↓Q, S1, ↓reduceIte, Nat.reduceEqDiff, Nat.reduceAdd, Int.reduceLT, Int.reduceLE, Int.reduceNeg, Int.reduceBEq, Int.reduceBNe, Int.reduceEq, Nat.reduceLeDiff, Nat.reduceMul, Nat.reduceLT, *, natV, intV]
    | simp (singlePass := true) (maxDischargeDepth := 99) only [*, S2, Nat.reduceLT, natV, intV])
        refine next_k hk2 hlt2 ?_ FR
        (repeat' first
    | ((with_reducible refine at_row ?_); refine row1_a fun _ _ _ _ _ _ _ => ?_)
    | with_reducible first | (first | apply alloc_k | apply row_k); intro _ _ _ _ _ _ | (first | apply fork | apply forkp) <;> intro _ | refine forke (fun _ => ?_) fun _ _ => ?_ | refine tail_k fun _ _ _ => ?_ | refine ext_k fun _ _ _ => ?_ | refine need_a ?_ | refine st_agg KR rfl ON fun _ _ _ _ => ?_ | refine wpd_q_a ?_
    | simp (maxDischargeDepth := 3) only [↓X, ↓Y, ↓Q, S1, ↓reduceIte, Nat.reduceEqDiff, Nat.reduceAdd, Int.reduceLT, Int.reduceLE, Int.reduceNeg, Int.reduceBEq, Int.reduceBNe, Int.reduceEq, Nat.reduceLeDiff, Nat.reduceMul, Nat.reduceLT, *]
    | simp (singlePass := true) (maxDischargeDepth := 99) only [*, S2, Nat.reduceLT])
        all_goals (rw [hft.out])
      · rintro g2 w2 n2 s2 b2 ⟨hi2, hf2, h9⟩
        simp (maxDischargeDepth := 3) only [U, ↓reduceIte, Nat.reduceEqDiff, *] at hf2
        rw [List.take_length] at h9
        have h9' : g2 9 = .int .i64 (thrO al (ds.getD k 0) : Nat) := h9
        have ht4 : thrO al (ds.getD k 0) < 4096 := foldOr_lt al hbl.out _ 0 (by decide)
        have hso := sub_lt' (t := thrO al (ds.getD k 0)) hs4
        have e3 := andNotI_nat (a := ds.getD k 0) (b := thrO al (ds.getD k 0)) (by omega) (by omega)
        have hrk : (redO ds al).take (k + 1) = (redO ds al).take k ++ [lst (sub (ds.getD k 0) (thrO al (ds.getD k 0)))] := by
          have hkl : k < (redO ds al).length := by omega
          rw [appLL_take hkl]
          have : (redO ds al)[k] = lst (sub (ds.getD k 0) (thrO al (ds.getD k 0))) := by
            simp only [redO, List.getElem_map]
            rw [hdk]
          rw [this]
        have hkl : ((redO ds al).take k).length < 1000000000000 := by simp; omega
        replace hrk : Hid _ := hrk
        clear h9 e0
        (repeat' first
    | ((with_reducible refine at_row ?_); refine row1_a fun _ _ _ _ _ _ _ => ?_)
    | with_reducible first | (first | apply alloc_k | apply row_k); intro _ _ _ _ _ _ | (first | apply fork | apply forkp) <;> intro _ | refine forke (fun _ => ?_) fun _ _ => ?_ | refine tail_k fun _ _ _ => ?_ | refine ext_k fun _ _ _ => ?_ | refine need_a ?_ | refine st_agg KR rfl ON fun _ _ _ _ => ?_ | refine wpd_q_a ?_
    | simp (maxDischargeDepth := 3) only [↓X, ↓Y, ↓Q, S1, ↓reduceIte, Nat.reduceEqDiff, Nat.reduceAdd, Int.reduceLT, Int.reduceLE, Int.reduceNeg, Int.reduceBEq, Int.reduceBNe, Int.reduceEq, Nat.reduceLeDiff, Nat.reduceMul, Nat.reduceLT, *, natV, intV]
    | simp (singlePass := true) (maxDischargeDepth := 99) only [*, S2, Nat.reduceLT, natV, intV])
        refine call_k (orderList (s := sub (ds.getD k 0) (thrO al (ds.getD k 0))) (hT' _ FR) hso) ?_
        intro u2 w8 n8 s8 hu2
        have O2 := hu2.o
        clear hu2 K
        (repeat' first
    | ((with_reducible refine at_row ?_); refine row1_a fun _ _ _ _ _ _ _ => ?_)
    | with_reducible first | (first | apply alloc_k | apply row_k); intro _ _ _ _ _ _ | (first | apply fork | apply forkp) <;> intro _ | refine forke (fun _ => ?_) fun _ _ => ?_ | refine tail_k fun _ _ _ => ?_ | refine ext_k fun _ _ _ => ?_ | refine need_a ?_ | refine st_agg KR rfl ON fun _ _ _ _ => ?_ | refine wpd_q_a ?_
    | simp (maxDischargeDepth := 3) only [↓X, ↓Y, ↓Q, S1, ↓reduceIte, Nat.reduceEqDiff, Nat.reduceAdd, Int.reduceLT, Int.reduceLE, Int.reduceNeg, Int.reduceBEq, Int.reduceBNe, Int.reduceEq, Nat.reduceLeDiff, Nat.reduceMul, Nat.reduceLT, *]
    | simp (singlePass := true) (maxDischargeDepth := 99) only [*, S2, Nat.reduceLT])
        rename_i b10 w10 n10 k10 s10 q10 l10
        refine appLL (hOx.out _ FR) ((O2.1 _ FR).more FR) (k10.2.1 _ FR) hkl FR fun v' w9 n9 s9 hown9 => ?_
        rw [← hrk.out] at hown9
        have hO9 : Hid _ := hown9
        clear hown9
        (repeat' first
    | ((with_reducible refine at_row ?_); refine row1_a fun _ _ _ _ _ _ _ => ?_)
    | with_reducible first | (first | apply alloc_k | apply row_k); intro _ _ _ _ _ _ | (first | apply fork | apply forkp) <;> intro _ | refine forke (fun _ => ?_) fun _ _ => ?_ | refine tail_k fun _ _ _ => ?_ | refine ext_k fun _ _ _ => ?_ | refine need_a ?_ | refine st_agg KR rfl ON fun _ _ _ _ => ?_ | refine wpd_q_a ?_
    | simp (maxDischargeDepth := 3) only [↓X, ↓Y, ↓Q, S1, ↓reduceIte, Nat.reduceEqDiff, Nat.reduceAdd, Int.reduceLT, Int.reduceLE, Int.reduceNeg, Int.reduceBEq, Int.reduceBNe, Int.reduceEq, Nat.reduceLeDiff, Nat.reduceMul, Nat.reduceLT, *]
    | simp (singlePass := true) (maxDischargeDepth := 99) only [*, S2, Nat.reduceLT])
        refine next_k hk hlt ?_ FR
        (repeat' first
    | ((with_reducible refine at_row ?_); refine row1_a fun _ _ _ _ _ _ _ => ?_)
    | with_reducible first | (first | apply alloc_k | apply row_k); intro _ _ _ _ _ _ | (first | apply fork | apply forkp) <;> intro _ | refine forke (fun _ => ?_) fun _ _ => ?_ | refine tail_k fun _ _ _ => ?_ | refine ext_k fun _ _ _ => ?_ | refine need_a ?_ | refine st_agg KR rfl ON fun _ _ _ _ => ?_ | refine wpd_q_a ?_
    | simp (maxDischargeDepth := 3) only [↓X, ↓Y, ↓Q, S1, ↓reduceIte, Nat.reduceEqDiff, Nat.reduceAdd, Int.reduceLT, Int.reduceLE, Int.reduceNeg, Int.reduceBEq, Int.reduceBNe, Int.reduceEq, Nat.reduceLeDiff, Nat.reduceMul, Nat.reduceLT, *]
    | simp (singlePass := true) (maxDischargeDepth := 99) only [*, S2, Nat.reduceLT])
        exact ⟨_, rfl, hO9.out⟩
    · rintro g wk nk sk bk ⟨hi, hf, o, ho6, hown⟩
      simp (maxDischargeDepth := 3) only [U, ↓reduceIte, Nat.reduceEqDiff, *] at hf
      rw [← hrl, List.take_length] at hown
      have hO := fun w' (h : Ext wk w') => hown.ext h
      have oo := hown.one
      have hxk := Ext.refl wk
      replace hO : Hid _ := hO
      clear hown
      (repeat' first
    | ((with_reducible refine at_row ?_); refine row1_a fun _ _ _ _ _ _ _ => ?_)
    | with_reducible first | (first | apply alloc_k | apply row_k); intro _ _ _ _ _ _ | (first | apply fork | apply forkp) <;> intro _ | refine forke (fun _ => ?_) fun _ _ => ?_ | refine tail_k fun _ _ _ => ?_ | refine ext_k fun _ _ _ => ?_ | refine need_a ?_ | refine st_agg KR rfl ON fun _ _ _ _ => ?_ | refine wpd_q_a ?_
    | simp (maxDischargeDepth := 3) only [↓X, ↓Y, ↓Q, S1, ↓reduceIte, Nat.reduceEqDiff, Nat.reduceAdd, Int.reduceLT, Int.reduceLE, Int.reduceNeg, Int.reduceBEq, Int.reduceBNe, Int.reduceEq, Nat.reduceLeDiff, Nat.reduceMul, Nat.reduceLT, *]
    | simp (singlePass := true) (maxDischargeDepth := 99) only [*, S2, Nat.reduceLT])
      refine ⟨_, rfl, ?_⟩
      exact (hO.out _ FR).more FR
  · have e1 : (e == 0) = false := by simpa using h0
    rw [if_neg h0]
    clear hok hrow
    (repeat' first
    | ((with_reducible refine at_row ?_); refine row1_a fun _ _ _ _ _ _ _ => ?_)
    | with_reducible first | (first | apply alloc_k | apply row_k); intro _ _ _ _ _ _ | (first | apply fork | apply forkp) <;> intro _ | refine forke (fun _ => ?_) fun _ _ => ?_ | refine tail_k fun _ _ _ => ?_ | refine ext_k fun _ _ _ => ?_ | refine need_a ?_ | refine st_agg KR rfl ON fun _ _ _ _ => ?_ | refine wpd_q_a ?_
    | simp (maxDischargeDepth := 3) only [↓X, ↓Y, ↓Q, S1, ↓reduceIte, Nat.reduceEqDiff, Nat.reduceAdd, Int.reduceLT, Int.reduceLE, Int.reduceNeg, Int.reduceBEq, Int.reduceBNe, Int.reduceEq, Nat.reduceLeDiff, Nat.reduceMul, Nat.reduceLT, *]
    | simp (singlePass := true) (maxDischargeDepth := 99) only [*, S2, Nat.reduceLT])
    all_goals exact ⟨_, rfl, OwnLL.nil _ _⟩
end
end Go.Proofs.YteeaccnklkcchaaDoor
