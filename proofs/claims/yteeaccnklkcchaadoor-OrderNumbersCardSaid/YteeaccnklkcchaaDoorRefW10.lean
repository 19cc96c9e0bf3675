
/- The document's answer, layer 10: how many lines go on from each ideal (a table), Count. -/
import Derived.Test.YteeaccnklkcchaaDoorRefE10
namespace Go.Proofs.YteeaccnklkcchaaDoor
set_option linter.unusedSimpArgs false
set_option linter.unusedVariables false
open Go Go.RowKit
set_option maxRecDepth 100000
set_option linter.unusedSectionVars false
set_option maxHeartbeats 2000000
/-- The table, known from s on. -/
def tabS (ls : List (List Nat)) (ds : List Nat) (M s : Nat) : List Nat := (List.range M).map fun t => if s ≤ t ∧ idealA ls t = true then wayS ds t else 0
theorem tabS_len (ls : List (List Nat)) (ds : List Nat) (M s : Nat) : (tabS ls ds M s).length = M := by simp [tabS]
theorem tabS_get {ls : List (List Nat)} {ds : List Nat} {M s t : Nat} (h : t < M) : (tabS ls ds M s).getD t 0 = if s ≤ t ∧ idealA ls t = true then wayS ds t else 0 := by
  unfold tabS
  rw [List.getD_eq_getElem?_getD, List.getElem?_map, List.getElem?_range h]
  rfl
theorem tabS_start {ls : List (List Nat)} {ds : List Nat} {M : Nat} (hM : 0 < M) (hi : idealA ls (M - 1) = true) (hw : wayS ds (M - 1) = 1) : (List.replicate M 0).set (M - 1) 1 = tabS ls ds M (M - 1) := by
  apply List.ext_getElem (by simp [tabS])
  intro i h1 h2
  simp only [List.length_set, List.length_replicate] at h1
  simp only [tabS, List.getElem_map, List.getElem_range, List.getElem_set, List.getElem_replicate]
  by_cases e : M - 1 = i
  · subst e; simp [hi, hw]
  · rw [if_neg e, if_neg (by omega)]
theorem tabS_not {ls : List (List Nat)} {ds : List Nat} {M s : Nat} (h : idealA ls s = false) : tabS ls ds M s = tabS ls ds M (s + 1) := by
  unfold tabS
  refine List.map_congr_left fun t _ => ?_
  by_cases e : t = s
  · subst e; simp [h]
  · by_cases h2 : s ≤ t
    · have : s + 1 ≤ t := by omega
      simp [h2, this]
    · have : ¬ s + 1 ≤ t := by omega
      simp [h2, this]
theorem tabS_set {ls : List (List Nat)} {ds : List Nat} {M s : Nat} (h : idealA ls s = true) : tabS ls ds M s = (tabS ls ds M (s + 1)).set s (wayS ds s) := by
  apply List.ext_getElem (by simp [tabS])
  intro i h1 h2
  simp only [tabS, List.getElem_map, List.getElem_range, List.getElem_set]
  by_cases e : s = i
  · subst e; simp [h]
  · rw [if_neg e]
    by_cases h2 : s ≤ i
    · have : s + 1 ≤ i := by omega
      simp [h2, this]
    · have : ¬ s + 1 ≤ i := by omega
      simp [h2, this]
theorem tabS_self {ls : List (List Nat)} {ds : List Nat} {M s : Nat} (hs : s < M) : (tabS ls ds M (s + 1)).set s 0 = tabS ls ds M (s + 1) := by
  apply List.ext_getElem (by simp [tabS])
  intro i h1 h2
  simp only [tabS, List.getElem_map, List.getElem_range, List.getElem_set]
  by_cases e : s = i
  · subst e
    have : ¬ s + 1 ≤ s := by omega
    simp [this]
  · rw [if_neg e]
theorem or_gt {s i : Nat} (h : s.testBit i = false) : s < s ||| 2 ^ i := by
  have h1 : s ≤ s ||| 2 ^ i := Nat.left_le_or
  have h2 : s ≠ s ||| 2 ^ i := by
    intro e
    have := testBit_or2 s i i
    rw [← e, h] at this
    simp at this
  omega
theorem gset_nat_eq {l : List Nat} {i v : Nat} (h : i < l.length) : (l.set i v).getD i 0 = v := by
  rw [List.getD_eq_getElem?_getD, List.getElem?_set_self h]; rfl
theorem gset_nat_ne {l : List Nat} {i j v : Nat} (h : i ≠ j) : (l.set i v).getD j 0 = l.getD j 0 := by
  rw [List.getD_eq_getElem?_getD, List.getElem?_set_ne h, ← List.getD_eq_getElem?_getD]
theorem full_ideal {after : List (List Int)} (h0 : (ofS after).1 = 0) : idealA (natA after) (2 ^ after.length - 1) = true := by
  rw [idealA_iff]
  intro i _ k hk
  rw [Nat.testBit_two_pow_sub_one]
  simpa using ((ord_ok h0).2.2.2.2.2.2.1 i k hk).1
theorem enabA_mem {ls : List (List Nat)} {s i : Nat} (h : i ∈ enabA ls s) : i < ls.length ∧ s.testBit i = false ∧ idealA ls (s ||| 2 ^ i) = true := by
  have h1 := List.mem_filter.1 h
  simp only [List.mem_range, Bool.and_eq_true, Bool.not_eq_true'] at h1
  exact ⟨h1.1, h1.2.1, h1.2.2⟩
section
variable {w : World} {B : Nat} {v : Value} {vs : List Value} {after : List (List Int)}
theorem ref10ways (hB : B ≤ w.heap.size) (hv : LLR w B v vs after) (h0 : (ofS after).1 = 0) : CallsV Tryd.prog 62 #[v] w fun r w' => Ext w w' ∧ ∃ b, r = .slice (some ⟨b, 0, none⟩) (2 ^ after.length) (2 ^ after.length) ∧ Blk w' b 3 ((tabS (natA after) (ofS after).2.1 (2 ^ after.length) 0).map natV) ∧ w.heap.size ≤ b := by
  have hn : Now w := trivial
  have hx : Ext w w := Ext.refl w
  have hl := hv.len_
  have hV := fun w' (h : Bl B w w') => hv.blz h
  have hbw : Bl B w w := Bl.refl hB
  obtain ⟨h12, hran, _, _⟩ := ref_ok h0
  have hid := fun s (hs : s < 4096) w' (h : Bl B w w') (h3 : B ≤ w'.heap.size) => ref10ideal h3 (hV w' h) h12 hran hs
  have hen := fun s (hs : s < 4096) w' (h : Bl B w w') (h3 : B ≤ w'.heap.size) => ref10enabled h3 (hV w' h) h12 hran hs
  replace hid : Hid _ := hid
  replace hen : Hid _ := hen
  have hp := two_pow_le h12
  have hpp := Nat.pow_pos (n := after.length) (show 0 < 2 by decide)
  have hfi := full_ideal h0
  have hde := fun s (hi : idealA (natA after) s = true) => ord_enab h0 hi
  have hdl : (ofS after).2.1.length = after.length := (ord_ok h0).2.2.1
  have hff : wayS (ofS after).2.1 (2 ^ after.length - 1) = 1 := by rw [← hdl]; exact wayS_full (by omega)
  generalize hds : (ofS after).2.1 = ds at *
  have hstep := fun s (h : s < 2 ^ ds.length) (hne : s ≠ 2 ^ ds.length - 1) => wayS_step (ds := ds) (by omega) h hne
  rw [hdl] at hstep
  have hws := fun s => wayS_le (ds := ds) (by omega) s
  have hwsum := fun (L : List Nat) (hL : L.length ≤ 12) s => way_sum (ds := ds) (by omega) hL s
  have e1 := shlI_nat (k := after.length) (by omega)
  have hnl : (natA after).length = after.length := natA_len _
  have hn12 : Hid (after.length ≤ 12) := h12
  have horl := fun s i (hs : s < 2 ^ after.length) (hi : i < after.length) => or_lt hs hi
  generalize hls : natA after = ls at *
  generalize hM : 2 ^ after.length = M at *
  replace hde : Hid _ := hde
  replace hstep : Hid _ := hstep
  replace hws : Hid _ := hws
  replace hwsum : Hid _ := hwsum
  replace horl : Hid _ := horl
  have hw1 : IntKind.i64.wrap ((M : Int) - 1) = ((M - 1 : Nat) : Int) := by
    rw [show (M : Int) - 1 = ((M - 1 : Nat) : Int) by omega, wrap_nat (by omega)]
  have hw2 : IntKind.i64.wrap ((M : Int) - 2) = (M : Int) - 2 := by rw [wrap_i64_id] <;> omega
  have hstart := tabS_start hpp hfi hff
  clear hds hdl hran hls hM hfi hff h0 hv
  (refine callsV_of Tryd.func62 rfl KR KR ?_; rw [Tryd.results62])
  (repeat' first
    | ((with_reducible refine at_row ?_); refine row1_a fun _ _ _ _ _ _ _ => ?_)
    | with_reducible first | (first | apply alloc_k | apply row_k); intro _ _ _ _ _ _ | (first | apply fork | apply forkp) <;> intro _ | refine forke (fun _ => ?_) fun _ _ => ?_ | refine tail_k fun _ _ _ => ?_ | refine ext_k fun _ _ _ => ?_ | refine need_a ?_ | refine st_agg KR rfl ON fun _ _ _ _ => ?_ | refine wpd_q_a ?_
    | simp (maxDischargeDepth := 3) only [↓X, ↓Y, ↓Q, S1, ↓reduceIte, Nat.reduceEqDiff, Nat.reduceAdd, Int.reduceLT, Int.reduceLE, Int.reduceNeg, Int.reduceBEq, Int.reduceBNe, Int.reduceEq, Nat.reduceLeDiff, Nat.reduceMul, Nat.reduceLT, *]
    | simp (singlePass := true) (maxDischargeDepth := 99) only [*, S2, Nat.reduceLT])
  refine mk_one_k (n := M) (z := .int .i64 0) rfl (by decide) (by omega) fun b w1 n1 k1 s1 q1 => ?_
  have hrep : List.replicate M (Value.int .i64 0) = (List.replicate M 0).map natV := by rw [List.map_replicate]; rfl
  rw [hrep] at k1
  have hrl : ((List.replicate M 0).map natV).length = M := by simp
  (repeat' first
    | ((with_reducible refine at_row ?_); refine row1_a fun _ _ _ _ _ _ _ => ?_)
    | with_reducible first | (first | apply alloc_k | apply row_k); intro _ _ _ _ _ _ | (first | apply fork | apply forkp) <;> intro _ | refine forke (fun _ => ?_) fun _ _ => ?_ | refine tail_k fun _ _ _ => ?_ | refine ext_k fun _ _ _ => ?_ | refine need_a ?_ | refine st_agg KR rfl ON fun _ _ _ _ => ?_ | refine wpd_q_a ?_
    | simp (maxDischargeDepth := 3) only [↓X, ↓Y, ↓Q, S1, ↓reduceIte, Nat.reduceEqDiff, Nat.reduceAdd, Int.reduceLT, Int.reduceLE, Int.reduceNeg, Int.reduceBEq, Int.reduceBNe, Int.reduceEq, Nat.reduceLeDiff, Nat.reduceMul, Nat.reduceLT, *]
    | simp (singlePass := true) (maxDischargeDepth := 99) only [*, S2, Nat.reduceLT])
  refine st_one KR (by rw [hrl]; omega) rfl fun w2 n2 k2 s2 => ?_
  have hone : Value.int .i64 1 = .int .i64 ((1 : Nat) : Int) := rfl
  rw [hone, rowN_set, hstart] at k2
  have hb2 : Blk w2 b 3 ((tabS ls ds M (M - 1)).map natV) := k2.2.1 _ k2.2.2.1
  have hbl2 : b < w2.heap.size := hb2.lt
  have hwb : w.heap.size ≤ b := FR
  clear k1 k2 hrep hrl hone hstart
  (repeat' first
    | ((with_reducible refine at_row ?_); refine row1_a fun _ _ _ _ _ _ _ => ?_)
    | with_reducible first | (first | apply alloc_k | apply row_k); intro _ _ _ _ _ _ | (first | apply fork | apply forkp) <;> intro _ | refine forke (fun _ => ?_) fun _ _ => ?_ | refine tail_k fun _ _ _ => ?_ | refine ext_k fun _ _ _ => ?_ | refine need_a ?_ | refine st_agg KR rfl ON fun _ _ _ _ => ?_ | refine wpd_q_a ?_
    | simp (maxDischargeDepth := 3) only [↓X, ↓Y, ↓Q, S1, ↓reduceIte, Nat.reduceEqDiff, Nat.reduceAdd, Int.reduceLT, Int.reduceLE, Int.reduceNeg, Int.reduceBEq, Int.reduceBNe, Int.reduceEq, Nat.reduceLeDiff, Nat.reduceMul, Nat.reduceLT, *]
    | simp (singlePass := true) (maxDischargeDepth := 99) only [*, S2, Nat.reduceLT])
  refine loop_b b (M - 1) (fun g0 j g w' => g 5 = .int .i64 ((M : Int) - 2 - j) ∧ (g 0 = g0 0 ∧ g 4 = g0 4) ∧ Blk w' b 3 ((tabS ls ds M (M - 1 - j)).map natV)) KR (by omega) FR ?_ ?_ ?_
  · (repeat' first
    | ((with_reducible refine at_row ?_); refine row1_a fun _ _ _ _ _ _ _ => ?_)
    | with_reducible first | (first | apply alloc_k | apply row_k); intro _ _ _ _ _ _ | (first | apply fork | apply forkp) <;> intro _ | refine forke (fun _ => ?_) fun _ _ => ?_ | refine tail_k fun _ _ _ => ?_ | refine ext_k fun _ _ _ => ?_ | refine need_a ?_ | refine st_agg KR rfl ON fun _ _ _ _ => ?_ | refine wpd_q_a ?_
    | simp (maxDischargeDepth := 3) only [↓X, ↓Y, ↓Q, S1, ↓reduceIte, Nat.reduceEqDiff, Nat.reduceAdd, Int.reduceLT, Int.reduceLE, Int.reduceNeg, Int.reduceBEq, Int.reduceBNe, Int.reduceEq, Nat.reduceLeDiff, Nat.reduceMul, Nat.reduceLT, *]
    | simp (singlePass := true) (maxDischargeDepth := 99) only [*, S2, Nat.reduceLT])
    refine ⟨by rw [Int.sub_zero], hb2⟩
  · rintro j m g wk hk hlt nk sk ck hbk hw ⟨hi, hf, hbj⟩
    simp (maxDischargeDepth := 3) only [U, ↓reduceIte, Nat.reduceEqDiff, *] at hf
    obtain ⟨s, hs⟩ : ∃ s : Nat, (M : Int) - 2 - j = s := ⟨M - 2 - j, by omega⟩
    rw [hs] at hi
    have hsM : s < M := by omega
    have hsf : s ≠ M - 1 := by omega
    have hs4 : s < 4096 := by omega
    have hsj : M - 1 - j = s + 1 := by omega
    have hsj2 : M - 1 - (j + 1) = s := by omega
    have hge : (0 : Int) ≤ (s : Int) := by omega
    have hwn : IntKind.i64.wrap ((s : Int) - 1) = (M : Int) - 2 - ((j + 1 : Nat) : Int) := by rw [wrap_i64_id] <;> omega
    rw [hsj] at hbj
    have hX : Hid (Blk wk b 3 ((tabS ls ds M (s + 1)).map natV)) := hbj
    have kbj := hbj.bk
    clear hbj hs hsj
    (repeat' first
    | ((with_reducible refine at_row ?_); refine row1_a fun _ _ _ _ _ _ _ => ?_)
    | with_reducible first | (first | apply alloc_k | apply row_k); intro _ _ _ _ _ _ | (first | apply fork | apply forkp) <;> intro _ | refine forke (fun _ => ?_) fun _ _ => ?_ | refine tail_k fun _ _ _ => ?_ | refine ext_k fun _ _ _ => ?_ | refine need_a ?_ | refine st_agg KR rfl ON fun _ _ _ _ => ?_ | refine wpd_q_a ?_
    | simp (maxDischargeDepth := 3) only [↓X, ↓Y, ↓Q, S1, ↓reduceIte, Nat.reduceEqDiff, Nat.reduceAdd, Int.reduceLT, Int.reduceLE, Int.reduceNeg, Int.reduceBEq, Int.reduceBNe, Int.reduceEq, Nat.reduceLeDiff, Nat.reduceMul, Nat.reduceLT, *]
    | simp (singlePass := true) (maxDischargeDepth := 99) only [*, S2, Nat.reduceLT])
    refine ret_k (hid.out s hs4 _ FR FR) fun w3 n3 s3 => ?_
    cases hd : idealA ls s
    · have htn := tabS_not (ds := ds) (M := M) hd
      (repeat' first
    | ((with_reducible refine at_row ?_); refine row1_a fun _ _ _ _ _ _ _ => ?_)
    | with_reducible first | (first | apply alloc_k | apply row_k); intro _ _ _ _ _ _ | (first | apply fork | apply forkp) <;> intro _ | refine forke (fun _ => ?_) fun _ _ => ?_ | refine tail_k fun _ _ _ => ?_ | refine ext_k fun _ _ _ => ?_ | refine need_a ?_ | refine st_agg KR rfl ON fun _ _ _ _ => ?_ | refine wpd_q_a ?_
    | simp (maxDischargeDepth := 3) only [↓X, ↓Y, ↓Q, S1, ↓reduceIte, Nat.reduceEqDiff, Nat.reduceAdd, Int.reduceLT, Int.reduceLE, Int.reduceNeg, Int.reduceBEq, Int.reduceBNe, Int.reduceEq, Nat.reduceLeDiff, Nat.reduceMul, Nat.reduceLT, *, hwn]
    | simp (singlePass := true) (maxDischargeDepth := 99) only [*, S2, Nat.reduceLT, hwn])
      refine next_b hk hlt ?_ FR
      (repeat' first
    | ((with_reducible refine at_row ?_); refine row1_a fun _ _ _ _ _ _ _ => ?_)
    | with_reducible first | (first | apply alloc_k | apply row_k); intro _ _ _ _ _ _ | (first | apply fork | apply forkp) <;> intro _ | refine forke (fun _ => ?_) fun _ _ => ?_ | refine tail_k fun _ _ _ => ?_ | refine ext_k fun _ _ _ => ?_ | refine need_a ?_ | refine st_agg KR rfl ON fun _ _ _ _ => ?_ | refine wpd_q_a ?_
    | simp (maxDischargeDepth := 3) only [↓X, ↓Y, ↓Q, S1, ↓reduceIte, Nat.reduceEqDiff, Nat.reduceAdd, Int.reduceLT, Int.reduceLE, Int.reduceNeg, Int.reduceBEq, Int.reduceBNe, Int.reduceEq, Nat.reduceLeDiff, Nat.reduceMul, Nat.reduceLT, *]
    | simp (singlePass := true) (maxDischargeDepth := 99) only [*, S2, Nat.reduceLT])
      all_goals exact kbj.2.1 _ FR
    · (repeat' first
    | ((with_reducible refine at_row ?_); refine row1_a fun _ _ _ _ _ _ _ => ?_)
    | with_reducible first | (first | apply alloc_k | apply row_k); intro _ _ _ _ _ _ | (first | apply fork | apply forkp) <;> intro _ | refine forke (fun _ => ?_) fun _ _ => ?_ | refine tail_k fun _ _ _ => ?_ | refine ext_k fun _ _ _ => ?_ | refine need_a ?_ | refine st_agg KR rfl ON fun _ _ _ _ => ?_ | refine wpd_q_a ?_
    | simp (maxDischargeDepth := 3) only [↓X, ↓Y, ↓Q, S1, ↓reduceIte, Nat.reduceEqDiff, Nat.reduceAdd, Int.reduceLT, Int.reduceLE, Int.reduceNeg, Int.reduceBEq, Int.reduceBNe, Int.reduceEq, Nat.reduceLeDiff, Nat.reduceMul, Nat.reduceLT, *]
    | simp (singlePass := true) (maxDischargeDepth := 99) only [*, S2, Nat.reduceLT])
      refine call_k (hen.out s hs4 _ FR FR) ?_
      intro u w4 n4 s4 hu
      have hsum := hstep.out s hsM hsf
      have hen2 := hde.out s hd
      rw [← hen2] at hsum
      have hts := tabS_set (ds := ds) (M := M) hd
      have hem := fun i (h : i ∈ enabA ls s) => enabA_mem h
      have hbl3 : b < w3.heap.size := FR
      have hfu := hu.far hbl3
      have KU := (hu.sl1 (f := natV)).v (Nat.le_refl _)
      have hb4 : b < w4.heap.size := FR
      have hEl : (enabA ls s).length ≤ 12 := by rw [hen2]; exact lst_len12 _
      have hss := hwsum.out _ hEl s
      have b4 : Blk w4 b 3 (((tabS ls ds M (s + 1)).set s (((enabA ls s).map fun i => wayS ds (s ||| 2 ^ i)).take 0).sum).map natV) := by
        rw [List.take_zero, List.sum_nil, tabS_self hsM]
        exact kbj.2.1 _ FR
      generalize enabA ls s = E at *
      replace hem : Hid _ := hem
      replace hsum : Hid _ := hsum
      replace hts : Hid _ := hts
      replace hss : Hid _ := hss
      have b4' : Hid _ := b4
      clear hu kbj hX hen2 b4
      (repeat' first
    | ((with_reducible refine at_row ?_); refine row1_a fun _ _ _ _ _ _ _ => ?_)
    | with_reducible first | (first | apply alloc_k | apply row_k); intro _ _ _ _ _ _ | (first | apply fork | apply forkp) <;> intro _ | refine forke (fun _ => ?_) fun _ _ => ?_ | refine tail_k fun _ _ _ => ?_ | refine ext_k fun _ _ _ => ?_ | refine need_a ?_ | refine st_agg KR rfl ON fun _ _ _ _ => ?_ | refine wpd_q_a ?_
    | simp (maxDischargeDepth := 3) only [↓X, ↓Y, ↓Q, S1, ↓reduceIte, Nat.reduceEqDiff, Nat.reduceAdd, Int.reduceLT, Int.reduceLE, Int.reduceNeg, Int.reduceBEq, Int.reduceBNe, Int.reduceEq, Nat.reduceLeDiff, Nat.reduceMul, Nat.reduceLT, *]
    | simp (singlePass := true) (maxDischargeDepth := 99) only [*, S2, Nat.reduceLT])
      refine loop_b b E.length (fun g0 t g w' => g 32 = .int .i64 t ∧ (g 0 = g0 0 ∧ g 4 = g0 4 ∧ g 5 = g0 5 ∧ g 30 = g0 30 ∧ g 31 = g0 31) ∧ Hid (Blk w' b 3 (((tabS ls ds M (s + 1)).set s ((E.map fun i => wayS ds (s ||| 2 ^ i)).take t).sum).map natV))) KR (by omega) hb4 ?_ ?_ ?_
      · (repeat' first
    | ((with_reducible refine at_row ?_); refine row1_a fun _ _ _ _ _ _ _ => ?_)
    | with_reducible first | (first | apply alloc_k | apply row_k); intro _ _ _ _ _ _ | (first | apply fork | apply forkp) <;> intro _ | refine forke (fun _ => ?_) fun _ _ => ?_ | refine tail_k fun _ _ _ => ?_ | refine ext_k fun _ _ _ => ?_ | refine need_a ?_ | refine st_agg KR rfl ON fun _ _ _ _ => ?_ | refine wpd_q_a ?_
    | simp (maxDischargeDepth := 3) only [↓X, ↓Y, ↓Q, S1, ↓reduceIte, Nat.reduceEqDiff, Nat.reduceAdd, Int.reduceLT, Int.reduceLE, Int.reduceNeg, Int.reduceBEq, Int.reduceBNe, Int.reduceEq, Nat.reduceLeDiff, Nat.reduceMul, Nat.reduceLT, *]
    | simp (singlePass := true) (maxDischargeDepth := 99) only [*, S2, Nat.reduceLT])
        all_goals first | exact b4'.out | trivial
      · rintro t m2 g2 w5 hk2 hlt2 n5 s5 c5 hb5 hw5 ⟨hi2, hf2, hbt⟩
        simp (maxDischargeDepth := 3) only [U, ↓reduceIte, Nat.reduceEqDiff, *] at hf2
        obtain ⟨i1, i2, i3⟩ := hem.out _ (List.getElem_mem hlt2)
        generalize hie : E[t] = i at *
        rw [hnl] at i1
        have hn9 := hn12.out
        have e5 := shlI_nat (k := i) (by omega)
        have h2i := two_pow_le (k := i) (by omega)
        have e6 := orI_nat (a := s) (b := 2 ^ i) (by omega) (by omega)
        have hor := horl.out s i hsM i1
        have hgt := or_gt i2
        have hkm : t < (E.map fun i => wayS ds (s ||| 2 ^ i)).length := by rw [List.length_map]; exact hlt2
        have htk : ((E.map fun i => wayS ds (s ||| 2 ^ i)).take (t + 1)).sum = ((E.map fun i => wayS ds (s ||| 2 ^ i)).take t).sum + wayS ds (s ||| 2 ^ i) := by
          rw [appLL_take hkm, List.sum_append, List.getElem_map, hie]; simp
        have htl := sum_take (l := E.map fun i => wayS ds (s ||| 2 ^ i)) (t + 1)
        have hss2 := hss.out
        have hwi := hws.out (s ||| 2 ^ i)
        have g0s : ((tabS ls ds M (s + 1)).set s ((E.map fun i => wayS ds (s ||| 2 ^ i)).take t).sum).getD s 0 = ((E.map fun i => wayS ds (s ||| 2 ^ i)).take t).sum := gset_nat_eq (by rw [tabS_len]; exact hsM)
        have g0o : ((tabS ls ds M (s + 1)).set s ((E.map fun i => wayS ds (s ||| 2 ^ i)).take t).sum).getD (s ||| 2 ^ i) 0 = wayS ds (s ||| 2 ^ i) := by
          rw [gset_nat_ne (by omega), tabS_get hor, if_pos ⟨hgt, i3⟩]
        have g0l : ((tabS ls ds M (s + 1)).set s ((E.map fun i => wayS ds (s ||| 2 ^ i)).take t).sum).length = M := by rw [List.length_set, tabS_len]
        have hset : Hid (((tabS ls ds M (s + 1)).set s ((E.map fun i => wayS ds (s ||| 2 ^ i)).take t).sum).set s ((E.map fun i => wayS ds (s ||| 2 ^ i)).take (t + 1)).sum = (tabS ls ds M (s + 1)).set s ((E.map fun i => wayS ds (s ||| 2 ^ i)).take (t + 1)).sum) := by
          show List.set _ _ _ = _
          rw [List.set_set]
        have kbt := hbt.out.bk
        have hw9 : IntKind.i64.wrap ((((E.map fun i => wayS ds (s ||| 2 ^ i)).take t).sum : Nat) + (wayS ds (s ||| 2 ^ i) : Nat) : Int) = (((E.map fun i => wayS ds (s ||| 2 ^ i)).take (t + 1)).sum : Nat) := by
          rw [htk, wrap_i64_id] <;> omega
        generalize (tabS ls ds M (s + 1)).set s ((E.map fun i => wayS ds (s ||| 2 ^ i)).take t).sum = o at *
        have g1 : (o.map natV)[s]? = some (.int .i64 (o.getD s 0 : Nat)) := rowN_get (by omega)
        have g2 : (o.map natV)[s ||| 2 ^ i]? = some (.int .i64 (o.getD (s ||| 2 ^ i) 0 : Nat)) := rowN_get (by omega)
        rw [g0s] at g1
        rw [g0o] at g2
        have hol : (o.map natV).length = M := by rw [List.length_map]; exact g0l
        clear hbt htk htl hss2 hgt i2 i3 g0s g0o hn9 hkm
        generalize ht1 : ((E.map fun i => wayS ds (s ||| 2 ^ i)).take (t + 1)).sum = tot1 at *
        replace ht1 : Hid _ := ht1
        generalize ((E.map fun i => wayS ds (s ||| 2 ^ i)).take t).sum = tot at *
        (repeat' first
    | ((with_reducible refine wpd_at 11 ?_); refine wpd_tail 13 KR KR KR ?_)
    | ((with_reducible refine at_row ?_); refine row1_a fun _ _ _ _ _ _ _ => ?_)
    | with_reducible first | (first | apply alloc_k | apply row_k); intro _ _ _ _ _ _ | (first | apply fork | apply forkp) <;> intro _ | refine forke (fun _ => ?_) fun _ _ => ?_ | refine tail_k fun _ _ _ => ?_ | refine ext_k fun _ _ _ => ?_ | refine need_a ?_ | refine st_agg KR rfl ON fun _ _ _ _ => ?_ | refine wpd_q_a ?_
    | simp (maxDischargeDepth := 3) only [↓X, ↓Y, ↓Q, S1, ↓reduceIte, Nat.reduceEqDiff, Nat.reduceAdd, Int.reduceLT, Int.reduceLE, Int.reduceNeg, Int.reduceBEq, Int.reduceBNe, Int.reduceEq, Nat.reduceLeDiff, Nat.reduceMul, Nat.reduceLT, *, hie, hw9]
    | simp (singlePass := true) (maxDischargeDepth := 99) only [*, S2, Nat.reduceLT, hie, hw9])
        refine st_one KR (by rw [hol]; exact hsM) rfl fun w9 n9 k9 s9 => ?_
        rw [rowN_set, hset.out] at k9
        have hb9 : Blk w9 b 3 (((tabS ls ds M (s + 1)).set s tot1).map natV) := k9.2.1 _ k9.2.2.1
        have hb9' : Hid _ := hb9
        clear k9 kbt g1 g2 hb9
        (repeat' first
    | ((with_reducible refine at_row ?_); refine row1_a fun _ _ _ _ _ _ _ => ?_)
    | with_reducible first | (first | apply alloc_k | apply row_k); intro _ _ _ _ _ _ | (first | apply fork | apply forkp) <;> intro _ | refine forke (fun _ => ?_) fun _ _ => ?_ | refine tail_k fun _ _ _ => ?_ | refine ext_k fun _ _ _ => ?_ | refine need_a ?_ | refine st_agg KR rfl ON fun _ _ _ _ => ?_ | refine wpd_q_a ?_
    | simp (maxDischargeDepth := 3) only [↓X, ↓Y, ↓Q, S1, ↓reduceIte, Nat.reduceEqDiff, Nat.reduceAdd, Int.reduceLT, Int.reduceLE, Int.reduceNeg, Int.reduceBEq, Int.reduceBNe, Int.reduceEq, Nat.reduceLeDiff, Nat.reduceMul, Nat.reduceLT, *]
    | simp (singlePass := true) (maxDischargeDepth := 99) only [*, S2, Nat.reduceLT])
        refine next_b hk2 hlt2 ?_ FR
        (repeat' first
    | ((with_reducible refine at_row ?_); refine row1_a fun _ _ _ _ _ _ _ => ?_)
    | with_reducible first | (first | apply alloc_k | apply row_k); intro _ _ _ _ _ _ | (first | apply fork | apply forkp) <;> intro _ | refine forke (fun _ => ?_) fun _ _ => ?_ | refine tail_k fun _ _ _ => ?_ | refine ext_k fun _ _ _ => ?_ | refine need_a ?_ | refine st_agg KR rfl ON fun _ _ _ _ => ?_ | refine wpd_q_a ?_
    | simp (maxDischargeDepth := 3) only [↓X, ↓Y, ↓Q, S1, ↓reduceIte, Nat.reduceEqDiff, Nat.reduceAdd, Int.reduceLT, Int.reduceLE, Int.reduceNeg, Int.reduceBEq, Int.reduceBNe, Int.reduceEq, Nat.reduceLeDiff, Nat.reduceMul, Nat.reduceLT, *]
    | simp (singlePass := true) (maxDischargeDepth := 99) only [*, S2, Nat.reduceLT])
        rw [ht1.out]
        exact hb9'
      · rintro g2 w5 n5 s5 c5 hb5 ⟨hi2, hf2, hbt⟩
        simp (maxDischargeDepth := 3) only [U, ↓reduceIte, Nat.reduceEqDiff, *] at hf2
        have hfin : Hid (Blk w5 b 3 ((tabS ls ds M s).map natV)) := by
          have h9 := hbt.out
          have hle : (E.map fun i => wayS ds (s ||| 2 ^ i)).length = E.length := List.length_map _
          rw [← hle, List.take_length, ← hsum.out, ← hts.out] at h9
          exact h9
        clear hbt
        (repeat' first
    | ((with_reducible refine at_row ?_); refine row1_a fun _ _ _ _ _ _ _ => ?_)
    | with_reducible first | (first | apply alloc_k | apply row_k); intro _ _ _ _ _ _ | (first | apply fork | apply forkp) <;> intro _ | refine forke (fun _ => ?_) fun _ _ => ?_ | refine tail_k fun _ _ _ => ?_ | refine ext_k fun _ _ _ => ?_ | refine need_a ?_ | refine st_agg KR rfl ON fun _ _ _ _ => ?_ | refine wpd_q_a ?_
    | simp (maxDischargeDepth := 3) only [↓X, ↓Y, ↓Q, S1, ↓reduceIte, Nat.reduceEqDiff, Nat.reduceAdd, Int.reduceLT, Int.reduceLE, Int.reduceNeg, Int.reduceBEq, Int.reduceBNe, Int.reduceEq, Nat.reduceLeDiff, Nat.reduceMul, Nat.reduceLT, *, hwn]
    | simp (singlePass := true) (maxDischargeDepth := 99) only [*, S2, Nat.reduceLT, hwn])
        refine next_b hk hlt ?_ FR
        (repeat' first
    | ((with_reducible refine at_row ?_); refine row1_a fun _ _ _ _ _ _ _ => ?_)
    | with_reducible first | (first | apply alloc_k | apply row_k); intro _ _ _ _ _ _ | (first | apply fork | apply forkp) <;> intro _ | refine forke (fun _ => ?_) fun _ _ => ?_ | refine tail_k fun _ _ _ => ?_ | refine ext_k fun _ _ _ => ?_ | refine need_a ?_ | refine st_agg KR rfl ON fun _ _ _ _ => ?_ | refine wpd_q_a ?_
    | simp (maxDischargeDepth := 3) only [↓X, ↓Y, ↓Q, S1, ↓reduceIte, Nat.reduceEqDiff, Nat.reduceAdd, Int.reduceLT, Int.reduceLE, Int.reduceNeg, Int.reduceBEq, Int.reduceBNe, Int.reduceEq, Nat.reduceLeDiff, Nat.reduceMul, Nat.reduceLT, *]
    | simp (singlePass := true) (maxDischargeDepth := 99) only [*, S2, Nat.reduceLT])
        all_goals exact hfin.out
  · rintro g wk nk sk ck hbk ⟨hi, hf, hbj⟩
    simp (maxDischargeDepth := 3) only [U, ↓reduceIte, Nat.reduceEqDiff, *] at hf
    have hz : M - 1 - (M - 1) = 0 := Nat.sub_self _
    rw [hz] at hbj
    have hneg : ¬ ((0 : Int) ≤ (M : Int) - 2 - ((M - 1 : Nat) : Int)) := by omega
    have hbj' : Hid _ := hbj
    clear hbj
    (repeat' first
    | ((with_reducible refine at_row ?_); refine row1_a fun _ _ _ _ _ _ _ => ?_)
    | with_reducible first | (first | apply alloc_k | apply row_k); intro _ _ _ _ _ _ | (first | apply fork | apply forkp) <;> intro _ | refine forke (fun _ => ?_) fun _ _ => ?_ | refine tail_k fun _ _ _ => ?_ | refine ext_k fun _ _ _ => ?_ | refine need_a ?_ | refine st_agg KR rfl ON fun _ _ _ _ => ?_ | refine wpd_q_a ?_
    | simp (maxDischargeDepth := 3) only [↓X, ↓Y, ↓Q, S1, ↓reduceIte, Nat.reduceEqDiff, Nat.reduceAdd, Int.reduceLT, Int.reduceLE, Int.reduceNeg, Int.reduceBEq, Int.reduceBNe, Int.reduceEq, Nat.reduceLeDiff, Nat.reduceMul, Nat.reduceLT, *]
    | simp (singlePass := true) (maxDischargeDepth := 99) only [*, S2, Nat.reduceLT])
    exact ⟨_, rfl, hbj'.out, hwb⟩
end
end Go.Proofs.YteeaccnklkcchaaDoor
