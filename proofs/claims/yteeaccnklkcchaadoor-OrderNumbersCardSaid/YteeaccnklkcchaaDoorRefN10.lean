
/- The document's answer, layer 10: Count, Nth, Rank. -/
import Derived.Test.YteeaccnklkcchaaDoorRefW10
namespace Go.Proofs.YteeaccnklkcchaaDoor
set_option linter.unusedSimpArgs false
set_option linter.unusedVariables false
open Go Go.RowKit
set_option maxRecDepth 100000
set_option linter.unusedSectionVars false
set_option maxHeartbeats 2000000
theorem idealA_zero (ls : List (List Nat)) : idealA ls 0 = true := by
  rw [idealA_iff]
  intro i h
  rw [Nat.zero_testBit] at h
  cases h
theorem tab0 {ls : List (List Nat)} {ds : List Nat} {M t : Nat} (ht : t < M) (h : idealA ls t = true) : (tabS ls ds M 0).getD t 0 = wayS ds t := by rw [tabS_get ht, if_pos ⟨Nat.zero_le _, h⟩]
theorem lst_below {r x : Nat} (hr : r < 4096) : lst (r &&& (2 ^ x - 1)) = (lst r).filter fun j => decide (j < x) := by
  unfold lst
  rw [List.filter_filter]
  refine List.filter_congr fun j _ => ?_
  rw [Nat.testBit_and, Nat.testBit_two_pow_sub_one, Bool.and_comm]
theorem sum_filter_take {f : Nat → Nat} {p : Nat → Bool} {l : List Nat} {k : Nat} (h : k < l.length) : (((l.take (k + 1)).filter p).map f).sum = (((l.take k).filter p).map f).sum + if p l[k] = true then f l[k] else 0 := by
  rw [appLL_take h, List.filter_append, List.map_append, List.sum_append]
  cases hp : p l[k] <;> simp [hp]
theorem sum_filter_le {f : Nat → Nat} {p : Nat → Bool} {l : List Nat} {M : Nat} (hf : ∀ x, f x ≤ M) (hl : l.length ≤ 12) : ((l.filter p).map f).sum ≤ 12 * M :=
  sum_le (fun x hx => by obtain ⟨y, _, rfl⟩ := List.mem_map.1 hx; exact hf y) (by rw [List.length_map]; exact Nat.le_trans (List.length_filter_le _ _) hl)
section
variable {w : World} {B : Nat} {v : Value} {vs : List Value} {after : List (List Int)}
theorem ref10Count (hB : B ≤ w.heap.size) (hv : LLR w B v vs after) : Ret Tryd.prog 35 #[v] w (.tuple #[natV (countE (ofS after).1 (ofS after).2.1).1, intV (countE (ofS after).1 (ofS after).2.1).2]) := by
  have hn : Now w := trivial
  have hx : Ext w w := Ext.refl w
  have hl := hv.len_
  have hV := fun w' (h : Bl B w w') => hv.blz h
  have hva := fun w' (h : Bl B w w') (h3 : B ≤ w'.heap.size) => ref10Valid h3 (hV w' h)
  have hbw : Bl B w w := Bl.refl hB
  by_cases h0 : (ofS after).1 = 0
  · have hwy := fun w' (h : Bl B w w') (h3 : B ≤ w'.heap.size) => ref10ways h3 (hV w' h) h0
    replace hwy : Hid _ := hwy
    have hp := two_pow_le (ref_ok h0).1
    have hpp := Nat.pow_pos (n := after.length) (show 0 < 2 by decide)
    rw [h0] at hva ⊢
    rw [countE, if_pos rfl]
    have ht := tab0 (ds := (ofS after).2.1) hpp (idealA_zero (natA after))
    have htl := tabS_len (natA after) (ofS after).2.1 (2 ^ after.length) 0
    generalize tabS (natA after) (ofS after).2.1 (2 ^ after.length) 0 = O at *
    clear hV h0
    generalize 2 ^ after.length = M at *
    (refine callsV_of Tryd.func35 rfl KR KR ?_; rw [Tryd.results35])
    (repeat' first
    | ((with_reducible refine at_row ?_); refine row1_a fun _ _ _ _ _ _ _ => ?_)
    | with_reducible first | (first | apply alloc_k | apply row_k); intro _ _ _ _ _ _ | (first | apply fork | apply forkp) <;> intro _ | refine forke (fun _ => ?_) fun _ _ => ?_ | refine tail_k fun _ _ _ => ?_ | refine ext_k fun _ _ _ => ?_ | refine need_a ?_ | refine st_agg KR rfl ON fun _ _ _ _ => ?_ | refine wpd_q_a ?_
    | ((with_reducible refine at_f 31 ?_); refine ret_k (hva _ FR FR) fun _ _ _ => ?_)
    | simp (maxDischargeDepth := 3) only [↓X, ↓Y, ↓Q, S1, ↓reduceIte, Nat.reduceEqDiff, Nat.reduceAdd, Int.reduceLT, Int.reduceLE, Int.reduceNeg, Int.reduceBEq, Int.reduceBNe, Int.reduceEq, Nat.reduceLeDiff, Nat.reduceMul, Nat.reduceLT, *]
    | simp (singlePass := true) (maxDischargeDepth := 99) only [*, S2, Nat.reduceLT])
    refine call_k (hwy.out _ FR FR) ?_
    rintro _ w6 n6 s6 ⟨b, rfl, hbk, hbs⟩
    have kb := hbk.bk
    have g1 : (O.map natV)[0]? = some (.int .i64 (O.getD 0 0 : Nat)) := rowN_get (by omega)
    rw [ht] at g1
    have hlt : (0 : Nat) < M := hpp
    clear hbk ht
    (repeat' first
    | ((with_reducible refine at_row ?_); refine row1_a fun _ _ _ _ _ _ _ => ?_)
    | with_reducible first | (first | apply alloc_k | apply row_k); intro _ _ _ _ _ _ | (first | apply fork | apply forkp) <;> intro _ | refine forke (fun _ => ?_) fun _ _ => ?_ | refine tail_k fun _ _ _ => ?_ | refine ext_k fun _ _ _ => ?_ | refine need_a ?_ | refine st_agg KR rfl ON fun _ _ _ _ => ?_ | refine wpd_q_a ?_
    | simp (maxDischargeDepth := 3) only [↓X, ↓Y, ↓Q, S1, ↓reduceIte, Nat.reduceEqDiff, Nat.reduceAdd, Int.reduceLT, Int.reduceLE, Int.reduceNeg, Int.reduceBEq, Int.reduceBNe, Int.reduceEq, Nat.reduceLeDiff, Nat.reduceMul, Nat.reduceLT, *]
    | simp (singlePass := true) (maxDischargeDepth := 99) only [*, S2, Nat.reduceLT])
  · rw [countE, if_neg h0]
    generalize (ofS after).1 = e at *
    have e1 : (e == 0) = false := by simpa using h0
    have e2 : (e != 0) = true := by simpa using h0
    (refine callsV_of Tryd.func35 rfl KR KR ?_; rw [Tryd.results35])
    (repeat' first
    | ((with_reducible refine at_row ?_); refine row1_a fun _ _ _ _ _ _ _ => ?_)
    | with_reducible first | (first | apply alloc_k | apply row_k); intro _ _ _ _ _ _ | (first | apply fork | apply forkp) <;> intro _ | refine forke (fun _ => ?_) fun _ _ => ?_ | refine tail_k fun _ _ _ => ?_ | refine ext_k fun _ _ _ => ?_ | refine need_a ?_ | refine st_agg KR rfl ON fun _ _ _ _ => ?_ | refine wpd_q_a ?_
    | ((with_reducible refine at_f 31 ?_); refine ret_k (hva _ FR FR) fun _ _ _ => ?_)
    | simp (maxDischargeDepth := 3) only [↓X, ↓Y, ↓Q, S1, ↓reduceIte, Nat.reduceEqDiff, Nat.reduceAdd, Int.reduceLT, Int.reduceLE, Int.reduceNeg, Int.reduceBEq, Int.reduceBNe, Int.reduceEq, Nat.reduceLeDiff, Nat.reduceMul, Nat.reduceLT, *]
    | simp (singlePass := true) (maxDischargeDepth := 99) only [*, S2, Nat.reduceLT])
theorem ref10Rank {lv : Value} {line : List Int} (hB : B ≤ w.heap.size) (hv : LLR w B v vs after) (hl : Sl w B none 1 lv (line.map intV)) : Ret Tryd.prog 38 #[v, lv] w (.tuple #[natV (rankE (ofS after).1 (ofS after).2.1 line).1, intV (rankE (ofS after).1 (ofS after).2.1 line).2]) := by
  have hL1 := hl.k hB
  have hlmax : line.length ≤ 9223372036854775807 := by simpa using hl.maxLen
  clear hl
  have hn : Now w := trivial
  have hx : Ext w w := Ext.refl w
  have hll := hv.len_
  have hV := fun w' (h : Bl B w w') => hv.blz h
  have hva := fun w' (h : Bl B w w') (h3 : B ≤ w'.heap.size) => ref10Valid h3 (hV w' h)
  have hbw : Bl B w w := Bl.refl hB
  by_cases h0 : (ofS after).1 = 0
  rotate_left
  · rw [rankE, if_neg h0]
    generalize (ofS after).1 = e at *
    have e1 : (e == 0) = false := by simpa using h0
    have e2 : (e != 0) = true := by simpa using h0
    (refine callsV_of Tryd.func38 rfl KR KR ?_; rw [Tryd.results38])
    (repeat' first
    | ((with_reducible refine at_row ?_); refine row1_a fun _ _ _ _ _ _ _ => ?_)
    | with_reducible first | (first | apply alloc_k | apply row_k); intro _ _ _ _ _ _ | (first | apply fork | apply forkp) <;> intro _ | refine forke (fun _ => ?_) fun _ _ => ?_ | refine tail_k fun _ _ _ => ?_ | refine ext_k fun _ _ _ => ?_ | refine need_a ?_ | refine st_agg KR rfl ON fun _ _ _ _ => ?_ | refine wpd_q_a ?_
    | ((with_reducible refine at_f 31 ?_); refine ret_k (hva _ FR FR) fun _ _ _ => ?_)
    | simp (maxDischargeDepth := 3) only [↓X, ↓Y, ↓Q, S1, ↓reduceIte, Nat.reduceEqDiff, Nat.reduceAdd, Int.reduceLT, Int.reduceLE, Int.reduceNeg, Int.reduceBEq, Int.reduceBNe, Int.reduceEq, Nat.reduceLeDiff, Nat.reduceMul, Nat.reduceLT, *]
    | simp (singlePass := true) (maxDischargeDepth := 99) only [*, S2, Nat.reduceLT])
  obtain ⟨h12, hran, _, _⟩ := ref_ok h0
  have hwy := fun w' (h : Bl B w w') (h3 : B ≤ w'.heap.size) => ref10ways h3 (hV w' h) h0
  have hen := fun s (hs : s < 4096) w' (h : Bl B w w') (h3 : B ≤ w'.heap.size) => ref10enabled h3 (hV w' h) h12 hran hs
  replace hwy : Hid _ := hwy
  replace hen : Hid _ := hen
  have hp := two_pow_le h12
  have hpp := Nat.pow_pos (n := after.length) (show 0 < 2 by decide)
  have hde := fun s (hi : idealA (natA after) s = true) => ord_enab h0 hi
  have hdl : (ofS after).2.1.length = after.length := (ord_ok h0).2.2.1
  rw [h0] at hva ⊢
  have htab := fun t (ht : t < 2 ^ after.length) (hi : idealA (natA after) t = true) => tab0 (ds := (ofS after).2.1) ht hi
  have htl := tabS_len (natA after) (ofS after).2.1 (2 ^ after.length) 0
  generalize tabS (natA after) (ofS after).2.1 (2 ^ after.length) 0 = O at *
  generalize hds : (ofS after).2.1 = ds at *
  rw [rankE, if_pos rfl, hdl]
  have hws := fun s => wayS_le (ds := ds) (by omega) s
  have hnl : (natA after).length = after.length := natA_len _
  have hrd := fun s => rdyF_lt s ds 0
  simp only [Nat.zero_add, hdl] at hrd
  have hrk0 : ∀ s x r, rankS ds s (x :: r) = if x < 0 ∨ (after.length : Int) ≤ x ∨ (rdyF s 0 ds).testBit x.toNat = false then none else (rankS ds (s ||| 2 ^ x.toNat) r).map (lessS ds s x.toNat + ·) := fun s x r => by rw [rankS, hdl]
  have horl := fun s i (hs : s < 2 ^ after.length) (hi : i < after.length) => or_lt hs hi
  have hn12 : Hid (after.length ≤ 12) := h12
  by_cases hlen : line.length = after.length
  rotate_left
  · rw [if_neg hlen]
    have hlen' : ¬ ((line.length : Int) = (after.length : Int)) := by omega
    clear hV hran hrk0 hrd hws htab hde
    (refine callsV_of Tryd.func38 rfl KR KR ?_; rw [Tryd.results38])
    (repeat' first
    | ((with_reducible refine at_row ?_); refine row1_a fun _ _ _ _ _ _ _ => ?_)
    | with_reducible first | (first | apply alloc_k | apply row_k); intro _ _ _ _ _ _ | (first | apply fork | apply forkp) <;> intro _ | refine forke (fun _ => ?_) fun _ _ => ?_ | refine tail_k fun _ _ _ => ?_ | refine ext_k fun _ _ _ => ?_ | refine need_a ?_ | refine st_agg KR rfl ON fun _ _ _ _ => ?_ | refine wpd_q_a ?_
    | ((with_reducible refine at_f 31 ?_); refine ret_k (hva _ FR FR) fun _ _ _ => ?_)
    | simp (maxDischargeDepth := 3) only [↓X, ↓Y, ↓Q, S1, ↓reduceIte, Nat.reduceEqDiff, Nat.reduceAdd, Int.reduceLT, Int.reduceLE, Int.reduceNeg, Int.reduceBEq, Int.reduceBNe, Int.reduceEq, Nat.reduceLeDiff, Nat.reduceMul, Nat.reduceLT, *]
    | simp (singlePass := true) (maxDischargeDepth := 99) only [*, S2, Nat.reduceLT])
    all_goals first | contradiction | rfl
  rw [if_pos hlen]
  have hlen' : Hid (line.length = after.length) := hlen
  have hlI : ((line.length : Int) = (after.length : Int)) := by omega
  generalize hls : natA after = ls at *
  generalize hM : 2 ^ after.length = M at *
  replace hde : Hid _ := hde
  replace hws : Hid _ := hws
  replace horl : Hid _ := horl
  replace htab : Hid _ := htab
  replace hrd : Hid _ := hrd
  replace hrk0 : Hid _ := hrk0
  clear hV hran hds hls hM h0
  (refine callsV_of Tryd.func38 rfl KR KR ?_; rw [Tryd.results38])
  (repeat' first
    | ((with_reducible refine at_row ?_); refine row1_a fun _ _ _ _ _ _ _ => ?_)
    | with_reducible first | (first | apply alloc_k | apply row_k); intro _ _ _ _ _ _ | (first | apply fork | apply forkp) <;> intro _ | refine forke (fun _ => ?_) fun _ _ => ?_ | refine tail_k fun _ _ _ => ?_ | refine ext_k fun _ _ _ => ?_ | refine need_a ?_ | refine st_agg KR rfl ON fun _ _ _ _ => ?_ | refine wpd_q_a ?_
    | ((with_reducible refine at_f 31 ?_); refine ret_k (hva _ FR FR) fun _ _ _ => ?_)
    | simp (maxDischargeDepth := 3) only [↓X, ↓Y, ↓Q, S1, ↓reduceIte, Nat.reduceEqDiff, Nat.reduceAdd, Int.reduceLT, Int.reduceLE, Int.reduceNeg, Int.reduceBEq, Int.reduceBNe, Int.reduceEq, Nat.reduceLeDiff, Nat.reduceMul, Nat.reduceLT, *]
    | simp (singlePass := true) (maxDischargeDepth := 99) only [*, S2, Nat.reduceLT])
  refine call_k (hwy.out _ FR FR) ?_
  rintro _ w6 n6 s6 ⟨b, rfl, hbk, hbs⟩
  have kb := hbk.bk
  have hol : (O.map natV).length = M := by rw [List.length_map]; exact htl
  have I0 : Hid (0 < M ∧ idealA ls 0 = true ∧ 0 ≤ 0 * 106993205379072 ∧ (rankS ds 0 (line.drop 0)).map (0 + ·) = rankS ds 0 line) := ⟨hpp, idealA_zero _, Nat.zero_le _, by rw [List.drop_zero]; cases rankS ds 0 line <;> simp⟩
  clear hbk
  (repeat' first
    | ((with_reducible refine at_row ?_); refine row1_a fun _ _ _ _ _ _ _ => ?_)
    | with_reducible first | (first | apply alloc_k | apply row_k); intro _ _ _ _ _ _ | (first | apply fork | apply forkp) <;> intro _ | refine forke (fun _ => ?_) fun _ _ => ?_ | refine tail_k fun _ _ _ => ?_ | refine ext_k fun _ _ _ => ?_ | refine need_a ?_ | refine st_agg KR rfl ON fun _ _ _ _ => ?_ | refine wpd_q_a ?_
    | simp (maxDischargeDepth := 3) only [↓X, ↓Y, ↓Q, S1, ↓reduceIte, Nat.reduceEqDiff, Nat.reduceAdd, Int.reduceLT, Int.reduceLE, Int.reduceNeg, Int.reduceBEq, Int.reduceBNe, Int.reduceEq, Nat.reduceLeDiff, Nat.reduceMul, Nat.reduceLT, *]
    | simp (singlePass := true) (maxDischargeDepth := 99) only [*, S2, Nat.reduceLT])
  clear hlen hlI
  refine loop_k after.length (fun g0 k g w' => g 29 = .int .i64 k ∧ (g 0 = g0 0 ∧ g 7 = g0 7 ∧ g 27 = g0 27 ∧ g 28 = g0 28) ∧ ∃ r s : Nat, g 9 = .int .i64 r ∧ g 8 = .int .i64 s ∧ Hid (s < M ∧ idealA ls s = true ∧ r ≤ k * 106993205379072 ∧ (rankS ds s (line.drop k)).map (r + ·) = rankS ds 0 line)) KR (by omega) ?_ ?_ ?_
  · (repeat' first
    | ((with_reducible refine at_row ?_); refine row1_a fun _ _ _ _ _ _ _ => ?_)
    | with_reducible first | (first | apply alloc_k | apply row_k); intro _ _ _ _ _ _ | (first | apply fork | apply forkp) <;> intro _ | refine forke (fun _ => ?_) fun _ _ => ?_ | refine tail_k fun _ _ _ => ?_ | refine ext_k fun _ _ _ => ?_ | refine need_a ?_ | refine st_agg KR rfl ON fun _ _ _ _ => ?_ | refine wpd_q_a ?_
    | simp (maxDischargeDepth := 3) only [↓X, ↓Y, ↓Q, S1, ↓reduceIte, Nat.reduceEqDiff, Nat.reduceAdd, Int.reduceLT, Int.reduceLE, Int.reduceNeg, Int.reduceBEq, Int.reduceBNe, Int.reduceEq, Nat.reduceLeDiff, Nat.reduceMul, Nat.reduceLT, *]
    | simp (singlePass := true) (maxDischargeDepth := 99) only [*, S2, Nat.reduceLT])
    exact ⟨0, 0, rfl, rfl, I0.out⟩
  · rintro k m g wk hk hlt nk sk bk hw ⟨hi, hf, r, s, h9, h8, hp2⟩
    simp (maxDischargeDepth := 3) only [U, ↓reduceIte, Nat.reduceEqDiff, *] at hf
    obtain ⟨hsM, his, hr, hrk⟩ := hp2.out
    have hlt2 : k < line.length := by have := hlen'.out; omega
    rw [List.drop_eq_getElem_cons hlt2, hrk0.out] at hrk
    have hs4 : s < 4096 := by omega
    have hrM := hrd.out s
    have hR4 : rdyF s 0 ds < 4096 := by omega
    have hEe := hde.out s his
    generalize hxe : line[k] = x at *
    (repeat' first
    | ((with_reducible refine at_row ?_); refine row1_a fun _ _ _ _ _ _ _ => ?_)
    | with_reducible first | (first | apply alloc_k | apply row_k); intro _ _ _ _ _ _ | (first | apply fork | apply forkp) <;> intro _ | refine forke (fun _ => ?_) fun _ _ => ?_ | refine tail_k fun _ _ _ => ?_ | refine ext_k fun _ _ _ => ?_ | refine need_a ?_ | refine st_agg KR rfl ON fun _ _ _ _ => ?_ | refine wpd_q_a ?_
    | simp (maxDischargeDepth := 3) only [↓X, ↓Y, ↓Q, S1, ↓reduceIte, Nat.reduceEqDiff, Nat.reduceAdd, Int.reduceLT, Int.reduceLE, Int.reduceNeg, Int.reduceBEq, Int.reduceBNe, Int.reduceEq, Nat.reduceLeDiff, Nat.reduceMul, Nat.reduceLT, *, hxe]
    | simp (singlePass := true) (maxDischargeDepth := 99) only [*, S2, Nat.reduceLT, hxe])
    refine call_k (hen.out s hs4 _ FR FR) ?_
    intro u w7 n7 s7 hu
    have hus := hu.sl1 (f := natV)
    have KU := hus.k (Nat.le_refl _)
    rw [natC_ints] at hus
    have hUS := fun w' (h : Bl w7.heap.size w7 w') => hus.bl h
    replace hUS : Hid _ := hUS
    have b7 : Bl w7.heap.size w7 w7 := Bl.refl (Nat.le_refl _)
    have hem := fun i (h : i ∈ enabA ls s) => enabA_mem h
    rw [hEe] at KU hUS hem
    have hLl := lst_len12 (rdyF s 0 ds)
    have hmem : ∀ y, y ∈ lst (rdyF s 0 ds) ↔ (rdyF s 0 ds).testBit y = true := fun y => mem_lst' hR4
    have hbel : ∀ x, lst (rdyF s 0 ds &&& (2 ^ x - 1)) = (lst (rdyF s 0 ds)).filter fun j => decide (j < x) := fun x => lst_below hR4
    have hlessd : ∀ x, lessS ds s x = ((lst (rdyF s 0 ds &&& (2 ^ x - 1))).map fun i => wayS ds (s ||| 2 ^ i)).sum := fun _ => rfl
    generalize hEg : lst (rdyF s 0 ds) = E at *
    clear hu hus hEe
    (repeat' first
    | ((with_reducible refine at_row ?_); refine row1_a fun _ _ _ _ _ _ _ => ?_)
    | with_reducible first | (first | apply alloc_k | apply row_k); intro _ _ _ _ _ _ | (first | apply fork | apply forkp) <;> intro _ | refine forke (fun _ => ?_) fun _ _ => ?_ | refine tail_k fun _ _ _ => ?_ | refine ext_k fun _ _ _ => ?_ | refine need_a ?_ | refine st_agg KR rfl ON fun _ _ _ _ => ?_ | refine wpd_q_a ?_
    | simp (maxDischargeDepth := 3) only [↓X, ↓Y, ↓Q, S1, ↓reduceIte, Nat.reduceEqDiff, Nat.reduceAdd, Int.reduceLT, Int.reduceLE, Int.reduceNeg, Int.reduceBEq, Int.reduceBNe, Int.reduceEq, Nat.reduceLeDiff, Nat.reduceMul, Nat.reduceLT, *]
    | simp (singlePass := true) (maxDischargeDepth := 99) only [*, S2, Nat.reduceLT])
    refine ret_k (slicesContainsI (B := w7.heap.size) FR (hUS.out _ FR)) fun w8 n8 s8 => ?_
    by_cases hbad : x < 0 ∨ (after.length : Int) ≤ x ∨ (rdyF s 0 ds).testBit x.toNat = false
    · have hc : (E.map fun n : Nat => (n : Int)).contains x = false := by
        rw [← Bool.not_eq_true, List.contains_iff_mem]
        intro hm
        obtain ⟨y, hy, rfl⟩ := List.mem_map.1 hm
        have h1 := (hmem y).1 hy
        have h2 := (hem y hy).1
        rw [hnl] at h2
        rcases hbad with h | h | h
        · omega
        · omega
        · rw [Int.toNat_natCast, h1] at h; cases h
      rw [hc]
      rw [if_pos hbad] at hrk
      have hres : rankS ds 0 line = none := by rw [← hrk]; rfl
      rw [hres]
      clear hbad hrk hres hc
      (repeat' first
    | ((with_reducible refine at_row ?_); refine row1_a fun _ _ _ _ _ _ _ => ?_)
    | with_reducible first | (first | apply alloc_k | apply row_k); intro _ _ _ _ _ _ | (first | apply fork | apply forkp) <;> intro _ | refine forke (fun _ => ?_) fun _ _ => ?_ | refine tail_k fun _ _ _ => ?_ | refine ext_k fun _ _ _ => ?_ | refine need_a ?_ | refine st_agg KR rfl ON fun _ _ _ _ => ?_ | refine wpd_q_a ?_
    | simp (maxDischargeDepth := 3) only [↓X, ↓Y, ↓Q, S1, ↓reduceIte, Nat.reduceEqDiff, Nat.reduceAdd, Int.reduceLT, Int.reduceLE, Int.reduceNeg, Int.reduceBEq, Int.reduceBNe, Int.reduceEq, Nat.reduceLeDiff, Nat.reduceMul, Nat.reduceLT, *]
    | simp (singlePass := true) (maxDischargeDepth := 99) only [*, S2, Nat.reduceLT])
    · obtain ⟨y, rfl⟩ : ∃ y : Nat, x = y := ⟨x.toNat, by omega⟩
      rw [Int.toNat_natCast] at hbad
      have hbit : (rdyF s 0 ds).testBit y = true := by
        cases h : (rdyF s 0 ds).testBit y
        · exact absurd (.inr (.inr h)) hbad
        · rfl
      have hyE := (hmem y).2 hbit
      have hyn : y < after.length := by omega
      have hc : (E.map fun n : Nat => (n : Int)).contains (y : Int) = true := by
        rw [List.contains_iff_mem]
        exact List.mem_map.2 ⟨y, hyE, rfl⟩
      rw [hc]
      rw [Int.toNat_natCast, if_neg hbad] at hrk
      have hiy := (hem y hyE).2.2
      have hory := horl.out s y hsM hyn
      have h12' := hn12.out
      have ey := shlI_nat (k := y) (by omega)
      have h2y := two_pow_le (k := y) (by omega)
      have e4 := orI_nat (a := s) (b := 2 ^ y) (by omega) (by omega)
      have hless : Hid (lessS ds s y = ((E.filter fun j => decide (j < y)).map fun i => wayS ds (s ||| 2 ^ i)).sum) := by
        show lessS ds s y = _
        rw [hlessd, hbel]
      have hlesB : Hid (lessS ds s y ≤ 106993205379072) := by
        show lessS ds s y ≤ _
        rw [hless.out]
        have := sum_filter_le (f := fun i => wayS ds (s ||| 2 ^ i)) (p := fun j => decide (j < y)) (l := E) (M := 8916100448256) (fun x => hws.out _) hLl
        omega
      replace hem : Hid _ := hem
      replace hrk : Hid _ := hrk
      clear hbad hbit hyE hc hmem hbel hlessd hrM hR4 hp2 h12'
      (repeat' first
    | ((with_reducible refine at_row ?_); refine row1_a fun _ _ _ _ _ _ _ => ?_)
    | with_reducible first | (first | apply alloc_k | apply row_k); intro _ _ _ _ _ _ | (first | apply fork | apply forkp) <;> intro _ | refine forke (fun _ => ?_) fun _ _ => ?_ | refine tail_k fun _ _ _ => ?_ | refine ext_k fun _ _ _ => ?_ | refine need_a ?_ | refine st_agg KR rfl ON fun _ _ _ _ => ?_ | refine wpd_q_a ?_
    | simp (maxDischargeDepth := 3) only [↓X, ↓Y, ↓Q, S1, ↓reduceIte, Nat.reduceEqDiff, Nat.reduceAdd, Int.reduceLT, Int.reduceLE, Int.reduceNeg, Int.reduceBEq, Int.reduceBNe, Int.reduceEq, Nat.reduceLeDiff, Nat.reduceMul, Nat.reduceLT, *]
    | simp (singlePass := true) (maxDischargeDepth := 99) only [*, S2, Nat.reduceLT])
      refine loop_k E.length (fun g0 j g w' => g 42 = .int .i64 j ∧ (g 0 = g0 0 ∧ g 7 = g0 7 ∧ g 8 = g0 8 ∧ g 11 = g0 11 ∧ g 27 = g0 27 ∧ g 28 = g0 28 ∧ g 29 = g0 29 ∧ g 40 = g0 40 ∧ g 41 = g0 41) ∧ g 9 = .int .i64 ((r + (((E.take j).filter fun j => decide (j < y)).map fun i => wayS ds (s ||| 2 ^ i)).sum : Nat) : Int)) KR (by omega) ?_ ?_ ?_
      · (repeat' first
    | ((with_reducible refine at_row ?_); refine row1_a fun _ _ _ _ _ _ _ => ?_)
    | with_reducible first | (first | apply alloc_k | apply row_k); intro _ _ _ _ _ _ | (first | apply fork | apply forkp) <;> intro _ | refine forke (fun _ => ?_) fun _ _ => ?_ | refine tail_k fun _ _ _ => ?_ | refine ext_k fun _ _ _ => ?_ | refine need_a ?_ | refine st_agg KR rfl ON fun _ _ _ _ => ?_ | refine wpd_q_a ?_
    | simp (maxDischargeDepth := 3) only [↓X, ↓Y, ↓Q, S1, ↓reduceIte, Nat.reduceEqDiff, Nat.reduceAdd, Int.reduceLT, Int.reduceLE, Int.reduceNeg, Int.reduceBEq, Int.reduceBNe, Int.reduceEq, Nat.reduceLeDiff, Nat.reduceMul, Nat.reduceLT, *]
    | simp (singlePass := true) (maxDischargeDepth := 99) only [*, S2, Nat.reduceLT])
        all_goals simp
      · rintro j m2 g2 w2 hk2 hlt2 n2 s2 b2 hw2 ⟨hi2, hf2, h92⟩
        simp (maxDischargeDepth := 3) only [U, ↓reduceIte, Nat.reduceEqDiff, *] at hf2
        obtain ⟨i1, i2, i3⟩ := hem.out _ (List.getElem_mem hlt2)
        have hst := sum_filter_take (f := fun i => wayS ds (s ||| 2 ^ i)) (p := fun j => decide (j < y)) hlt2
        generalize hie : E[j] = i at *
        rw [hnl] at i1
        have h12' := hn12.out
        have e5 := shlI_nat (k := i) (by omega)
        have h2i := two_pow_le (k := i) (by omega)
        have e6 := orI_nat (a := s) (b := 2 ^ i) (by omega) (by omega)
        have hor := horl.out s i hsM i1
        have htb := htab.out _ hor i3
        have g2' : (O.map natV)[s ||| 2 ^ i]? = some (.int .i64 (O.getD (s ||| 2 ^ i) 0 : Nat)) := rowN_get (by omega)
        rw [htb] at g2'
        have hsl := sum_filter_le (f := fun i => wayS ds (s ||| 2 ^ i)) (p := fun j => decide (j < y)) (l := E.take (j + 1)) (M := 8916100448256) (fun x => hws.out _) (by rw [List.length_take]; omega)
        have hr12 : k * 106993205379072 ≤ 12 * 106993205379072 := Nat.mul_le_mul_right _ (by omega)
        generalize ht0 : (((E.take j).filter fun j => decide (j < y)).map fun i => wayS ds (s ||| 2 ^ i)).sum = tot at *
        generalize ht1 : (((E.take (j + 1)).filter fun j => decide (j < y)).map fun i => wayS ds (s ||| 2 ^ i)).sum = tot1 at *
        replace ht1 : Hid _ := ht1
        clear ht0 htb h12' i2 i3
        by_cases hiy2 : i < y
        · have hiI : ((i : Int) < (y : Int)) := by omega
          have hd9 : decide (i < y) = true := by simpa using hiy2
          rw [hd9, if_pos rfl] at hst
          have hw9 : IntKind.i64.wrap (((r + tot : Nat) : Int) + (wayS ds (s ||| 2 ^ i) : Nat)) = ((r + tot1 : Nat) : Int) := by
            rw [wrap_i64_id] <;> omega
          clear hst hd9
          (repeat' first
    | ((with_reducible refine at_row ?_); refine row1_a fun _ _ _ _ _ _ _ => ?_)
    | with_reducible first | (first | apply alloc_k | apply row_k); intro _ _ _ _ _ _ | (first | apply fork | apply forkp) <;> intro _ | refine forke (fun _ => ?_) fun _ _ => ?_ | refine tail_k fun _ _ _ => ?_ | refine ext_k fun _ _ _ => ?_ | refine need_a ?_ | refine st_agg KR rfl ON fun _ _ _ _ => ?_ | refine wpd_q_a ?_
    | simp (maxDischargeDepth := 3) only [↓X, ↓Y, ↓Q, S1, ↓reduceIte, Nat.reduceEqDiff, Nat.reduceAdd, Int.reduceLT, Int.reduceLE, Int.reduceNeg, Int.reduceBEq, Int.reduceBNe, Int.reduceEq, Nat.reduceLeDiff, Nat.reduceMul, Nat.reduceLT, *, hie, hw9]
    | simp (singlePass := true) (maxDischargeDepth := 99) only [*, S2, Nat.reduceLT, hie, hw9])
          refine next_k hk2 hlt2 ?_ FR
          (repeat' first
    | ((with_reducible refine at_row ?_); refine row1_a fun _ _ _ _ _ _ _ => ?_)
    | with_reducible first | (first | apply alloc_k | apply row_k); intro _ _ _ _ _ _ | (first | apply fork | apply forkp) <;> intro _ | refine forke (fun _ => ?_) fun _ _ => ?_ | refine tail_k fun _ _ _ => ?_ | refine ext_k fun _ _ _ => ?_ | refine need_a ?_ | refine st_agg KR rfl ON fun _ _ _ _ => ?_ | refine wpd_q_a ?_
    | simp (maxDischargeDepth := 3) only [↓X, ↓Y, ↓Q, S1, ↓reduceIte, Nat.reduceEqDiff, Nat.reduceAdd, Int.reduceLT, Int.reduceLE, Int.reduceNeg, Int.reduceBEq, Int.reduceBNe, Int.reduceEq, Nat.reduceLeDiff, Nat.reduceMul, Nat.reduceLT, *]
    | simp (singlePass := true) (maxDischargeDepth := 99) only [*, S2, Nat.reduceLT])
          rw [ht1.out]
        · have hiI : ¬ ((i : Int) < (y : Int)) := by omega
          have hd9 : decide (i < y) = false := by simpa using hiy2
          rw [hd9] at hst
          simp only [Bool.false_eq_true, if_false, Nat.add_zero] at hst
          subst hst
          (repeat' first
    | ((with_reducible refine at_row ?_); refine row1_a fun _ _ _ _ _ _ _ => ?_)
    | with_reducible first | (first | apply alloc_k | apply row_k); intro _ _ _ _ _ _ | (first | apply fork | apply forkp) <;> intro _ | refine forke (fun _ => ?_) fun _ _ => ?_ | refine tail_k fun _ _ _ => ?_ | refine ext_k fun _ _ _ => ?_ | refine need_a ?_ | refine st_agg KR rfl ON fun _ _ _ _ => ?_ | refine wpd_q_a ?_
    | simp (maxDischargeDepth := 3) only [↓X, ↓Y, ↓Q, S1, ↓reduceIte, Nat.reduceEqDiff, Nat.reduceAdd, Int.reduceLT, Int.reduceLE, Int.reduceNeg, Int.reduceBEq, Int.reduceBNe, Int.reduceEq, Nat.reduceLeDiff, Nat.reduceMul, Nat.reduceLT, *, hie]
    | simp (singlePass := true) (maxDischargeDepth := 99) only [*, S2, Nat.reduceLT, hie])
          refine next_k hk2 hlt2 ?_ FR
          (repeat' first
    | ((with_reducible refine at_row ?_); refine row1_a fun _ _ _ _ _ _ _ => ?_)
    | with_reducible first | (first | apply alloc_k | apply row_k); intro _ _ _ _ _ _ | (first | apply fork | apply forkp) <;> intro _ | refine forke (fun _ => ?_) fun _ _ => ?_ | refine tail_k fun _ _ _ => ?_ | refine ext_k fun _ _ _ => ?_ | refine need_a ?_ | refine st_agg KR rfl ON fun _ _ _ _ => ?_ | refine wpd_q_a ?_
    | simp (maxDischargeDepth := 3) only [↓X, ↓Y, ↓Q, S1, ↓reduceIte, Nat.reduceEqDiff, Nat.reduceAdd, Int.reduceLT, Int.reduceLE, Int.reduceNeg, Int.reduceBEq, Int.reduceBNe, Int.reduceEq, Nat.reduceLeDiff, Nat.reduceMul, Nat.reduceLT, *]
    | simp (singlePass := true) (maxDischargeDepth := 99) only [*, S2, Nat.reduceLT])
          rw [ht1.out]
      · rintro g2 w2 n2 s2 b2 ⟨hi2, hf2, h92⟩
        simp (maxDischargeDepth := 3) only [U, ↓reduceIte, Nat.reduceEqDiff, *] at hf2
        rw [List.take_length, ← hless.out] at h92
        (repeat' first
    | ((with_reducible refine at_row ?_); refine row1_a fun _ _ _ _ _ _ _ => ?_)
    | with_reducible first | (first | apply alloc_k | apply row_k); intro _ _ _ _ _ _ | (first | apply fork | apply forkp) <;> intro _ | refine forke (fun _ => ?_) fun _ _ => ?_ | refine tail_k fun _ _ _ => ?_ | refine ext_k fun _ _ _ => ?_ | refine need_a ?_ | refine st_agg KR rfl ON fun _ _ _ _ => ?_ | refine wpd_q_a ?_
    | simp (maxDischargeDepth := 3) only [↓X, ↓Y, ↓Q, S1, ↓reduceIte, Nat.reduceEqDiff, Nat.reduceAdd, Int.reduceLT, Int.reduceLE, Int.reduceNeg, Int.reduceBEq, Int.reduceBNe, Int.reduceEq, Nat.reduceLeDiff, Nat.reduceMul, Nat.reduceLT, *]
    | simp (singlePass := true) (maxDischargeDepth := 99) only [*, S2, Nat.reduceLT])
        refine next_k hk hlt ?_ FR
        (repeat' first
    | ((with_reducible refine at_row ?_); refine row1_a fun _ _ _ _ _ _ _ => ?_)
    | with_reducible first | (first | apply alloc_k | apply row_k); intro _ _ _ _ _ _ | (first | apply fork | apply forkp) <;> intro _ | refine forke (fun _ => ?_) fun _ _ => ?_ | refine tail_k fun _ _ _ => ?_ | refine ext_k fun _ _ _ => ?_ | refine need_a ?_ | refine st_agg KR rfl ON fun _ _ _ _ => ?_ | refine wpd_q_a ?_
    | simp (maxDischargeDepth := 3) only [↓X, ↓Y, ↓Q, S1, ↓reduceIte, Nat.reduceEqDiff, Nat.reduceAdd, Int.reduceLT, Int.reduceLE, Int.reduceNeg, Int.reduceBEq, Int.reduceBNe, Int.reduceEq, Nat.reduceLeDiff, Nat.reduceMul, Nat.reduceLT, *]
    | simp (singlePass := true) (maxDischargeDepth := 99) only [*, S2, Nat.reduceLT])
        refine ⟨_, _, rfl, rfl, hory, hiy, ?_, ?_⟩
        · have := hlesB.out
          rw [Nat.add_mul]; omega
        · rw [← hrk.out, Option.map_map]
          congr 1
          funext z
          simp only [Function.comp_apply]
          omega
  · rintro g wk nk sk bk ⟨hi, hf, r, s, h9, h8, hp2⟩
    simp (maxDischargeDepth := 3) only [U, ↓reduceIte, Nat.reduceEqDiff, *] at hf
    obtain ⟨hsM, his, hr, hrk⟩ := hp2.out
    rw [← hlen'.out, List.drop_length] at hrk
    have hres : rankS ds 0 line = some r := by rw [← hrk]; simp [rankS]
    rw [hres]
    (repeat' first
    | ((with_reducible refine at_row ?_); refine row1_a fun _ _ _ _ _ _ _ => ?_)
    | with_reducible first | (first | apply alloc_k | apply row_k); intro _ _ _ _ _ _ | (first | apply fork | apply forkp) <;> intro _ | refine forke (fun _ => ?_) fun _ _ => ?_ | refine tail_k fun _ _ _ => ?_ | refine ext_k fun _ _ _ => ?_ | refine need_a ?_ | refine st_agg KR rfl ON fun _ _ _ _ => ?_ | refine wpd_q_a ?_
    | simp (maxDischargeDepth := 3) only [↓X, ↓Y, ↓Q, S1, ↓reduceIte, Nat.reduceEqDiff, Nat.reduceAdd, Int.reduceLT, Int.reduceLE, Int.reduceNeg, Int.reduceBEq, Int.reduceBNe, Int.reduceEq, Nat.reduceLeDiff, Nat.reduceMul, Nat.reduceLT, *]
    | simp (singlePass := true) (maxDischargeDepth := 99) only [*, S2, Nat.reduceLT])
end
end Go.Proofs.YteeaccnklkcchaaDoor
