
/- The statement OrderDilworth. -/
import Derived.Test.YteeaccnklkcchaaDoorRefH10
import Derived.Test.YteeaccnklkcchaaDoorMade10b
namespace Go.Proofs.YteeaccnklkcchaaDoor
set_option linter.unusedSimpArgs false
set_option linter.unusedVariables false
open Go Go.RowKit
set_option maxRecDepth 100000
set_option linter.unusedSectionVars false
set_option maxHeartbeats 4000000
def boolV (b : Bool) : Value := .bool b
section
variable {w : World} {B : Nat} {v tv : Value} {turn : List Int}
theorem slicesIndexB {x : Bool} {l : List Bool} (hB : B ≤ w.heap.size) (hv : Sl w B none 1 v (l.map boolV)) : Ret Tryd.prog 64 #[v, .bool x] w (intV (fidx (fun y => x == y) l)) := by
  have hn : Now w := trivial
  have hx : Ext w w := Ext.refl w
  have hv' := hv.k hB
  have hmax : l.length ≤ 9223372036854775807 := by simpa using hv.maxLen
  (refine callsV_of Tryd.func64 rfl KR KR ?_; rw [Tryd.results64])
  (repeat' first
    | ((with_reducible refine at_row ?_); refine row1_a fun _ _ _ _ _ _ _ => ?_)
    | with_reducible first | (first | apply alloc_k | apply row_k); intro _ _ _ _ _ _ | (first | apply fork | apply forkp) <;> intro _ | refine forke (fun _ => ?_) fun _ _ => ?_ | refine tail_k fun _ _ _ => ?_ | refine ext_k fun _ _ _ => ?_ | refine need_a ?_ | refine st_agg KR rfl ON fun _ _ _ _ => ?_ | refine wpd_q_a ?_
    | simp (maxDischargeDepth := 3) only [↓X, ↓Y, ↓Q, S1, ↓reduceIte, Nat.reduceEqDiff, Nat.reduceAdd, Int.reduceLT, Int.reduceLE, Int.reduceNeg, Int.reduceBEq, Int.reduceBNe, Int.reduceEq, Nat.reduceLeDiff, Nat.reduceMul, Nat.reduceLT, *, boolV]
    | simp (singlePass := true) (maxDischargeDepth := 99) only [*, S2, Nat.reduceLT, boolV])
  refine loop_k (l.length) (fun g0 k g _ => g 8 = .int .i64 k ∧ (g 0 = g0 0 ∧ g 1 = g0 1 ∧ g 7 = g0 7) ∧ Hid (∀ i (h : i < l.length), i < k → l[i] ≠ x)) KR (hmax) ?_ ?_ ?_
  · (repeat' first
    | ((with_reducible refine at_row ?_); refine row1_a fun _ _ _ _ _ _ _ => ?_)
    | with_reducible first | (first | apply alloc_k | apply row_k); intro _ _ _ _ _ _ | (first | apply fork | apply forkp) <;> intro _ | refine forke (fun _ => ?_) fun _ _ => ?_ | refine tail_k fun _ _ _ => ?_ | refine ext_k fun _ _ _ => ?_ | refine need_a ?_ | refine st_agg KR rfl ON fun _ _ _ _ => ?_ | refine wpd_q_a ?_
    | simp (maxDischargeDepth := 3) only [↓X, ↓Y, ↓Q, S1, ↓reduceIte, Nat.reduceEqDiff, Nat.reduceAdd, Int.reduceLT, Int.reduceLE, Int.reduceNeg, Int.reduceBEq, Int.reduceBNe, Int.reduceEq, Nat.reduceLeDiff, Nat.reduceMul, Nat.reduceLT, *, List.take_zero, List.all_nil, List.any_nil]
    | simp (singlePass := true) (maxDischargeDepth := 99) only [*, S2, Nat.reduceLT, List.take_zero, List.all_nil, List.any_nil])
    exact fun i _ h => absurd h (by omega)
  · rintro k m g wk hk hlt _ _ _ hw ⟨hi, hf, hp⟩
    simp (maxDischargeDepth := 3) only [U, ↓reduceIte, Nat.reduceEqDiff, *] at hf
    (repeat' first
    | ((with_reducible refine at_row ?_); refine row1_a fun _ _ _ _ _ _ _ => ?_)
    | with_reducible first | (first | apply alloc_k | apply row_k); intro _ _ _ _ _ _ | (first | apply fork | apply forkp) <;> intro _ | refine forke (fun _ => ?_) fun _ _ => ?_ | refine tail_k fun _ _ _ => ?_ | refine ext_k fun _ _ _ => ?_ | refine need_a ?_ | refine st_agg KR rfl ON fun _ _ _ _ => ?_ | refine wpd_q_a ?_
    | simp (maxDischargeDepth := 3) only [↓X, ↓Y, ↓Q, S1, ↓reduceIte, Nat.reduceEqDiff, Nat.reduceAdd, Int.reduceLT, Int.reduceLE, Int.reduceNeg, Int.reduceBEq, Int.reduceBNe, Int.reduceEq, Nat.reduceLeDiff, Nat.reduceMul, Nat.reduceLT, *, boolV]
    | simp (singlePass := true) (maxDischargeDepth := 99) only [*, S2, Nat.reduceLT, boolV])
    · rename_i he
      have he := beq_iff_eq.1 he
      subst he
      congr 1
      unfold fidx
      rw [List.findIdx?_eq_some_iff_getElem.2 ⟨hlt, by simp, fun j hj => by have := hp.out j (by omega) hj; simpa using fun e => this e.symm⟩]
    · rename_i hb he
      refine next_k hk hlt ?_ FR
      (repeat' first
    | ((with_reducible refine at_row ?_); refine row1_a fun _ _ _ _ _ _ _ => ?_)
    | with_reducible first | (first | apply alloc_k | apply row_k); intro _ _ _ _ _ _ | (first | apply fork | apply forkp) <;> intro _ | refine forke (fun _ => ?_) fun _ _ => ?_ | refine tail_k fun _ _ _ => ?_ | refine ext_k fun _ _ _ => ?_ | refine need_a ?_ | refine st_agg KR rfl ON fun _ _ _ _ => ?_ | refine wpd_q_a ?_
    | simp (maxDischargeDepth := 3) only [↓X, ↓Y, ↓Q, S1, ↓reduceIte, Nat.reduceEqDiff, Nat.reduceAdd, Int.reduceLT, Int.reduceLE, Int.reduceNeg, Int.reduceBEq, Int.reduceBNe, Int.reduceEq, Nat.reduceLeDiff, Nat.reduceMul, Nat.reduceLT, *]
    | simp (singlePass := true) (maxDischargeDepth := 99) only [*, S2, Nat.reduceLT])
      intro i h1 h2
      rcases Nat.lt_or_eq_of_le (Nat.le_of_lt_succ h2) with h3 | rfl
      · exact hp.out i h1 h3
      · exact fun e => by rw [e, beq_self_eq_true] at he; cases he
  · rintro g wk _ _ _ ⟨hi, hf, hp⟩
    simp (maxDischargeDepth := 3) only [U, ↓reduceIte, Nat.reduceEqDiff, *] at hf
    (repeat' first
    | ((with_reducible refine at_row ?_); refine row1_a fun _ _ _ _ _ _ _ => ?_)
    | with_reducible first | (first | apply alloc_k | apply row_k); intro _ _ _ _ _ _ | (first | apply fork | apply forkp) <;> intro _ | refine forke (fun _ => ?_) fun _ _ => ?_ | refine tail_k fun _ _ _ => ?_ | refine ext_k fun _ _ _ => ?_ | refine need_a ?_ | refine st_agg KR rfl ON fun _ _ _ _ => ?_ | refine wpd_q_a ?_
    | simp (maxDischargeDepth := 3) only [↓X, ↓Y, ↓Q, S1, ↓reduceIte, Nat.reduceEqDiff, Nat.reduceAdd, Int.reduceLT, Int.reduceLE, Int.reduceNeg, Int.reduceBEq, Int.reduceBNe, Int.reduceEq, Nat.reduceLeDiff, Nat.reduceMul, Nat.reduceLT, *]
    | simp (singlePass := true) (maxDischargeDepth := 99) only [*, S2, Nat.reduceLT])
    congr 1
    unfold fidx
    rw [List.findIdx?_eq_none_iff.2 fun y hy => by
      obtain ⟨i, hi', rfl⟩ := List.getElem_of_mem hy
      have := hp.out i hi' hi'
      simpa using fun e => this e.symm]
theorem slicesContainsB {x : Bool} {l : List Bool} (hB : B ≤ w.heap.size) (hv : Sl w B none 1 v (l.map boolV)) : Ret Tryd.prog 44 #[v, .bool x] w (.bool (l.contains x)) := by
  have hn : Now w := trivial
  have hx : Ext w w := Ext.refl w
  have hbw : Bl B w w := Bl.refl hB
  have hV := fun w' (h : Bl B w w') => hv.bl h
  replace hV : Hid _ := hV
  have e : decide (0 ≤ fidx (fun y => x == y) l) = l.contains x := by
    rw [Bool.eq_iff_iff, decide_eq_true_eq, List.contains_iff_mem]
    unfold fidx
    cases h : l.findIdx? (fun y => x == y) with
    | none =>
      rw [List.findIdx?_eq_none_iff] at h
      constructor
      · intro h1
        exact absurd h1 (by decide)
      · intro h1
        have := h x h1
        simp at this
    | some i =>
      rw [List.findIdx?_eq_some_iff_getElem] at h
      obtain ⟨h1, h2, _⟩ := h
      refine ⟨fun _ => ?_, fun _ => Int.natCast_nonneg i⟩
      have : x = l[i] := by simpa using h2
      rw [this]
      exact List.getElem_mem h1
  (refine callsV_of Tryd.func44 rfl KR KR ?_; rw [Tryd.results44])
  (repeat' first
    | ((with_reducible refine at_row ?_); refine row1_a fun _ _ _ _ _ _ _ => ?_)
    | with_reducible first | (first | apply alloc_k | apply row_k); intro _ _ _ _ _ _ | (first | apply fork | apply forkp) <;> intro _ | refine forke (fun _ => ?_) fun _ _ => ?_ | refine tail_k fun _ _ _ => ?_ | refine ext_k fun _ _ _ => ?_ | refine need_a ?_ | refine st_agg KR rfl ON fun _ _ _ _ => ?_ | refine wpd_q_a ?_
    | ((with_reducible refine at_f 64 ?_); refine ret_k (slicesIndexB (B := B) FR (hV.out _ FR)) fun _ _ _ => ?_)
    | simp (maxDischargeDepth := 3) only [↓X, ↓Y, ↓Q, S1, ↓reduceIte, Nat.reduceEqDiff, Nat.reduceAdd, Int.reduceLT, Int.reduceLE, Int.reduceNeg, Int.reduceBEq, Int.reduceBNe, Int.reduceEq, Nat.reduceLeDiff, Nat.reduceMul, Nat.reduceLT, *]
    | simp (singlePass := true) (maxDischargeDepth := 99) only [*, S2, Nat.reduceLT])
  all_goals (rw [← e])
theorem cont_lst {s y : Nat} (h : s < 4096) : (intL (lst s)).contains (y : Int) = s.testBit y := by
  rw [Bool.eq_iff_iff, List.contains_iff_mem, ← mem_lst' h, intL, List.mem_map]
  constructor
  · rintro ⟨a, ha, e⟩
    obtain rfl : a = y := by omega
    exact ha
  · intro ha
    exact ⟨y, ha, rfl⟩
/-- The row of what has been seen. -/
def seenL (n : Nat) (P : List Nat) : List Bool := (List.range n).map fun x => decide (x ∈ P)
theorem seen_len (n : Nat) (P : List Nat) : (seenL n P).length = n := by simp [seenL]
theorem seen_get {n x : Nat} {P : List Nat} (h : x < n) : ((seenL n P).map boolV)[x]? = some (.bool (decide (x ∈ P))) := by
  simp [seenL, List.getElem?_map, List.getElem?_range h, boolV]
theorem seen_zero (n : Nat) : List.replicate n (Value.bool false) = (seenL n []).map boolV := by
  simp [seenL, boolV, List.map_const']
theorem seen_add {n x : Nat} {P : List Nat} : ((seenL n P).map boolV).set x (.bool true) = (seenL n (P ++ [x])).map boolV := by
  apply List.ext_getElem
  · simp [seenL]
  · intro i h1 h2
    rw [List.getElem_set]
    simp only [seenL, List.getElem_map, List.getElem_range, boolV, List.mem_append, List.mem_singleton]
    split
    · rename_i e; simp [e]
    · rename_i e
      have : i ≠ x := fun h => e h.symm
      simp [this]
theorem seen_full {n : Nat} {P : List Nat} (h : ∀ x, x ∈ P ↔ x < n) : (seenL n P).contains false = false := by
  cases hc : (seenL n P).contains false with
  | false => rfl
  | true =>
    rw [List.contains_iff_mem, seenL, List.mem_map] at hc
    obtain ⟨x, hx, e⟩ := hc
    have : x ∈ P := (h x).2 (List.mem_range.1 hx)
    simp [this] at e
theorem lawOrderDilworth {n p s : Int} (hn0 : 0 ≤ n ∧ n ≤ 255) (hT : TabW w) (hB : B ≤ w.heap.size) (ht : Sl w B none 1 tv (turn.map u8V)) (hu : ∀ x ∈ turn, 0 ≤ x ∧ x ≤ 255) : Ret Tryd.prog 9 #[.int .u8 n, tv, .int .u64 p, .int .u16 s] w (.bool true) := by
  have hn : Now w := trivial
  have hx : Ext w w := Ext.refl w
  have hT' := fun w' (h : Ext w w') => hT.ext h
  replace hT' : Hid _ := hT'
  have hbw : Bl B w w := Bl.refl hB
  have KT := ht.k hB
  have hTB := fun w' (h : Bl B w w') => ht.bl h
  replace hTB : Hid _ := hTB
  clear ht
  (refine callsV_of Tryd.func9 rfl KR KR ?_; rw [Tryd.results9])
  (repeat' first
    | ((with_reducible refine at_row ?_); refine row1_a fun _ _ _ _ _ _ _ => ?_)
    | with_reducible first | (first | apply alloc_k | apply row_k); intro _ _ _ _ _ _ | (first | apply fork | apply forkp) <;> intro _ | refine forke (fun _ => ?_) fun _ _ => ?_ | refine tail_k fun _ _ _ => ?_ | refine ext_k fun _ _ _ => ?_ | refine need_a ?_ | refine st_agg KR rfl ON fun _ _ _ _ => ?_ | refine wpd_q_a ?_
    | simp (maxDischargeDepth := 3) only [↓X, ↓Y, ↓Q, S1, ↓reduceIte, Nat.reduceEqDiff, Nat.reduceAdd, Int.reduceLT, Int.reduceLE, Int.reduceNeg, Int.reduceBEq, Int.reduceBNe, Int.reduceEq, Nat.reduceLeDiff, Nat.reduceMul, Nat.reduceLT, *]
    | simp (singlePass := true) (maxDischargeDepth := 99) only [*, S2, Nat.reduceLT])
  refine call_k (law10made hn0 (B := B) FR (hTB.out _ FR) hu) ?_
  rintro v w1 n1 s1 ⟨us, A, hA, hA9, h0⟩
  have hV1 := fun w' (h : Bl w1.heap.size w1 w') => hA.blz h
  replace hV1 : Hid _ := hV1
  have b1 : Bl w1.heap.size w1 w1 := Bl.refl (Nat.le_refl _)
  have one1 := hA.v.one
  have len1 := hA.len_
  obtain ⟨cs, hc⟩ := chains_ok h0
  have hcs : (chainsN (ofS A).2.2 A.length).getD [] = cs := by rw [hc.is]; rfl
  have h12 := (ord_ok h0).1
  have hal := (ord_ok h0).2.2.2.2.1
  have hLT : Hid (∀ x, (ofS A).2.2.getD x 0 < 4096) := (ord_ok h0).2.2.2.2.2.2.2.2.2
  have hHn := (height_ok h0 rfl).1
  have hso : Hid ((ofS A).1 = 0 → (chainsN (ofS A).2.2 A.length).isSome) := chains_some
  have hat : Hid (∀ t (ht : t < cs.length) i (hi : i < cs[t].length), cs[t][i] < A.length ∧ cs[t][i] ∉ (cs.take t).flatten ++ cs[t].take i ∧ (cs.take t).flatten ++ cs[t].take (i + 1) = ((cs.take t).flatten ++ cs[t].take i) ++ [cs[t][i]]) := fun t ht i hi => ch_at hc ht hi
  have hed : Hid (∀ t (ht : t < cs.length) i (hi : i + 1 < cs[t].length), ((ofS A).2.2.getD (cs[t][i + 1]) 0).testBit cs[t][i] = true) := fun t ht i hi => hc.ed _ (List.getElem_mem ht) i hi
  have hne : Hid (∀ t (ht : t < cs.length), 0 < cs[t].length ∧ cs[t].length ≤ heightN (ofS A).2.1 A.length 4096 0) := fun t ht => ⟨List.length_pos_iff.2 (hc.ne _ (List.getElem_mem ht)), hc.hi _ (List.getElem_mem ht)⟩
  have hall : Hid (∀ x, x ∈ cs.flatten ↔ x < A.length) := hc.all
  have hle : Hid (∀ S : List Nat, S.Nodup → (∀ x ∈ S, x < A.length) → (∀ x ∈ S, ∀ y ∈ S, ((ofS A).2.2.getD y 0).testBit x ≠ true) → S.length ≤ cs.length) := hc.le
  have hnext : Hid (∀ t (ht : t < cs.length), (cs.take (t + 1)).flatten = (cs.take t).flatten ++ cs[t].take cs[t].length) := fun t ht => ch_next ht
  have c1 := fun w' (h1 : Ext w w') (h2 : Bl w1.heap.size w1 w') (h3 : w1.heap.size ≤ w'.heap.size) => orderClosure (w := w') (B := w1.heap.size) (hT'.out w' h1) h3 (hV1.out w' h2)
  have c2 := fun w' (h1 : Ext w w') (h2 : Bl w1.heap.size w1 w') (h3 : w1.heap.size ≤ w'.heap.size) => orderWidth (w := w') (B := w1.heap.size) (hT'.out w' h1) h3 (hV1.out w' h2) hso.out
  have c3 := fun w' (h1 : Ext w w') (h2 : Bl w1.heap.size w1 w') (h3 : w1.heap.size ≤ w'.heap.size) => orderHeight (w := w') (B := w1.heap.size) (hT'.out w' h1) h3 (hV1.out w' h2)
  have c4 := fun w' (h1 : Ext w w') (h2 : Bl w1.heap.size w1 w') (h3 : w1.heap.size ≤ w'.heap.size) => orderChains (w := w') (B := w1.heap.size) (hT'.out w' h1) h3 (hV1.out w' h2) hso.out
  simp only [h0, heightE, hcs, if_true] at c1 c2 c3 c4
  generalize (ofS A).2.2 = al at *
  generalize heightN (ofS A).2.1 A.length 4096 0 = H at *
  replace c1 : Hid _ := c1
  replace c4 : Hid _ := c4
  clear hA hTB hu KT hcs hc h0 hso
  (repeat' first
    | ((with_reducible refine at_row ?_); refine row1_a fun _ _ _ _ _ _ _ => ?_)
    | with_reducible first | (first | apply alloc_k | apply row_k); intro _ _ _ _ _ _ | (first | apply fork | apply forkp) <;> intro _ | refine forke (fun _ => ?_) fun _ _ => ?_ | refine tail_k fun _ _ _ => ?_ | refine ext_k fun _ _ _ => ?_ | refine need_a ?_ | refine st_agg KR rfl ON fun _ _ _ _ => ?_ | refine wpd_q_a ?_
    | simp (maxDischargeDepth := 3) only [↓X, ↓Y, ↓Q, S1, ↓reduceIte, Nat.reduceEqDiff, Nat.reduceAdd, Int.reduceLT, Int.reduceLE, Int.reduceNeg, Int.reduceBEq, Int.reduceBNe, Int.reduceEq, Nat.reduceLeDiff, Nat.reduceMul, Nat.reduceLT, *]
    | simp (singlePass := true) (maxDischargeDepth := 99) only [*, S2, Nat.reduceLT])
  refine call_k (c1.out _ FR FR FR) ?_
  rintro _ w2 n2 s2 ⟨o2, rfl, ho2⟩
  obtain ⟨us2, hr2⟩ := ho2.r
  have one2 := ho2.one
  have len2 := hr2.len_
  have hlen2 : ((al.map lst).map intL).length = A.length := by rw [List.length_map, List.length_map, hal]
  rw [hlen2] at len2
  have hg2 := fun w' (h : Bl w2.heap.size w2 w') (k : Nat) (hk : k < A.length) => (hr2.blz h).get (i := k) (by rw [hlen2]; exact hk)
  have hge : ∀ k (hk : k < A.length), ((al.map lst).map intL)[k]'(by rw [hlen2]; exact hk) = intL (lst (al.getD k 0)) := fun k hk => by
    rw [List.getElem_map, List.getElem_map, getN]
  have hg2' : Hid (∀ w', Bl w2.heap.size w2 w' → ∀ k, k < A.length → ∃ u, rdv none w' (elemAt o2 1 k) = some u ∧ Sl w' w2.heap.size none 1 u ((intL (lst (al.getD k 0))).map intV)) := fun w' h k hk => by
    have := hg2 w' h k hk
    rwa [hge k hk] at this
  have b2 : Bl w2.heap.size w2 w2 := Bl.refl (Nat.le_refl _)
  clear ho2 hr2 hg2 hge hlen2 c1
  (repeat' first
    | ((with_reducible refine at_row ?_); refine row1_a fun _ _ _ _ _ _ _ => ?_)
    | with_reducible first | (first | apply alloc_k | apply row_k); intro _ _ _ _ _ _ | (first | apply fork | apply forkp) <;> intro _ | refine forke (fun _ => ?_) fun _ _ => ?_ | refine tail_k fun _ _ _ => ?_ | refine ext_k fun _ _ _ => ?_ | refine need_a ?_ | refine st_agg KR rfl ON fun _ _ _ _ => ?_ | refine wpd_q_a ?_
    | ((with_reducible refine at_f 21 ?_); refine ret_k (c2 _ FR FR FR) fun _ _ _ => ?_)
    | ((with_reducible refine at_f 20 ?_); refine ret_k (c3 _ FR FR FR) fun _ _ _ => ?_)
    | simp (maxDischargeDepth := 3) only [↓X, ↓Y, ↓Q, S1, ↓reduceIte, Nat.reduceEqDiff, Nat.reduceAdd, Int.reduceLT, Int.reduceLE, Int.reduceNeg, Int.reduceBEq, Int.reduceBNe, Int.reduceEq, Nat.reduceLeDiff, Nat.reduceMul, Nat.reduceLT, *]
    | simp (singlePass := true) (maxDischargeDepth := 99) only [*, S2, Nat.reduceLT])
  refine call_k (c4.out _ FR FR FR) ?_
  rintro _ w5 n5 s5 ⟨o5, rfl, ho5⟩
  obtain ⟨us5, hr5⟩ := ho5.r
  have one5 := ho5.one
  have len5 := hr5.len_
  rw [List.length_map] at len5
  have hmax : cs.length ≤ 9223372036854775807 := by have := hr5.max_; rwa [List.length_map] at this
  have hg5 := fun w' (h : Bl w5.heap.size w5 w') (k : Nat) (hk : k < cs.length) => (hr5.blz h).get (i := k) (by rw [List.length_map]; exact hk)
  simp only [List.getElem_map, map_intL] at hg5
  replace hg5 : Hid _ := hg5
  have b5 : Bl w5.heap.size w5 w5 := Bl.refl (Nat.le_refl _)
  clear ho5 hr5 c2 c3 c4
  (repeat' first
    | ((with_reducible refine at_row ?_); refine row1_a fun _ _ _ _ _ _ _ => ?_)
    | with_reducible first | (first | apply alloc_k | apply row_k); intro _ _ _ _ _ _ | (first | apply fork | apply forkp) <;> intro _ | refine forke (fun _ => ?_) fun _ _ => ?_ | refine tail_k fun _ _ _ => ?_ | refine ext_k fun _ _ _ => ?_ | refine need_a ?_ | refine st_agg KR rfl ON fun _ _ _ _ => ?_ | refine wpd_q_a ?_
    | simp (maxDischargeDepth := 3) only [↓X, ↓Y, ↓Q, S1, ↓reduceIte, Nat.reduceEqDiff, Nat.reduceAdd, Int.reduceLT, Int.reduceLE, Int.reduceNeg, Int.reduceBEq, Int.reduceBNe, Int.reduceEq, Nat.reduceLeDiff, Nat.reduceMul, Nat.reduceLT, *]
    | simp (singlePass := true) (maxDischargeDepth := 99) only [*, S2, Nat.reduceLT])
  refine mk_one_k (n := A.length) (z := .bool false) rfl (by decide) (by omega) fun b w6 n6 k6 s6 q6 => ?_
  rw [seen_zero] at k6
  have hb6 : Blk w6 b 4 ((seenL A.length ((cs.take 0).flatten)).map boolV) := k6.2.1 _ k6.2.2.1
  have hbl6 : b < w6.heap.size := hb6.lt
  clear k6
  (repeat' first
    | ((with_reducible refine at_row ?_); refine row1_a fun _ _ _ _ _ _ _ => ?_)
    | with_reducible first | (first | apply alloc_k | apply row_k); intro _ _ _ _ _ _ | (first | apply fork | apply forkp) <;> intro _ | refine forke (fun _ => ?_) fun _ _ => ?_ | refine tail_k fun _ _ _ => ?_ | refine ext_k fun _ _ _ => ?_ | refine need_a ?_ | refine st_agg KR rfl ON fun _ _ _ _ => ?_ | refine wpd_q_a ?_
    | simp (maxDischargeDepth := 3) only [↓X, ↓Y, ↓Q, S1, ↓reduceIte, Nat.reduceEqDiff, Nat.reduceAdd, Int.reduceLT, Int.reduceLE, Int.reduceNeg, Int.reduceBEq, Int.reduceBNe, Int.reduceEq, Nat.reduceLeDiff, Nat.reduceMul, Nat.reduceLT, *]
    | simp (singlePass := true) (maxDischargeDepth := 99) only [*, S2, Nat.reduceLT])
  refine loop_b b cs.length (fun g0 t g w' => g 85 = .int .i64 (t : Int) ∧ (g 3 = g0 3 ∧ g 9 = g0 9 ∧ g 10 = g0 10 ∧ g 12 = g0 12 ∧ g 14 = g0 14 ∧ g 18 = g0 18 ∧ g 83 = g0 83 ∧ g 84 = g0 84) ∧ Blk w' b 4 ((seenL A.length ((cs.take t).flatten)).map boolV)) KR hmax FR ?_ ?_ ?_
  · (repeat' first
    | ((with_reducible refine at_row ?_); refine row1_a fun _ _ _ _ _ _ _ => ?_)
    | with_reducible first | (first | apply alloc_k | apply row_k); intro _ _ _ _ _ _ | (first | apply fork | apply forkp) <;> intro _ | refine forke (fun _ => ?_) fun _ _ => ?_ | refine tail_k fun _ _ _ => ?_ | refine ext_k fun _ _ _ => ?_ | refine need_a ?_ | refine st_agg KR rfl ON fun _ _ _ _ => ?_ | refine wpd_q_a ?_
    | simp (maxDischargeDepth := 3) only [↓X, ↓Y, ↓Q, S1, ↓reduceIte, Nat.reduceEqDiff, Nat.reduceAdd, Int.reduceLT, Int.reduceLE, Int.reduceNeg, Int.reduceBEq, Int.reduceBNe, Int.reduceEq, Nat.reduceLeDiff, Nat.reduceMul, Nat.reduceLT, *]
    | simp (singlePass := true) (maxDischargeDepth := 99) only [*, S2, Nat.reduceLT])
    all_goals exact hb6
  · rintro t m g wk hk hlt nk sk ck hw hww ⟨hi, hf, hbk⟩
    simp (maxDischargeDepth := 3) only [U, ↓reduceIte, Nat.reduceEqDiff, *] at hf
    obtain ⟨z, hz, hsz⟩ := hg5.out wk FR t hlt
    have hz' := hsz.k FR
    obtain ⟨hcl, hch⟩ := hne.out t hlt
    have hzm : cs[t].length ≤ 9223372036854775807 := by omega
    have hnt := hnext.out t hlt
    have hc0 : ((cs[t].length : Int) == 0) = false := by rw [beq_eq_false_iff_ne]; omega
    have hcH : ¬ ((H : Nat) : Int) < ((cs[t].length : Nat) : Int) := by omega
    have hb0 : Blk wk b 4 ((seenL A.length ((cs.take t).flatten ++ cs[t].take 0)).map boolV) := by rw [List.take_zero, List.append_nil]; exact hbk
    have hbl : b < wk.heap.size := hbk.lt
    have hszv := fun w' (h : Bl w5.heap.size wk w') => hsz.bl h
    replace hszv : Hid _ := hszv
    replace hnt : Hid _ := hnt
    clear hbk hsz
    (repeat' first
    | ((with_reducible refine at_row ?_); refine row1_a fun _ _ _ _ _ _ _ => ?_)
    | with_reducible first | (first | apply alloc_k | apply row_k); intro _ _ _ _ _ _ | (first | apply fork | apply forkp) <;> intro _ | refine forke (fun _ => ?_) fun _ _ => ?_ | refine tail_k fun _ _ _ => ?_ | refine ext_k fun _ _ _ => ?_ | refine need_a ?_ | refine st_agg KR rfl ON fun _ _ _ _ => ?_ | refine wpd_q_a ?_
    | simp (maxDischargeDepth := 3) only [↓X, ↓Y, ↓Q, S1, ↓reduceIte, Nat.reduceEqDiff, Nat.reduceAdd, Int.reduceLT, Int.reduceLE, Int.reduceNeg, Int.reduceBEq, Int.reduceBNe, Int.reduceEq, Nat.reduceLeDiff, Nat.reduceMul, Nat.reduceLT, *]
    | simp (singlePass := true) (maxDischargeDepth := 99) only [*, S2, Nat.reduceLT])
    refine loop_b b cs[t].length (fun g0 i g w' => g 100 = .int .i64 (i : Int) ∧ (g 3 = g0 3 ∧ g 9 = g0 9 ∧ g 10 = g0 10 ∧ g 12 = g0 12 ∧ g 14 = g0 14 ∧ g 18 = g0 18 ∧ g 20 = g0 20 ∧ g 83 = g0 83 ∧ g 84 = g0 84 ∧ g 85 = g0 85 ∧ g 98 = g0 98 ∧ g 99 = g0 99) ∧ Blk w' b 4 ((seenL A.length ((cs.take t).flatten ++ cs[t].take i)).map boolV)) KR hzm FR ?_ ?_ ?_
    · (repeat' first
    | ((with_reducible refine at_row ?_); refine row1_a fun _ _ _ _ _ _ _ => ?_)
    | with_reducible first | (first | apply alloc_k | apply row_k); intro _ _ _ _ _ _ | (first | apply fork | apply forkp) <;> intro _ | refine forke (fun _ => ?_) fun _ _ => ?_ | refine tail_k fun _ _ _ => ?_ | refine ext_k fun _ _ _ => ?_ | refine need_a ?_ | refine st_agg KR rfl ON fun _ _ _ _ => ?_ | refine wpd_q_a ?_
    | simp (maxDischargeDepth := 3) only [↓X, ↓Y, ↓Q, S1, ↓reduceIte, Nat.reduceEqDiff, Nat.reduceAdd, Int.reduceLT, Int.reduceLE, Int.reduceNeg, Int.reduceBEq, Int.reduceBNe, Int.reduceEq, Nat.reduceLeDiff, Nat.reduceMul, Nat.reduceLT, *]
    | simp (singlePass := true) (maxDischargeDepth := 99) only [*, S2, Nat.reduceLT])
      all_goals exact hb0
    · rintro i m3 g3 w3 hk3 hlt3 n3 s3 c3 hbl3 hw3 ⟨hi3, hf3, hbk3⟩
      simp (maxDischargeDepth := 3) only [U, ↓reduceIte, Nat.reduceEqDiff, *] at hf3
      obtain ⟨hx1, hx2, hx3⟩ := hat.out t hlt i hlt3
      have hxn0 : ¬ ((cs[t][i] : Nat) : Int) < 0 := by omega
      have hxn1 : ¬ ((A.length : Nat) : Int) ≤ ((cs[t][i] : Nat) : Int) := by omega
      have hxn2 : ((cs[t][i] : Nat) : Int) < ((A.length : Nat) : Int) := by omega
      have g1 := seen_get (P := (cs.take t).flatten ++ cs[t].take i) hx1
      rw [decide_eq_false hx2] at g1
      have kb := hbk3.bk
      have hrl : ((seenL A.length ((cs.take t).flatten ++ cs[t].take i)).map boolV).length = A.length := by rw [List.length_map, seen_len]
      have hz3 := (hszv.out w3 FR).k FR
      obtain ⟨z2, hz2, hsz2⟩ := hg2'.out w3 FR cs[t][i] hx1
      have one2z := hsz2.one
      have hS2 := fun w' (h : Bl w2.heap.size w3 w') => hsz2.bl h
      have b3 : Bl w2.heap.size w3 w3 := Bl.refl FR
      replace hS2 : Hid _ := hS2
      replace hx3 : Hid _ := hx3
      clear hbk3 hx2 hsz2
      have fin : ∀ w9, Blk w9 b 4 (((seenL A.length ((cs.take t).flatten ++ cs[t].take i)).map boolV).set cs[t][i] (.bool true)) → Blk w9 b 4 ((seenL A.length ((cs.take t).flatten ++ cs[t].take (i + 1))).map boolV) := fun w9 h => by
        rw [hx3.out, ← seen_add]; exact h
      replace fin : Hid _ := fin
      cases i with
      | zero =>
        have hltI : (0 : Int) < ((cs[t].length : Nat) : Int) := by omega
        (repeat' first
    | ((with_reducible refine wpd_at 17 ?_); refine wpd_cmid (m := 27) KR KR KR rfl ?_)
    | ((with_reducible refine at_row ?_); refine row1_a fun _ _ _ _ _ _ _ => ?_)
    | with_reducible first | (first | apply alloc_k | apply row_k); intro _ _ _ _ _ _ | (first | apply fork | apply forkp) <;> intro _ | refine forke (fun _ => ?_) fun _ _ => ?_ | refine tail_k fun _ _ _ => ?_ | refine ext_k fun _ _ _ => ?_ | refine need_a ?_ | refine st_agg KR rfl ON fun _ _ _ _ => ?_ | refine wpd_q_a ?_
    | simp (maxDischargeDepth := 3) only [↓X, ↓Y, ↓Q, S1, ↓reduceIte, Nat.reduceEqDiff, Nat.reduceAdd, Int.reduceLT, Int.reduceLE, Int.reduceNeg, Int.reduceBEq, Int.reduceBNe, Int.reduceEq, Nat.reduceLeDiff, Nat.reduceMul, Nat.reduceLT, *]
    | simp (singlePass := true) (maxDischargeDepth := 99) only [*, S2, Nat.reduceLT])
        refine st_one KR (by rw [hrl]; exact hx1) rfl fun w9 n9 k9 s9 => ?_
        have hb9 := fin.out _ (k9.2.1 _ k9.2.2.1)
        clear k9 kb g1
        (repeat' first
    | ((with_reducible refine at_row ?_); refine row1_a fun _ _ _ _ _ _ _ => ?_)
    | with_reducible first | (first | apply alloc_k | apply row_k); intro _ _ _ _ _ _ | (first | apply fork | apply forkp) <;> intro _ | refine forke (fun _ => ?_) fun _ _ => ?_ | refine tail_k fun _ _ _ => ?_ | refine ext_k fun _ _ _ => ?_ | refine need_a ?_ | refine st_agg KR rfl ON fun _ _ _ _ => ?_ | refine wpd_q_a ?_
    | simp (maxDischargeDepth := 3) only [↓X, ↓Y, ↓Q, S1, ↓reduceIte, Nat.reduceEqDiff, Nat.reduceAdd, Int.reduceLT, Int.reduceLE, Int.reduceNeg, Int.reduceBEq, Int.reduceBNe, Int.reduceEq, Nat.reduceLeDiff, Nat.reduceMul, Nat.reduceLT, *]
    | simp (singlePass := true) (maxDischargeDepth := 99) only [*, S2, Nat.reduceLT])
        refine next_b hk3 hlt3 ?_ FR
        (repeat' first
    | ((with_reducible refine at_row ?_); refine row1_a fun _ _ _ _ _ _ _ => ?_)
    | with_reducible first | (first | apply alloc_k | apply row_k); intro _ _ _ _ _ _ | (first | apply fork | apply forkp) <;> intro _ | refine forke (fun _ => ?_) fun _ _ => ?_ | refine tail_k fun _ _ _ => ?_ | refine ext_k fun _ _ _ => ?_ | refine need_a ?_ | refine st_agg KR rfl ON fun _ _ _ _ => ?_ | refine wpd_q_a ?_
    | simp (maxDischargeDepth := 3) only [↓X, ↓Y, ↓Q, S1, ↓reduceIte, Nat.reduceEqDiff, Nat.reduceAdd, Int.reduceLT, Int.reduceLE, Int.reduceNeg, Int.reduceBEq, Int.reduceBNe, Int.reduceEq, Nat.reduceLeDiff, Nat.reduceMul, Nat.reduceLT, *]
    | simp (singlePass := true) (maxDischargeDepth := 99) only [*, S2, Nat.reduceLT])
        all_goals first | exact hb9 | rfl
      | succ j =>
        have hlt4 : j < cs[t].length := by omega
        have hb := hed.out t hlt j hlt3
        have hlt4I : ((j : Nat) : Int) < ((cs[t].length : Nat) : Int) := by omega
        have e5 := cont_lst (y := cs[t][j]) (hLT.out cs[t][j + 1])
        rw [hb] at e5
        have e6 : IntKind.i64.wrap (((j + 1 : Nat) : Int) - 1) = (j : Int) := by rw [wrap_i64_id] <;> omega
        have e7 : (0 : Int) < ((j + 1 : Nat) : Int) := by omega
        (repeat' first
    | ((with_reducible refine wpd_at 17 ?_); refine wpd_cmid (m := 27) KR KR KR rfl ?_)
    | ((with_reducible refine at_row ?_); refine row1_a fun _ _ _ _ _ _ _ => ?_)
    | with_reducible first | (first | apply alloc_k | apply row_k); intro _ _ _ _ _ _ | (first | apply fork | apply forkp) <;> intro _ | refine forke (fun _ => ?_) fun _ _ => ?_ | refine tail_k fun _ _ _ => ?_ | refine ext_k fun _ _ _ => ?_ | refine need_a ?_ | refine st_agg KR rfl ON fun _ _ _ _ => ?_ | refine wpd_q_a ?_
    | ((with_reducible refine at_f 43 ?_); refine ret_k (slicesContainsI (B := w2.heap.size) FR (hS2.out _ FR)) fun _ _ _ => ?_)
    | simp (maxDischargeDepth := 3) only [↓X, ↓Y, ↓Q, S1, ↓reduceIte, Nat.reduceEqDiff, Nat.reduceAdd, Int.reduceLT, Int.reduceLE, Int.reduceNeg, Int.reduceBEq, Int.reduceBNe, Int.reduceEq, Nat.reduceLeDiff, Nat.reduceMul, Nat.reduceLT, *]
    | simp (singlePass := true) (maxDischargeDepth := 99) only [*, S2, Nat.reduceLT])
        refine st_one KR (by rw [hrl]; exact hx1) rfl fun w9 n9 k9 s9 => ?_
        have hb9 := fin.out _ (k9.2.1 _ k9.2.2.1)
        clear k9 kb g1
        (repeat' first
    | ((with_reducible refine at_row ?_); refine row1_a fun _ _ _ _ _ _ _ => ?_)
    | with_reducible first | (first | apply alloc_k | apply row_k); intro _ _ _ _ _ _ | (first | apply fork | apply forkp) <;> intro _ | refine forke (fun _ => ?_) fun _ _ => ?_ | refine tail_k fun _ _ _ => ?_ | refine ext_k fun _ _ _ => ?_ | refine need_a ?_ | refine st_agg KR rfl ON fun _ _ _ _ => ?_ | refine wpd_q_a ?_
    | simp (maxDischargeDepth := 3) only [↓X, ↓Y, ↓Q, S1, ↓reduceIte, Nat.reduceEqDiff, Nat.reduceAdd, Int.reduceLT, Int.reduceLE, Int.reduceNeg, Int.reduceBEq, Int.reduceBNe, Int.reduceEq, Nat.reduceLeDiff, Nat.reduceMul, Nat.reduceLT, *]
    | simp (singlePass := true) (maxDischargeDepth := 99) only [*, S2, Nat.reduceLT])
        refine next_b hk3 hlt3 ?_ FR
        (repeat' first
    | ((with_reducible refine at_row ?_); refine row1_a fun _ _ _ _ _ _ _ => ?_)
    | with_reducible first | (first | apply alloc_k | apply row_k); intro _ _ _ _ _ _ | (first | apply fork | apply forkp) <;> intro _ | refine forke (fun _ => ?_) fun _ _ => ?_ | refine tail_k fun _ _ _ => ?_ | refine ext_k fun _ _ _ => ?_ | refine need_a ?_ | refine st_agg KR rfl ON fun _ _ _ _ => ?_ | refine wpd_q_a ?_
    | simp (maxDischargeDepth := 3) only [↓X, ↓Y, ↓Q, S1, ↓reduceIte, Nat.reduceEqDiff, Nat.reduceAdd, Int.reduceLT, Int.reduceLE, Int.reduceNeg, Int.reduceBEq, Int.reduceBNe, Int.reduceEq, Nat.reduceLeDiff, Nat.reduceMul, Nat.reduceLT, *]
    | simp (singlePass := true) (maxDischargeDepth := 99) only [*, S2, Nat.reduceLT])
        all_goals exact hb9
    · rintro g3 w3 n3 s3 c3 hbl3 ⟨hi3, hf3, hbk3⟩
      simp (maxDischargeDepth := 3) only [U, ↓reduceIte, Nat.reduceEqDiff, *] at hf3
      rw [← hnt.out] at hbk3
      (repeat' first
    | ((with_reducible refine at_row ?_); refine row1_a fun _ _ _ _ _ _ _ => ?_)
    | with_reducible first | (first | apply alloc_k | apply row_k); intro _ _ _ _ _ _ | (first | apply fork | apply forkp) <;> intro _ | refine forke (fun _ => ?_) fun _ _ => ?_ | refine tail_k fun _ _ _ => ?_ | refine ext_k fun _ _ _ => ?_ | refine need_a ?_ | refine st_agg KR rfl ON fun _ _ _ _ => ?_ | refine wpd_q_a ?_
    | simp (maxDischargeDepth := 3) only [↓X, ↓Y, ↓Q, S1, ↓reduceIte, Nat.reduceEqDiff, Nat.reduceAdd, Int.reduceLT, Int.reduceLE, Int.reduceNeg, Int.reduceBEq, Int.reduceBNe, Int.reduceEq, Nat.reduceLeDiff, Nat.reduceMul, Nat.reduceLT, *]
    | simp (singlePass := true) (maxDischargeDepth := 99) only [*, S2, Nat.reduceLT])
      refine next_b hk hlt ?_ FR
      (repeat' first
    | ((with_reducible refine at_row ?_); refine row1_a fun _ _ _ _ _ _ _ => ?_)
    | with_reducible first | (first | apply alloc_k | apply row_k); intro _ _ _ _ _ _ | (first | apply fork | apply forkp) <;> intro _ | refine forke (fun _ => ?_) fun _ _ => ?_ | refine tail_k fun _ _ _ => ?_ | refine ext_k fun _ _ _ => ?_ | refine need_a ?_ | refine st_agg KR rfl ON fun _ _ _ _ => ?_ | refine wpd_q_a ?_
    | simp (maxDischargeDepth := 3) only [↓X, ↓Y, ↓Q, S1, ↓reduceIte, Nat.reduceEqDiff, Nat.reduceAdd, Int.reduceLT, Int.reduceLE, Int.reduceNeg, Int.reduceBEq, Int.reduceBNe, Int.reduceEq, Nat.reduceLeDiff, Nat.reduceMul, Nat.reduceLT, *]
    | simp (singlePass := true) (maxDischargeDepth := 99) only [*, S2, Nat.reduceLT])
      all_goals exact hbk3
  · rintro g wk nk sk ck hww ⟨hi, hf, hbk⟩
    simp (maxDischargeDepth := 3) only [U, ↓reduceIte, Nat.reduceEqDiff, *] at hf
    rw [List.take_length] at hbk
    have hfull := seen_full hall.out
    have hsl : Sl wk wk.heap.size none 1 (.slice (some ⟨b, 0, none⟩) A.length A.length) ((seenL A.length cs.flatten).map boolV) := row_sl hbk (by rw [List.length_map, seen_len]) (by rw [List.length_map, seen_len]; omega)
    have bk : Bl wk.heap.size wk wk := Bl.refl (Nat.le_refl _)
    have hS := fun w' (h : Bl wk.heap.size wk w') => hsl.bl h
    replace hS : Hid _ := hS
    clear hbk
    obtain ⟨q, hq⟩ : ∃ q : Nat → Bool, ∀ i : Nat, (andI .u16 (shrI .u16 s (i : Int)) 1 == 1) = q i := ⟨_, fun _ => rfl⟩
    (repeat' first
    | ((with_reducible refine at_row ?_); refine row1_a fun _ _ _ _ _ _ _ => ?_)
    | with_reducible first | (first | apply alloc_k | apply row_k); intro _ _ _ _ _ _ | (first | apply fork | apply forkp) <;> intro _ | refine forke (fun _ => ?_) fun _ _ => ?_ | refine tail_k fun _ _ _ => ?_ | refine ext_k fun _ _ _ => ?_ | refine need_a ?_ | refine st_agg KR rfl ON fun _ _ _ _ => ?_ | refine wpd_q_a ?_
    | ((with_reducible refine at_f 44 ?_); refine ret_k (slicesContainsB (B := wk.heap.size) FR (hS.out _ FR)) fun _ _ _ => ?_)
    | simp (maxDischargeDepth := 3) only [↓X, ↓Y, ↓Q, S1, ↓reduceIte, Nat.reduceEqDiff, Nat.reduceAdd, Int.reduceLT, Int.reduceLE, Int.reduceNeg, Int.reduceBEq, Int.reduceBNe, Int.reduceEq, Nat.reduceLeDiff, Nat.reduceMul, Nat.reduceLT, *]
    | simp (singlePass := true) (maxDischargeDepth := 99) only [*, S2, Nat.reduceLT])
    refine loop_o A.length (fun w0 g0 k g w' => g 145 = .int .i64 (k : Int) ∧ (g 3 = g0 3 ∧ g 10 = g0 10 ∧ g 12 = g0 12 ∧ g 144 = g0 144) ∧ ∃ v, g 23 = v ∧ Own w' w0.heap.size 3 1 v (((List.range k).filter q).map natC)) KR (by omega) ?_ ?_ ?_
    · (repeat' first
    | ((with_reducible refine at_row ?_); refine row1_a fun _ _ _ _ _ _ _ => ?_)
    | with_reducible first | (first | apply alloc_k | apply row_k); intro _ _ _ _ _ _ | (first | apply fork | apply forkp) <;> intro _ | refine forke (fun _ => ?_) fun _ _ => ?_ | refine tail_k fun _ _ _ => ?_ | refine ext_k fun _ _ _ => ?_ | refine need_a ?_ | refine st_agg KR rfl ON fun _ _ _ _ => ?_ | refine wpd_q_a ?_
    | simp (maxDischargeDepth := 3) only [↓X, ↓Y, ↓Q, S1, ↓reduceIte, Nat.reduceEqDiff, Nat.reduceAdd, Int.reduceLT, Int.reduceLE, Int.reduceNeg, Int.reduceBEq, Int.reduceBNe, Int.reduceEq, Nat.reduceLeDiff, Nat.reduceMul, Nat.reduceLT, *]
    | simp (singlePass := true) (maxDischargeDepth := 99) only [*, S2, Nat.reduceLT])
      exact ⟨_, rfl, Own.nil _ _ _ _⟩
    · rintro k m g7 w7 hk7 hlt7 n7 s7 b7 hw7 ⟨hi7, hf7, v7, hv7, hown⟩
      simp (maxDischargeDepth := 3) only [U, ↓reduceIte, Nat.reduceEqDiff, *] at hf7
      have bw : Bl w7.heap.size w7 w7 := Bl.refl (Nat.le_refl _)
      have O := hown.o
      have e1 := hq k
      have hle7 : ((List.range k).filter q).length ≤ k := by have := List.length_filter_le q (List.range k); simpa using this
      have hfil : ((List.range (k + 1)).filter q) = ((List.range k).filter q) ++ if q k = true then [k] else [] := by
        rw [List.range_succ, List.filter_append]
        congr 1
        rw [List.filter_cons]
        split <;> simp_all
      replace hfil : Hid _ := hfil
      clear hown hq
      cases c : q k
      · rw [c] at e1
        (repeat' first
    | ((with_reducible refine at_row ?_); refine row1_a fun _ _ _ _ _ _ _ => ?_)
    | with_reducible first | (first | apply alloc_k | apply row_k); intro _ _ _ _ _ _ | (first | apply fork | apply forkp) <;> intro _ | refine forke (fun _ => ?_) fun _ _ => ?_ | refine tail_k fun _ _ _ => ?_ | refine ext_k fun _ _ _ => ?_ | refine need_a ?_ | refine st_agg KR rfl ON fun _ _ _ _ => ?_ | refine wpd_q_a ?_
    | simp (maxDischargeDepth := 3) only [↓X, ↓Y, ↓Q, S1, ↓reduceIte, Nat.reduceEqDiff, Nat.reduceAdd, Int.reduceLT, Int.reduceLE, Int.reduceNeg, Int.reduceBEq, Int.reduceBNe, Int.reduceEq, Nat.reduceLeDiff, Nat.reduceMul, Nat.reduceLT, *]
    | simp (singlePass := true) (maxDischargeDepth := 99) only [*, S2, Nat.reduceLT])
        refine next_k hk7 hlt7 ?_ FR
        (repeat' first
    | ((with_reducible refine at_row ?_); refine row1_a fun _ _ _ _ _ _ _ => ?_)
    | with_reducible first | (first | apply alloc_k | apply row_k); intro _ _ _ _ _ _ | (first | apply fork | apply forkp) <;> intro _ | refine forke (fun _ => ?_) fun _ _ => ?_ | refine tail_k fun _ _ _ => ?_ | refine ext_k fun _ _ _ => ?_ | refine need_a ?_ | refine st_agg KR rfl ON fun _ _ _ _ => ?_ | refine wpd_q_a ?_
    | simp (maxDischargeDepth := 3) only [↓X, ↓Y, ↓Q, S1, ↓reduceIte, Nat.reduceEqDiff, Nat.reduceAdd, Int.reduceLT, Int.reduceLE, Int.reduceNeg, Int.reduceBEq, Int.reduceBNe, Int.reduceEq, Nat.reduceLeDiff, Nat.reduceMul, Nat.reduceLT, *]
    | simp (singlePass := true) (maxDischargeDepth := 99) only [*, S2, Nat.reduceLT])
        refine ⟨_, rfl, ?_⟩
        rw [hfil.out, c, if_neg (by decide), List.append_nil]
        exact O.1 _ FR
      · rw [c] at e1
        (repeat' first
    | ((with_reducible refine at_row ?_); refine row1_a fun _ _ _ _ _ _ _ => ?_)
    | with_reducible first | (first | apply alloc_k | apply row_k); intro _ _ _ _ _ _ | (first | apply fork | apply forkp) <;> intro _ | refine forke (fun _ => ?_) fun _ _ => ?_ | refine tail_k fun _ _ _ => ?_ | refine ext_k fun _ _ _ => ?_ | refine need_a ?_ | refine st_agg KR rfl ON fun _ _ _ _ => ?_ | refine wpd_q_a ?_
    | simp (maxDischargeDepth := 3) only [↓X, ↓Y, ↓Q, S1, ↓reduceIte, Nat.reduceEqDiff, Nat.reduceAdd, Int.reduceLT, Int.reduceLE, Int.reduceNeg, Int.reduceBEq, Int.reduceBNe, Int.reduceEq, Nat.reduceLeDiff, Nat.reduceMul, Nat.reduceLT, *]
    | simp (singlePass := true) (maxDischargeDepth := 99) only [*, S2, Nat.reduceLT])
        rename_i b10 w10 n10 k10 s10 q10 l10
        refine appN k (O.1 _ FR) (k10.2.1 _ FR) (by omega) FR fun v' w9 n9 s9 hown9 => ?_
        have hO9 : Hid _ := hown9
        clear hown9
        (repeat' first
    | ((with_reducible refine at_row ?_); refine row1_a fun _ _ _ _ _ _ _ => ?_)
    | with_reducible first | (first | apply alloc_k | apply row_k); intro _ _ _ _ _ _ | (first | apply fork | apply forkp) <;> intro _ | refine forke (fun _ => ?_) fun _ _ => ?_ | refine tail_k fun _ _ _ => ?_ | refine ext_k fun _ _ _ => ?_ | refine need_a ?_ | refine st_agg KR rfl ON fun _ _ _ _ => ?_ | refine wpd_q_a ?_
    | simp (maxDischargeDepth := 3) only [↓X, ↓Y, ↓Q, S1, ↓reduceIte, Nat.reduceEqDiff, Nat.reduceAdd, Int.reduceLT, Int.reduceLE, Int.reduceNeg, Int.reduceBEq, Int.reduceBNe, Int.reduceEq, Nat.reduceLeDiff, Nat.reduceMul, Nat.reduceLT, *]
    | simp (singlePass := true) (maxDischargeDepth := 99) only [*, S2, Nat.reduceLT])
        refine next_k hk7 hlt7 ?_ FR
        (repeat' first
    | ((with_reducible refine at_row ?_); refine row1_a fun _ _ _ _ _ _ _ => ?_)
    | with_reducible first | (first | apply alloc_k | apply row_k); intro _ _ _ _ _ _ | (first | apply fork | apply forkp) <;> intro _ | refine forke (fun _ => ?_) fun _ _ => ?_ | refine tail_k fun _ _ _ => ?_ | refine ext_k fun _ _ _ => ?_ | refine need_a ?_ | refine st_agg KR rfl ON fun _ _ _ _ => ?_ | refine wpd_q_a ?_
    | simp (maxDischargeDepth := 3) only [↓X, ↓Y, ↓Q, S1, ↓reduceIte, Nat.reduceEqDiff, Nat.reduceAdd, Int.reduceLT, Int.reduceLE, Int.reduceNeg, Int.reduceBEq, Int.reduceBNe, Int.reduceEq, Nat.reduceLeDiff, Nat.reduceMul, Nat.reduceLT, *]
    | simp (singlePass := true) (maxDischargeDepth := 99) only [*, S2, Nat.reduceLT])
        refine ⟨_, rfl, ?_⟩
        rw [hfil.out, c, if_pos rfl]
        exact hO9.out
    · rintro g7 w7 n7 s7 b7 ⟨hi7, hf7, v7, hv7, hown⟩
      simp (maxDischargeDepth := 3) only [U, ↓reduceIte, Nat.reduceEqDiff, *] at hf7
      have K := (hown.sl1 (f := natV)).k (Nat.le_refl _)
      have hLlt : ∀ x ∈ (List.range A.length).filter q, x < A.length := fun x hx => List.mem_range.1 (List.mem_filter.1 hx).1
      have hLnd : ((List.range A.length).filter q).Nodup := List.nodup_range.filter _
      have hLlen : ((List.range A.length).filter q).length ≤ A.length := by have := List.length_filter_le q (List.range A.length); simpa using this
      clear hown hq
      generalize (List.range A.length).filter q = L at *
      replace hLnd : Hid _ := hLnd
      replace hLlt : Hid _ := hLlt
      (repeat' first
    | ((with_reducible refine at_row ?_); refine row1_a fun _ _ _ _ _ _ _ => ?_)
    | with_reducible first | (first | apply alloc_k | apply row_k); intro _ _ _ _ _ _ | (first | apply fork | apply forkp) <;> intro _ | refine forke (fun _ => ?_) fun _ _ => ?_ | refine tail_k fun _ _ _ => ?_ | refine ext_k fun _ _ _ => ?_ | refine need_a ?_ | refine st_agg KR rfl ON fun _ _ _ _ => ?_ | refine wpd_q_a ?_
    | simp (maxDischargeDepth := 3) only [↓X, ↓Y, ↓Q, S1, ↓reduceIte, Nat.reduceEqDiff, Nat.reduceAdd, Int.reduceLT, Int.reduceLE, Int.reduceNeg, Int.reduceBEq, Int.reduceBNe, Int.reduceEq, Nat.reduceLeDiff, Nat.reduceMul, Nat.reduceLT, *]
    | simp (singlePass := true) (maxDischargeDepth := 99) only [*, S2, Nat.reduceLT])
      refine loop_k L.length (fun g0 k g _ => g 160 = .int .i64 (k : Int) ∧ (g 10 = g0 10 ∧ g 12 = g0 12 ∧ g 23 = g0 23 ∧ g 158 = g0 158 ∧ g 159 = g0 159) ∧ Hid (∀ a (h : a < L.length), a < k → ∀ y ∈ L, ((al.getD L[a] 0).testBit y = false))) KR (by omega) ?_ ?_ ?_
      · (repeat' first
    | ((with_reducible refine at_row ?_); refine row1_a fun _ _ _ _ _ _ _ => ?_)
    | with_reducible first | (first | apply alloc_k | apply row_k); intro _ _ _ _ _ _ | (first | apply fork | apply forkp) <;> intro _ | refine forke (fun _ => ?_) fun _ _ => ?_ | refine tail_k fun _ _ _ => ?_ | refine ext_k fun _ _ _ => ?_ | refine need_a ?_ | refine st_agg KR rfl ON fun _ _ _ _ => ?_ | refine wpd_q_a ?_
    | simp (maxDischargeDepth := 3) only [↓X, ↓Y, ↓Q, S1, ↓reduceIte, Nat.reduceEqDiff, Nat.reduceAdd, Int.reduceLT, Int.reduceLE, Int.reduceNeg, Int.reduceBEq, Int.reduceBNe, Int.reduceEq, Nat.reduceLeDiff, Nat.reduceMul, Nat.reduceLT, *]
    | simp (singlePass := true) (maxDischargeDepth := 99) only [*, S2, Nat.reduceLT])
        exact fun a _ h => absurd h (Nat.not_lt_zero _)
      · rintro k m g8 w8 hk8 hlt8 n8 s8 b8 hw8 ⟨hi8, hf8, hp8⟩
        simp (maxDischargeDepth := 3) only [U, ↓reduceIte, Nat.reduceEqDiff, *] at hf8
        have hxl := hLlt.out _ (List.getElem_mem hlt8)
        (repeat' first
    | ((with_reducible refine at_row ?_); refine row1_a fun _ _ _ _ _ _ _ => ?_)
    | with_reducible first | (first | apply alloc_k | apply row_k); intro _ _ _ _ _ _ | (first | apply fork | apply forkp) <;> intro _ | refine forke (fun _ => ?_) fun _ _ => ?_ | refine tail_k fun _ _ _ => ?_ | refine ext_k fun _ _ _ => ?_ | refine need_a ?_ | refine st_agg KR rfl ON fun _ _ _ _ => ?_ | refine wpd_q_a ?_
    | simp (maxDischargeDepth := 3) only [↓X, ↓Y, ↓Q, S1, ↓reduceIte, Nat.reduceEqDiff, Nat.reduceAdd, Int.reduceLT, Int.reduceLE, Int.reduceNeg, Int.reduceBEq, Int.reduceBNe, Int.reduceEq, Nat.reduceLeDiff, Nat.reduceMul, Nat.reduceLT, *]
    | simp (singlePass := true) (maxDischargeDepth := 99) only [*, S2, Nat.reduceLT])
        refine loop_k L.length (fun g0 j g _ => g 166 = .int .i64 (j : Int) ∧ (g 10 = g0 10 ∧ g 12 = g0 12 ∧ g 23 = g0 23 ∧ g 26 = g0 26 ∧ g 158 = g0 158 ∧ g 159 = g0 159 ∧ g 160 = g0 160 ∧ g 164 = g0 164 ∧ g 165 = g0 165) ∧ Hid (∀ c (h : c < L.length), c < j → ((al.getD L[k] 0).testBit L[c] = false))) KR (by omega) ?_ ?_ ?_
        · (repeat' first
    | ((with_reducible refine at_row ?_); refine row1_a fun _ _ _ _ _ _ _ => ?_)
    | with_reducible first | (first | apply alloc_k | apply row_k); intro _ _ _ _ _ _ | (first | apply fork | apply forkp) <;> intro _ | refine forke (fun _ => ?_) fun _ _ => ?_ | refine tail_k fun _ _ _ => ?_ | refine ext_k fun _ _ _ => ?_ | refine need_a ?_ | refine st_agg KR rfl ON fun _ _ _ _ => ?_ | refine wpd_q_a ?_
    | simp (maxDischargeDepth := 3) only [↓X, ↓Y, ↓Q, S1, ↓reduceIte, Nat.reduceEqDiff, Nat.reduceAdd, Int.reduceLT, Int.reduceLE, Int.reduceNeg, Int.reduceBEq, Int.reduceBNe, Int.reduceEq, Nat.reduceLeDiff, Nat.reduceMul, Nat.reduceLT, *]
    | simp (singlePass := true) (maxDischargeDepth := 99) only [*, S2, Nat.reduceLT])
          exact fun a _ h => absurd h (Nat.not_lt_zero _)
        · rintro j m g9 w9 hk9 hlt9 n9 s9 b9 hw9 ⟨hi9, hf9, hp9⟩
          simp (maxDischargeDepth := 3) only [U, ↓reduceIte, Nat.reduceEqDiff, *] at hf9
          obtain ⟨z2, hz2, hsz2⟩ := hg2'.out w9 FR L[k] hxl
          have one2z := hsz2.one
          have hS2 := fun w' (h : Bl w2.heap.size w9 w') => hsz2.bl h
          have b3 : Bl w2.heap.size w9 w9 := Bl.refl FR
          have e5 := cont_lst (y := L[j]) (hLT.out L[k])
          have hxlI : ((L[k] : Nat) : Int) < ((A.length : Nat) : Int) := by omega
          replace hS2 : Hid _ := hS2
          clear hsz2
          cases c : (al.getD L[k] 0).testBit L[j]
          · rw [c] at e5
            (repeat' first
    | ((with_reducible refine at_row ?_); refine row1_a fun _ _ _ _ _ _ _ => ?_)
    | with_reducible first | (first | apply alloc_k | apply row_k); intro _ _ _ _ _ _ | (first | apply fork | apply forkp) <;> intro _ | refine forke (fun _ => ?_) fun _ _ => ?_ | refine tail_k fun _ _ _ => ?_ | refine ext_k fun _ _ _ => ?_ | refine need_a ?_ | refine st_agg KR rfl ON fun _ _ _ _ => ?_ | refine wpd_q_a ?_
    | ((with_reducible refine at_f 43 ?_); refine ret_k (slicesContainsI (B := w2.heap.size) FR (hS2.out _ FR)) fun _ _ _ => ?_)
    | simp (maxDischargeDepth := 3) only [↓X, ↓Y, ↓Q, S1, ↓reduceIte, Nat.reduceEqDiff, Nat.reduceAdd, Int.reduceLT, Int.reduceLE, Int.reduceNeg, Int.reduceBEq, Int.reduceBNe, Int.reduceEq, Nat.reduceLeDiff, Nat.reduceMul, Nat.reduceLT, *]
    | simp (singlePass := true) (maxDischargeDepth := 99) only [*, S2, Nat.reduceLT])
            refine next_k hk9 hlt9 ?_ FR
            (repeat' first
    | ((with_reducible refine at_row ?_); refine row1_a fun _ _ _ _ _ _ _ => ?_)
    | with_reducible first | (first | apply alloc_k | apply row_k); intro _ _ _ _ _ _ | (first | apply fork | apply forkp) <;> intro _ | refine forke (fun _ => ?_) fun _ _ => ?_ | refine tail_k fun _ _ _ => ?_ | refine ext_k fun _ _ _ => ?_ | refine need_a ?_ | refine st_agg KR rfl ON fun _ _ _ _ => ?_ | refine wpd_q_a ?_
    | simp (maxDischargeDepth := 3) only [↓X, ↓Y, ↓Q, S1, ↓reduceIte, Nat.reduceEqDiff, Nat.reduceAdd, Int.reduceLT, Int.reduceLE, Int.reduceNeg, Int.reduceBEq, Int.reduceBNe, Int.reduceEq, Nat.reduceLeDiff, Nat.reduceMul, Nat.reduceLT, *]
    | simp (singlePass := true) (maxDischargeDepth := 99) only [*, S2, Nat.reduceLT])
            intro a ha haj
            rcases Nat.lt_or_eq_of_le (Nat.le_of_lt_succ haj) with h | rfl
            · exact hp9.out a ha h
            · exact c
          · rw [c] at e5
            (repeat' first
    | ((with_reducible refine at_row ?_); refine row1_a fun _ _ _ _ _ _ _ => ?_)
    | with_reducible first | (first | apply alloc_k | apply row_k); intro _ _ _ _ _ _ | (first | apply fork | apply forkp) <;> intro _ | refine forke (fun _ => ?_) fun _ _ => ?_ | refine tail_k fun _ _ _ => ?_ | refine ext_k fun _ _ _ => ?_ | refine need_a ?_ | refine st_agg KR rfl ON fun _ _ _ _ => ?_ | refine wpd_q_a ?_
    | ((with_reducible refine at_f 43 ?_); refine ret_k (slicesContainsI (B := w2.heap.size) FR (hS2.out _ FR)) fun _ _ _ => ?_)
    | simp (maxDischargeDepth := 3) only [↓X, ↓Y, ↓Q, S1, ↓reduceIte, Nat.reduceEqDiff, Nat.reduceAdd, Int.reduceLT, Int.reduceLE, Int.reduceNeg, Int.reduceBEq, Int.reduceBNe, Int.reduceEq, Nat.reduceLeDiff, Nat.reduceMul, Nat.reduceLT, *]
    | simp (singlePass := true) (maxDischargeDepth := 99) only [*, S2, Nat.reduceLT])
            refine ret_k (law10works (hT'.out _ FR)) fun u4 m4 t4 => ?_
            (repeat' first
    | ((with_reducible refine at_row ?_); refine row1_a fun _ _ _ _ _ _ _ => ?_)
    | with_reducible first | (first | apply alloc_k | apply row_k); intro _ _ _ _ _ _ | (first | apply fork | apply forkp) <;> intro _ | refine forke (fun _ => ?_) fun _ _ => ?_ | refine tail_k fun _ _ _ => ?_ | refine ext_k fun _ _ _ => ?_ | refine need_a ?_ | refine st_agg KR rfl ON fun _ _ _ _ => ?_ | refine wpd_q_a ?_
    | simp (maxDischargeDepth := 3) only [↓X, ↓Y, ↓Q, S1, ↓reduceIte, Nat.reduceEqDiff, Nat.reduceAdd, Int.reduceLT, Int.reduceLE, Int.reduceNeg, Int.reduceBEq, Int.reduceBNe, Int.reduceEq, Nat.reduceLeDiff, Nat.reduceMul, Nat.reduceLT, *]
    | simp (singlePass := true) (maxDischargeDepth := 99) only [*, S2, Nat.reduceLT])
            all_goals done
        · rintro g9 w9 n9 s9 b9 ⟨hi9, hf9, hp9⟩
          simp (maxDischargeDepth := 3) only [U, ↓reduceIte, Nat.reduceEqDiff, *] at hf9
          (repeat' first
    | ((with_reducible refine at_row ?_); refine row1_a fun _ _ _ _ _ _ _ => ?_)
    | with_reducible first | (first | apply alloc_k | apply row_k); intro _ _ _ _ _ _ | (first | apply fork | apply forkp) <;> intro _ | refine forke (fun _ => ?_) fun _ _ => ?_ | refine tail_k fun _ _ _ => ?_ | refine ext_k fun _ _ _ => ?_ | refine need_a ?_ | refine st_agg KR rfl ON fun _ _ _ _ => ?_ | refine wpd_q_a ?_
    | simp (maxDischargeDepth := 3) only [↓X, ↓Y, ↓Q, S1, ↓reduceIte, Nat.reduceEqDiff, Nat.reduceAdd, Int.reduceLT, Int.reduceLE, Int.reduceNeg, Int.reduceBEq, Int.reduceBNe, Int.reduceEq, Nat.reduceLeDiff, Nat.reduceMul, Nat.reduceLT, *]
    | simp (singlePass := true) (maxDischargeDepth := 99) only [*, S2, Nat.reduceLT])
          refine next_k hk8 hlt8 ?_ FR
          (repeat' first
    | ((with_reducible refine at_row ?_); refine row1_a fun _ _ _ _ _ _ _ => ?_)
    | with_reducible first | (first | apply alloc_k | apply row_k); intro _ _ _ _ _ _ | (first | apply fork | apply forkp) <;> intro _ | refine forke (fun _ => ?_) fun _ _ => ?_ | refine tail_k fun _ _ _ => ?_ | refine ext_k fun _ _ _ => ?_ | refine need_a ?_ | refine st_agg KR rfl ON fun _ _ _ _ => ?_ | refine wpd_q_a ?_
    | simp (maxDischargeDepth := 3) only [↓X, ↓Y, ↓Q, S1, ↓reduceIte, Nat.reduceEqDiff, Nat.reduceAdd, Int.reduceLT, Int.reduceLE, Int.reduceNeg, Int.reduceBEq, Int.reduceBNe, Int.reduceEq, Nat.reduceLeDiff, Nat.reduceMul, Nat.reduceLT, *]
    | simp (singlePass := true) (maxDischargeDepth := 99) only [*, S2, Nat.reduceLT])
          intro a ha hak y hy
          rcases Nat.lt_or_eq_of_le (Nat.le_of_lt_succ hak) with h | rfl
          · exact hp8.out a ha h y hy
          · obtain ⟨c, hc, rfl⟩ := List.getElem_of_mem hy
            exact hp9.out c hc hc
      · rintro g8 w8 n8 s8 b8 ⟨hi8, hf8, hp8⟩
        simp (maxDischargeDepth := 3) only [U, ↓reduceIte, Nat.reduceEqDiff, *] at hf8
        have hfin := hle.out L hLnd.out hLlt.out fun x hx y hy => by
          obtain ⟨a, ha, rfl⟩ := List.getElem_of_mem hy
          rw [hp8.out a ha ha x hx]
          decide
        have hfinI : ((L.length : Nat) : Int) ≤ ((cs.length : Nat) : Int) := by omega
        clear hp8
        (repeat' first
    | ((with_reducible refine at_row ?_); refine row1_a fun _ _ _ _ _ _ _ => ?_)
    | with_reducible first | (first | apply alloc_k | apply row_k); intro _ _ _ _ _ _ | (first | apply fork | apply forkp) <;> intro _ | refine forke (fun _ => ?_) fun _ _ => ?_ | refine tail_k fun _ _ _ => ?_ | refine ext_k fun _ _ _ => ?_ | refine need_a ?_ | refine st_agg KR rfl ON fun _ _ _ _ => ?_ | refine wpd_q_a ?_
    | simp (maxDischargeDepth := 3) only [↓X, ↓Y, ↓Q, S1, ↓reduceIte, Nat.reduceEqDiff, Nat.reduceAdd, Int.reduceLT, Int.reduceLE, Int.reduceNeg, Int.reduceBEq, Int.reduceBNe, Int.reduceEq, Nat.reduceLeDiff, Nat.reduceMul, Nat.reduceLT, *]
    | simp (singlePass := true) (maxDischargeDepth := 99) only [*, S2, Nat.reduceLT])
        refine ret_k (law10works (hT'.out _ FR)) fun u4 m4 t4 => ?_
        (repeat' first
    | ((with_reducible refine at_row ?_); refine row1_a fun _ _ _ _ _ _ _ => ?_)
    | with_reducible first | (first | apply alloc_k | apply row_k); intro _ _ _ _ _ _ | (first | apply fork | apply forkp) <;> intro _ | refine forke (fun _ => ?_) fun _ _ => ?_ | refine tail_k fun _ _ _ => ?_ | refine ext_k fun _ _ _ => ?_ | refine need_a ?_ | refine st_agg KR rfl ON fun _ _ _ _ => ?_ | refine wpd_q_a ?_
    | simp (maxDischargeDepth := 3) only [↓X, ↓Y, ↓Q, S1, ↓reduceIte, Nat.reduceEqDiff, Nat.reduceAdd, Int.reduceLT, Int.reduceLE, Int.reduceNeg, Int.reduceBEq, Int.reduceBNe, Int.reduceEq, Nat.reduceLeDiff, Nat.reduceMul, Nat.reduceLT, *]
    | simp (singlePass := true) (maxDischargeDepth := 99) only [*, S2, Nat.reduceLT])
        all_goals done
end
end Go.Proofs.YteeaccnklkcchaaDoor
