
/- The statement OrderNumbers. -/
import Derived.Test.YteeaccnklkcchaaDoorPureN10
import Derived.Test.YteeaccnklkcchaaDoorOwnLS10
import Derived.Test.YteeaccnklkcchaaDoorMade10b
namespace Go.Proofs.YteeaccnklkcchaaDoor
set_option linter.unusedSimpArgs false
set_option linter.unusedVariables false
open Go Go.RowKit
set_option maxRecDepth 100000
set_option linter.unusedSectionVars false
set_option maxHeartbeats 4000000
theorem lexI_drop : ∀ {k : Nat} {a b : List Int}, a.take k = b.take k → k ≤ a.length → k ≤ b.length → lexI a b = lexI (a.drop k) (b.drop k)
  | 0, _, _, _, _, _ => rfl
  | k + 1, [], _, _, h, _ => by simp at h
  | k + 1, _ :: _, [], _, _, h => by simp at h
  | k + 1, x :: r, y :: s, h, h1, h2 => by
    simp only [List.take_succ_cons, List.cons.injEq] at h
    obtain ⟨rfl, h⟩ := h
    rw [lexI, if_neg (Int.lt_irrefl _), if_neg (Int.lt_irrefl _), List.drop_succ_cons, List.drop_succ_cons]
    exact lexI_drop h (by simpa using h1) (by simpa using h2)
theorem idx_lt {l : List Nat} {k q : Nat} (hn : l.Nodup) (hk : k ∈ l) (hq : q ≤ l.length) : (fidx (fun y => (k : Int) == y) (intL l) < (q : Int)) ↔ k ∈ l.take q := by
  obtain ⟨p, hp, rfl⟩ := List.getElem_of_mem hk
  have hf : fidx (fun y => (l[p] : Int) == y) (intL l) = p := fidx_found (k := p) (by simpa [intL] using hp) (by simp [intL]) fun j hj hjp => by
    simp only [intL, List.length_map] at hj
    simp only [intL, List.getElem_map, beq_eq_false_iff_ne]
    intro e
    have := nd_inj hn hp hj (by omega)
    omega
  rw [hf]
  constructor
  · intro h
    have h1 : p < (l.take q).length := by rw [List.length_take]; omega
    have : (l.take q)[p] = l[p] := List.getElem_take
    exact this ▸ List.getElem_mem h1
  · intro h
    obtain ⟨j, hj, e⟩ := List.getElem_of_mem h
    rw [List.getElem_take] at e
    rw [List.length_take] at hj
    have := nd_inj hn (by omega) hp e
    omega
section
variable {w : World} {B B' : Nat} {v u tv : Value} {turn : List Int}
theorem slicesCompareI {a b : List Int} (hB : B ≤ w.heap.size) (hB' : B' ≤ w.heap.size) (ha : Sl w B none 1 v (a.map intV)) (hb : Sl w B' none 1 u (b.map intV)) : Ret Tryd.prog 46 #[v, u] w (intV (lexI a b)) := by
  have hn : Now w := trivial
  have hx : Ext w w := Ext.refl w
  have ha' := ha.k hB
  have hb' := hb.k hB'
  have ham : a.length ≤ 9223372036854775807 := by simpa using ha.maxLen
  (refine callsV_of Tryd.func46 rfl KR KR ?_; rw [Tryd.results46])
  (repeat' first
    | ((with_reducible refine at_row ?_); refine row1_a fun _ _ _ _ _ _ _ => ?_)
    | with_reducible first | (first | apply alloc_k | apply row_k); intro _ _ _ _ _ _ | (first | apply fork | apply forkp) <;> intro _ | refine forke (fun _ => ?_) fun _ _ => ?_ | refine tail_k fun _ _ _ => ?_ | refine ext_k fun _ _ _ => ?_ | refine need_a ?_ | refine st_agg KR rfl ON fun _ _ _ _ => ?_ | refine wpd_q_a ?_
    | simp (maxDischargeDepth := 3) only [↓X, ↓Y, ↓Q, S1, ↓reduceIte, Nat.reduceEqDiff, Nat.reduceAdd, Int.reduceLT, Int.reduceLE, Int.reduceNeg, Int.reduceBEq, Int.reduceBNe, Int.reduceEq, Nat.reduceLeDiff, Nat.reduceMul, Nat.reduceLT, *]
    | simp (singlePass := true) (maxDischargeDepth := 99) only [*, S2, Nat.reduceLT])
  refine loop_k a.length (fun g0 k g _ => g 11 = .int .i64 k ∧ (g 0 = g0 0 ∧ g 1 = g0 1 ∧ g 9 = g0 9 ∧ g 10 = g0 10) ∧ Hid (a.take k = b.take k ∧ k ≤ b.length)) KR ham ?_ ?_ ?_
  · (repeat' first
    | ((with_reducible refine at_row ?_); refine row1_a fun _ _ _ _ _ _ _ => ?_)
    | with_reducible first | (first | apply alloc_k | apply row_k); intro _ _ _ _ _ _ | (first | apply fork | apply forkp) <;> intro _ | refine forke (fun _ => ?_) fun _ _ => ?_ | refine tail_k fun _ _ _ => ?_ | refine ext_k fun _ _ _ => ?_ | refine need_a ?_ | refine st_agg KR rfl ON fun _ _ _ _ => ?_ | refine wpd_q_a ?_
    | simp (maxDischargeDepth := 3) only [↓X, ↓Y, ↓Q, S1, ↓reduceIte, Nat.reduceEqDiff, Nat.reduceAdd, Int.reduceLT, Int.reduceLE, Int.reduceNeg, Int.reduceBEq, Int.reduceBNe, Int.reduceEq, Nat.reduceLeDiff, Nat.reduceMul, Nat.reduceLT, *]
    | simp (singlePass := true) (maxDischargeDepth := 99) only [*, S2, Nat.reduceLT])
    all_goals first | exact ⟨rfl, Nat.zero_le _⟩ | exact Nat.zero_le _ | trivial
  · rintro k m g wk hk hlt nk sk bk hw ⟨hi, hf, hp⟩
    simp (maxDischargeDepth := 3) only [U, ↓reduceIte, Nat.reduceEqDiff, *] at hf
    obtain ⟨hp1, hp2⟩ := hp.out
    have hlx := lexI_drop hp1 (Nat.le_of_lt hlt) hp2
    have hkI : ((k : Int) < (a.length : Int)) := by omega
    by_cases hkb : k < b.length
    · have hkbI : ¬ ((b.length : Int) ≤ (k : Int)) := by omega
      rw [List.drop_eq_getElem_cons hlt, List.drop_eq_getElem_cons hkb, lexI] at hlx
      have hlx' : Hid _ := hlx
      clear hlx hp
      (repeat' first
    | ((with_reducible refine at_row ?_); refine row1_a fun _ _ _ _ _ _ _ => ?_)
    | with_reducible first | (first | apply alloc_k | apply row_k); intro _ _ _ _ _ _ | (first | apply fork | apply forkp) <;> intro _ | refine forke (fun _ => ?_) fun _ _ => ?_ | refine tail_k fun _ _ _ => ?_ | refine ext_k fun _ _ _ => ?_ | refine need_a ?_ | refine st_agg KR rfl ON fun _ _ _ _ => ?_ | refine wpd_q_a ?_
    | simp (maxDischargeDepth := 3) only [↓X, ↓Y, ↓Q, S1, ↓reduceIte, Nat.reduceEqDiff, Nat.reduceAdd, Int.reduceLT, Int.reduceLE, Int.reduceNeg, Int.reduceBEq, Int.reduceBNe, Int.reduceEq, Nat.reduceLeDiff, Nat.reduceMul, Nat.reduceLT, *]
    | simp (singlePass := true) (maxDischargeDepth := 99) only [*, S2, Nat.reduceLT])
      refine ret_k (cmpCompare (a := a[k]) (b := b[k])) fun w2 n2 s2 => ?_
      by_cases h1 : a[k] < b[k]
      · have hc : cmpI a[k] b[k] = -1 := by rw [cmpI, if_pos h1]
        have hr : lexI a b = -1 := by rw [hlx'.out, if_pos h1]
        rw [hc, hr]
        (repeat' first
    | ((with_reducible refine at_row ?_); refine row1_a fun _ _ _ _ _ _ _ => ?_)
    | with_reducible first | (first | apply alloc_k | apply row_k); intro _ _ _ _ _ _ | (first | apply fork | apply forkp) <;> intro _ | refine forke (fun _ => ?_) fun _ _ => ?_ | refine tail_k fun _ _ _ => ?_ | refine ext_k fun _ _ _ => ?_ | refine need_a ?_ | refine st_agg KR rfl ON fun _ _ _ _ => ?_ | refine wpd_q_a ?_
    | simp (maxDischargeDepth := 3) only [↓X, ↓Y, ↓Q, S1, ↓reduceIte, Nat.reduceEqDiff, Nat.reduceAdd, Int.reduceLT, Int.reduceLE, Int.reduceNeg, Int.reduceBEq, Int.reduceBNe, Int.reduceEq, Nat.reduceLeDiff, Nat.reduceMul, Nat.reduceLT, *]
    | simp (singlePass := true) (maxDischargeDepth := 99) only [*, S2, Nat.reduceLT])
      · by_cases h2 : b[k] < a[k]
        · have hc : cmpI a[k] b[k] = 1 := by rw [cmpI, if_neg h1, if_pos h2]
          have hr : lexI a b = 1 := by rw [hlx'.out, if_neg h1, if_pos h2]
          rw [hc, hr]
          (repeat' first
    | ((with_reducible refine at_row ?_); refine row1_a fun _ _ _ _ _ _ _ => ?_)
    | with_reducible first | (first | apply alloc_k | apply row_k); intro _ _ _ _ _ _ | (first | apply fork | apply forkp) <;> intro _ | refine forke (fun _ => ?_) fun _ _ => ?_ | refine tail_k fun _ _ _ => ?_ | refine ext_k fun _ _ _ => ?_ | refine need_a ?_ | refine st_agg KR rfl ON fun _ _ _ _ => ?_ | refine wpd_q_a ?_
    | simp (maxDischargeDepth := 3) only [↓X, ↓Y, ↓Q, S1, ↓reduceIte, Nat.reduceEqDiff, Nat.reduceAdd, Int.reduceLT, Int.reduceLE, Int.reduceNeg, Int.reduceBEq, Int.reduceBNe, Int.reduceEq, Nat.reduceLeDiff, Nat.reduceMul, Nat.reduceLT, *]
    | simp (singlePass := true) (maxDischargeDepth := 99) only [*, S2, Nat.reduceLT])
        · have hc : cmpI a[k] b[k] = 0 := by rw [cmpI, if_neg h1, if_neg h2]
          rw [hc]
          have N1 : Hid (a.take (k + 1) = b.take (k + 1) ∧ k + 1 ≤ b.length) := ⟨take_next hp1 hlt hkb (by omega), hkb⟩
          (repeat' first
    | ((with_reducible refine at_row ?_); refine row1_a fun _ _ _ _ _ _ _ => ?_)
    | with_reducible first | (first | apply alloc_k | apply row_k); intro _ _ _ _ _ _ | (first | apply fork | apply forkp) <;> intro _ | refine forke (fun _ => ?_) fun _ _ => ?_ | refine tail_k fun _ _ _ => ?_ | refine ext_k fun _ _ _ => ?_ | refine need_a ?_ | refine st_agg KR rfl ON fun _ _ _ _ => ?_ | refine wpd_q_a ?_
    | simp (maxDischargeDepth := 3) only [↓X, ↓Y, ↓Q, S1, ↓reduceIte, Nat.reduceEqDiff, Nat.reduceAdd, Int.reduceLT, Int.reduceLE, Int.reduceNeg, Int.reduceBEq, Int.reduceBNe, Int.reduceEq, Nat.reduceLeDiff, Nat.reduceMul, Nat.reduceLT, *]
    | simp (singlePass := true) (maxDischargeDepth := 99) only [*, S2, Nat.reduceLT])
          refine next_k hk hlt ?_ FR
          (repeat' first
    | ((with_reducible refine at_row ?_); refine row1_a fun _ _ _ _ _ _ _ => ?_)
    | with_reducible first | (first | apply alloc_k | apply row_k); intro _ _ _ _ _ _ | (first | apply fork | apply forkp) <;> intro _ | refine forke (fun _ => ?_) fun _ _ => ?_ | refine tail_k fun _ _ _ => ?_ | refine ext_k fun _ _ _ => ?_ | refine need_a ?_ | refine st_agg KR rfl ON fun _ _ _ _ => ?_ | refine wpd_q_a ?_
    | simp (maxDischargeDepth := 3) only [↓X, ↓Y, ↓Q, S1, ↓reduceIte, Nat.reduceEqDiff, Nat.reduceAdd, Int.reduceLT, Int.reduceLE, Int.reduceNeg, Int.reduceBEq, Int.reduceBNe, Int.reduceEq, Nat.reduceLeDiff, Nat.reduceMul, Nat.reduceLT, *]
    | simp (singlePass := true) (maxDischargeDepth := 99) only [*, S2, Nat.reduceLT])
          all_goals first | exact N1.out | exact N1.out.1 | exact N1.out.2
    · have hkbI : ((b.length : Int) ≤ (k : Int)) := by omega
      have hr : lexI a b = 1 := by
        rw [hlx, show b.drop k = [] from List.drop_eq_nil_of_le (by omega), List.drop_eq_getElem_cons hlt]
        rfl
      rw [hr]
      clear hlx hp
      (repeat' first
    | ((with_reducible refine at_row ?_); refine row1_a fun _ _ _ _ _ _ _ => ?_)
    | with_reducible first | (first | apply alloc_k | apply row_k); intro _ _ _ _ _ _ | (first | apply fork | apply forkp) <;> intro _ | refine forke (fun _ => ?_) fun _ _ => ?_ | refine tail_k fun _ _ _ => ?_ | refine ext_k fun _ _ _ => ?_ | refine need_a ?_ | refine st_agg KR rfl ON fun _ _ _ _ => ?_ | refine wpd_q_a ?_
    | simp (maxDischargeDepth := 3) only [↓X, ↓Y, ↓Q, S1, ↓reduceIte, Nat.reduceEqDiff, Nat.reduceAdd, Int.reduceLT, Int.reduceLE, Int.reduceNeg, Int.reduceBEq, Int.reduceBNe, Int.reduceEq, Nat.reduceLeDiff, Nat.reduceMul, Nat.reduceLT, *]
    | simp (singlePass := true) (maxDischargeDepth := 99) only [*, S2, Nat.reduceLT])
  · rintro g wk nk sk bk ⟨hi, hf, hp⟩
    simp (maxDischargeDepth := 3) only [U, ↓reduceIte, Nat.reduceEqDiff, *] at hf
    obtain ⟨hp1, hp2⟩ := hp.out
    have hlx := lexI_drop hp1 (Nat.le_refl _) hp2
    rw [List.drop_length] at hlx
    by_cases hab : a.length < b.length
    · have habI : ((a.length : Int) < (b.length : Int)) := by omega
      rw [List.drop_eq_getElem_cons hab] at hlx
      have hr : lexI a b = -1 := hlx
      rw [hr]
      clear hlx hp
      (repeat' first
    | ((with_reducible refine at_row ?_); refine row1_a fun _ _ _ _ _ _ _ => ?_)
    | with_reducible first | (first | apply alloc_k | apply row_k); intro _ _ _ _ _ _ | (first | apply fork | apply forkp) <;> intro _ | refine forke (fun _ => ?_) fun _ _ => ?_ | refine tail_k fun _ _ _ => ?_ | refine ext_k fun _ _ _ => ?_ | refine need_a ?_ | refine st_agg KR rfl ON fun _ _ _ _ => ?_ | refine wpd_q_a ?_
    | simp (maxDischargeDepth := 3) only [↓X, ↓Y, ↓Q, S1, ↓reduceIte, Nat.reduceEqDiff, Nat.reduceAdd, Int.reduceLT, Int.reduceLE, Int.reduceNeg, Int.reduceBEq, Int.reduceBNe, Int.reduceEq, Nat.reduceLeDiff, Nat.reduceMul, Nat.reduceLT, *]
    | simp (singlePass := true) (maxDischargeDepth := 99) only [*, S2, Nat.reduceLT])
    · have habI : ¬ ((a.length : Int) < (b.length : Int)) := by omega
      rw [List.drop_eq_nil_of_le (by omega)] at hlx
      have hr : lexI a b = 0 := hlx
      rw [hr]
      clear hlx hp
      (repeat' first
    | ((with_reducible refine at_row ?_); refine row1_a fun _ _ _ _ _ _ _ => ?_)
    | with_reducible first | (first | apply alloc_k | apply row_k); intro _ _ _ _ _ _ | (first | apply fork | apply forkp) <;> intro _ | refine forke (fun _ => ?_) fun _ _ => ?_ | refine tail_k fun _ _ _ => ?_ | refine ext_k fun _ _ _ => ?_ | refine need_a ?_ | refine st_agg KR rfl ON fun _ _ _ _ => ?_ | refine wpd_q_a ?_
    | simp (maxDischargeDepth := 3) only [↓X, ↓Y, ↓Q, S1, ↓reduceIte, Nat.reduceEqDiff, Nat.reduceAdd, Int.reduceLT, Int.reduceLE, Int.reduceNeg, Int.reduceBEq, Int.reduceBNe, Int.reduceEq, Nat.reduceLeDiff, Nat.reduceMul, Nat.reduceLT, *]
    | simp (singlePass := true) (maxDischargeDepth := 99) only [*, S2, Nat.reduceLT])
theorem lawOrderNumbers {n p ka kb : Int} (hn0 : 0 ≤ n ∧ n ≤ 255) (ha0 : 0 ≤ ka ∧ ka ≤ 4294967295) (hb0 : 0 ≤ kb ∧ kb ≤ 4294967295) (hT : TabW w) (hB : B ≤ w.heap.size) (ht : Sl w B none 1 tv (turn.map u8V)) (hu : ∀ x ∈ turn, 0 ≤ x ∧ x ≤ 255) : Ret Tryd.prog 11 #[.int .u8 n, tv, .int .u64 p, .int .u32 ka, .int .u32 kb] w (.bool true) := by
  have hn : Now w := trivial
  have hx : Ext w w := Ext.refl w
  have hT' := fun w' (h : Ext w w') => hT.ext h
  replace hT' : Hid _ := hT'
  have hbw : Bl B w w := Bl.refl hB
  have KT := ht.k hB
  have hTB := fun w' (h : Bl B w w') => ht.bl h
  replace hTB : Hid _ := hTB
  obtain ⟨na, rfl⟩ : ∃ na : Nat, ka = na := ⟨ka.toNat, by omega⟩
  obtain ⟨nb, rfl⟩ : ∃ nb : Nat, kb = nb := ⟨kb.toNat, by omega⟩
  clear ht
  (refine callsV_of Tryd.func11 rfl KR KR ?_; rw [Tryd.results11])
  (repeat' first
    | ((with_reducible refine at_row ?_); refine row1_a fun _ _ _ _ _ _ _ => ?_)
    | with_reducible first | (first | apply alloc_k | apply row_k); intro _ _ _ _ _ _ | (first | apply fork | apply forkp) <;> intro _ | refine forke (fun _ => ?_) fun _ _ => ?_ | refine tail_k fun _ _ _ => ?_ | refine ext_k fun _ _ _ => ?_ | refine need_a ?_ | refine st_agg KR rfl ON fun _ _ _ _ => ?_ | refine wpd_q_a ?_
    | simp (maxDischargeDepth := 3) only [↓X, ↓Y, ↓Q, S1, ↓reduceIte, Nat.reduceEqDiff, Nat.reduceAdd, Int.reduceLT, Int.reduceLE, Int.reduceNeg, Int.reduceBEq, Int.reduceBNe, Int.reduceEq, Nat.reduceLeDiff, Nat.reduceMul, Nat.reduceLT, *]
    | simp (singlePass := true) (maxDischargeDepth := 99) only [*, S2, Nat.reduceLT])
  refine call_k (law10made hn0 (B := B) FR (hTB.out _ FR) hu) ?_
  rintro v w1 n1 s1 ⟨us, A, hA, hA9, h0⟩
  have hV1 := fun w' (h : Bl w1.heap.size w1 w') => hA.blz h
  replace hV1 : Hid _ := hV1
  have b1 : Bl w1.heap.size w1 w1 := Bl.refl (Nat.le_refl _)
  have one1 := hA.v.one
  have len1 := hA.len_
  have hcp := count_pos h0
  have hcl := wayS_le (ds := (ofS A).2.1) (by rw [(ord_ok h0).2.2.1]; omega) 0
  have hdn := (ord_ok h0).2.2.1
  clear hA hTB hu KT
  (repeat' first
    | ((with_reducible refine at_row ?_); refine row1_a fun _ _ _ _ _ _ _ => ?_)
    | with_reducible first | (first | apply alloc_k | apply row_k); intro _ _ _ _ _ _ | (first | apply fork | apply forkp) <;> intro _ | refine forke (fun _ => ?_) fun _ _ => ?_ | refine tail_k fun _ _ _ => ?_ | refine ext_k fun _ _ _ => ?_ | refine need_a ?_ | refine st_agg KR rfl ON fun _ _ _ _ => ?_ | refine wpd_q_a ?_
    | simp (maxDischargeDepth := 3) only [↓X, ↓Y, ↓Q, S1, ↓reduceIte, Nat.reduceEqDiff, Nat.reduceAdd, Int.reduceLT, Int.reduceLE, Int.reduceNeg, Int.reduceBEq, Int.reduceBNe, Int.reduceEq, Nat.reduceLeDiff, Nat.reduceMul, Nat.reduceLT, *]
    | simp (singlePass := true) (maxDischargeDepth := 99) only [*, S2, Nat.reduceLT])
  have c1 := fun w' (h1 : Ext w w') (h2 : Bl w1.heap.size w1 w') (h3 : w1.heap.size ≤ w'.heap.size) => orderCount (w := w') (B := w1.heap.size) (hT'.out w' h1) h3 (hV1.out w' h2)
  simp only [h0, countE, if_true] at c1
  refine ret_k (c1 _ FR FR FR) fun w2 n2 s2 => ?_
  clear c1
  have hpp := Nat.pow_pos (n := A.length) (show 0 < 2 by decide)
  have hc0 : card 0 + A.length = A.length := by rw [card_zero]; omega
  have hcmp := fun i j (hi : i < wayS (ofS A).2.1 0) (hj : j < wayS (ofS A).2.1 0) => nth_cmp h0 hi hj
  have hnm := fun k (hk : k < wayS (ofS A).2.1 0) => nth_nm h0 A.length 0 k hc0 hpp hk
  have hrn := fun k (hk : k < wayS (ofS A).2.1 0) => rank_nth h0 A.length 0 k hc0 hpp hk
  have hrs := fun (l : List Nat) (h1 : l.Nodup) (h2 : ∀ x ∈ l, x < A.length) => rank_some h0 l 0 h1 fun x hx => ⟨h2 x hx, Nat.zero_testBit _⟩
  have hrow := fun i (hi : i < A.length) k (hk : k ∈ (natA A).getD i []) => ((ord_ok h0).2.2.2.2.2.2.1 i k hk)
  have hrp := fun i (hi : i < A.length) x (hx : x ∈ A[i]) => ((ord_ok h0).2.2.2.2.2.2.2.1 i hi x hx)
  have hnth := fun (x : Int) (hxr : -9223372036854775808 ≤ x ∧ x ≤ 9223372036854775807) w' (h1 : Ext w w') (h2 : Bl w1.heap.size w1 w') (h3 : w1.heap.size ≤ w'.heap.size) => orderNth (w := w') (B := w1.heap.size) hxr (hT'.out w' h1) h3 (hV1.out w' h2)
  simp only [h0, nthE, if_true, hdn] at hnth
  have hrank := fun (lv : Value) (line : List Int) w' (h1 : Ext w w') (hl : Sl w' w'.heap.size none 1 lv (line.map intV)) (h2 : Bl w1.heap.size w1 w') (h3 : w1.heap.size ≤ w'.heap.size) => orderRank (w := w') (hT'.out w' h1) (Nat.le_refl _) ((hV1.out w' h2).more10 h3) hl
  simp only [h0, rankE, if_true, hdn] at hrank
  generalize hcnt : wayS (ofS A).2.1 0 = cnt at *
  have hc1 : ¬ ((cnt : Int) < 1) := by omega
  have hc3 : ¬ ((cnt : Int) = 0) := by omega
  have hcv : IntKind.i64.wrap (na : Int) = (na : Int) := by rw [wrap_i64_id] <;> omega
  have hcw : IntKind.i64.wrap (nb : Int) = (nb : Int) := by rw [wrap_i64_id] <;> omega
  have hrema : (na : Int).tmod (cnt : Int) = ((na % cnt : Nat) : Int) := rfl
  have hremb : (nb : Int).tmod (cnt : Int) = ((nb % cnt : Nat) : Int) := rfl
  have hqa : na % cnt < cnt := Nat.mod_lt _ (by omega)
  have hqb : nb % cnt < cnt := Nat.mod_lt _ (by omega)
  generalize na % cnt = qa at *
  generalize nb % cnt = qb at *
  obtain ⟨hcm1, hcm2⟩ := hcmp qa qb hqa hqb
  replace hcm1 := decide_eq_decide.1 hcm1
  replace hcm2 := decide_eq_decide.1 hcm2
  obtain ⟨la1, la2, la3⟩ := hnm qa hqa
  have hrka := hrn qa hqa
  have hbn : qb < cnt := hqb
  have lb1 := (hnm qb hqb).1
  have na1 : ¬ ((qa : Int) < 0 ∨ (cnt : Int) ≤ (qa : Int)) := by omega
  have nb1 : ¬ ((qb : Int) < 0 ∨ (cnt : Int) ≤ (qb : Int)) := by omega
  have nc1 : ((cnt : Int) < 0 ∨ (cnt : Int) ≤ (cnt : Int)) := by omega
  have ca1 := hnth (qa : Int) (by omega)
  have cb1 := hnth (qb : Int) (by omega)
  have cc1 := hnth (cnt : Int) (by omega)
  simp only [if_neg na1, Int.toNat_natCast] at ca1
  simp only [if_neg nb1, Int.toNat_natCast] at cb1
  simp only [if_pos nc1] at cc1
  generalize hLa : nthS (ofS A).2.1 A.length 0 qa = La at *
  generalize hLb : nthS (ofS A).2.1 A.length 0 qb = Lb at *
  simp only [intL] at hcm1 hcm2 hrka hrs
  replace ca1 : Hid _ := ca1
  replace cb1 : Hid _ := cb1
  replace cc1 : Hid _ := cc1
  replace hrank : Hid _ := hrank
  replace hrs : Hid _ := hrs
  replace hrow : Hid _ := hrow
  replace hrp : Hid _ := hrp
  replace la3 : Hid _ := la3
  replace la2 : Hid _ := la2
  replace hcm1 : Hid _ := hcm1
  replace hcm2 : Hid _ := hcm2
  replace hrka : Hid _ := hrka
  have lb1' : Hid (Lb.length = A.length) := lb1
  have la1' : Hid (La.length = A.length) := la1
  clear hnth hcmp hnm hrn hLa hLb hcp h0 na1 nb1 nc1 hcnt hdn lb1 la1
  (repeat' first
    | ((with_reducible refine at_row ?_); refine row1_a fun _ _ _ _ _ _ _ => ?_)
    | with_reducible first | (first | apply alloc_k | apply row_k); intro _ _ _ _ _ _ | (first | apply fork | apply forkp) <;> intro _ | refine forke (fun _ => ?_) fun _ _ => ?_ | refine tail_k fun _ _ _ => ?_ | refine ext_k fun _ _ _ => ?_ | refine need_a ?_ | refine st_agg KR rfl ON fun _ _ _ _ => ?_ | refine wpd_q_a ?_
    | simp (maxDischargeDepth := 3) only [↓X, ↓Y, ↓Q, S1, ↓reduceIte, Nat.reduceEqDiff, Nat.reduceAdd, Int.reduceLT, Int.reduceLE, Int.reduceNeg, Int.reduceBEq, Int.reduceBNe, Int.reduceEq, Nat.reduceLeDiff, Nat.reduceMul, Nat.reduceLT, *, hcv, hcw, hrema, hremb]
    | simp (singlePass := true) (maxDischargeDepth := 99) only [*, S2, Nat.reduceLT, hcv, hcw, hrema, hremb])
  refine call_k (ca1.out _ FR FR FR) ?_
  rintro _ w4 n4 s4 ⟨o4, rfl, ho4⟩
  have one4 := ho4.one
  have hs4 := ho4.sl1 (f := natV)
  have hlo4 : lenN o4 = A.length := by have := hs4.len; rw [List.length_map, la1'.out] at this; exact this
  have hwf4 : SlWf o4 ∧ isSl o4 := ⟨hs4.wf, hs4.sl⟩
  rw [natC_ints] at hs4
  have hL4 := fun w' (h : Bl w4.heap.size w4 w') => hs4.bl h
  replace hL4 : Hid _ := hL4
  have b4 : Bl w4.heap.size w4 w4 := Bl.refl (Nat.le_refl _)
  have r4 := Ext.refl w4
  have ho4' : Hid _ := ho4
  have h4s : Hid (∀ w', Ext w4 w' → Own w' w2.heap.size 3 1 o4 (La.map natC)) := fun w' h => (ho4.more (B' := w2.heap.size) FR).ext h
  clear ho4 hs4
  (repeat' first
    | ((with_reducible refine at_row ?_); refine row1_a fun _ _ _ _ _ _ _ => ?_)
    | with_reducible first | (first | apply alloc_k | apply row_k); intro _ _ _ _ _ _ | (first | apply fork | apply forkp) <;> intro _ | refine forke (fun _ => ?_) fun _ _ => ?_ | refine tail_k fun _ _ _ => ?_ | refine ext_k fun _ _ _ => ?_ | refine need_a ?_ | refine st_agg KR rfl ON fun _ _ _ _ => ?_ | refine wpd_q_a ?_
    | simp (maxDischargeDepth := 3) only [↓X, ↓Y, ↓Q, S1, ↓reduceIte, Nat.reduceEqDiff, Nat.reduceAdd, Int.reduceLT, Int.reduceLE, Int.reduceNeg, Int.reduceBEq, Int.reduceBNe, Int.reduceEq, Nat.reduceLeDiff, Nat.reduceMul, Nat.reduceLT, *, hcv, hcw, hrema, hremb]
    | simp (singlePass := true) (maxDischargeDepth := 99) only [*, S2, Nat.reduceLT, hcv, hcw, hrema, hremb])
  refine call_k (cb1.out _ FR FR FR) ?_
  rintro _ w5 n5 s5 ⟨o5, rfl, ho5⟩
  have one5 := ho5.one
  have hs5 := ho5.sl1 (f := natV)
  rw [natC_ints] at hs5
  have hL5 := fun w' (h : Bl w5.heap.size w5 w') => hs5.bl h
  replace hL5 : Hid _ := hL5
  have b5 : Bl w5.heap.size w5 w5 := Bl.refl (Nat.le_refl _)
  clear ho5 hs5
  (repeat' first
    | ((with_reducible refine at_row ?_); refine row1_a fun _ _ _ _ _ _ _ => ?_)
    | with_reducible first | (first | apply alloc_k | apply row_k); intro _ _ _ _ _ _ | (first | apply fork | apply forkp) <;> intro _ | refine forke (fun _ => ?_) fun _ _ => ?_ | refine tail_k fun _ _ _ => ?_ | refine ext_k fun _ _ _ => ?_ | refine need_a ?_ | refine st_agg KR rfl ON fun _ _ _ _ => ?_ | refine wpd_q_a ?_
    | simp (maxDischargeDepth := 3) only [↓X, ↓Y, ↓Q, S1, ↓reduceIte, Nat.reduceEqDiff, Nat.reduceAdd, Int.reduceLT, Int.reduceLE, Int.reduceNeg, Int.reduceBEq, Int.reduceBNe, Int.reduceEq, Nat.reduceLeDiff, Nat.reduceMul, Nat.reduceLT, *]
    | simp (singlePass := true) (maxDischargeDepth := 99) only [*, S2, Nat.reduceLT])
  refine ret_k (slicesCompareI (B := w4.heap.size) (B' := w5.heap.size) FR FR (hL4.out _ FR) (hL5.out _ FR)) fun w6 n6 s6 => ?_
  have hcm1' : (decide (lexI (La.map fun n : Nat => (n : Int)) (Lb.map fun n : Nat => (n : Int)) < 0) != decide (qa < qb)) = false := by
    have h9 : decide (lexI (La.map fun n : Nat => (n : Int)) (Lb.map fun n : Nat => (n : Int)) < 0) = decide (qa < qb) := decide_eq_decide.2 (hcm1.out.trans (by omega))
    rw [h9]
    simp
  have hbe : (decide ((qa : Int) = (qb : Int)) != ((qa : Int) == (qb : Int))) = false := by
    have : ((qa : Int) == (qb : Int)) = decide ((qa : Int) = (qb : Int)) := by rw [Bool.eq_iff_iff]; simp
    rw [this]
    simp
  have hbe2 : (decide (qa = qb) != (qa == qb)) = false := by
    have : (qa == qb) = decide (qa = qb) := by rw [Bool.eq_iff_iff]; simp
    rw [this]
    simp
  have hbe3 : (decide (qa = qb) != ((qa : Int) == (qb : Int))) = false := by
    have : ((qa : Int) == (qb : Int)) = decide (qa = qb) := by rw [Bool.eq_iff_iff]; simp; omega
    rw [this]
    simp
  (repeat' first
    | ((with_reducible refine at_row ?_); refine row1_a fun _ _ _ _ _ _ _ => ?_)
    | with_reducible first | (first | apply alloc_k | apply row_k); intro _ _ _ _ _ _ | (first | apply fork | apply forkp) <;> intro _ | refine forke (fun _ => ?_) fun _ _ => ?_ | refine tail_k fun _ _ _ => ?_ | refine ext_k fun _ _ _ => ?_ | refine need_a ?_ | refine st_agg KR rfl ON fun _ _ _ _ => ?_ | refine wpd_q_a ?_
    | simp (maxDischargeDepth := 3) only [↓X, ↓Y, ↓Q, S1, ↓reduceIte, Nat.reduceEqDiff, Nat.reduceAdd, Int.reduceLT, Int.reduceLE, Int.reduceNeg, Int.reduceBEq, Int.reduceBNe, Int.reduceEq, Nat.reduceLeDiff, Nat.reduceMul, Nat.reduceLT, *]
    | simp (singlePass := true) (maxDischargeDepth := 99) only [*, S2, Nat.reduceLT])
  refine ret_k (slicesEqualIn (B := w4.heap.size) (B' := w5.heap.size) FR FR (hL4.out _ FR) (hL5.out _ FR)) fun w7 n7 s7 => ?_
  rw [show decide ((La.map fun n : Nat => (n : Int)) = (Lb.map fun n : Nat => (n : Int))) = decide ((qa : Int) = (qb : Int)) from decide_eq_decide.2 hcm2.out]
  (repeat' first
    | ((with_reducible refine at_row ?_); refine row1_a fun _ _ _ _ _ _ _ => ?_)
    | with_reducible first | (first | apply alloc_k | apply row_k); intro _ _ _ _ _ _ | (first | apply fork | apply forkp) <;> intro _ | refine forke (fun _ => ?_) fun _ _ => ?_ | refine tail_k fun _ _ _ => ?_ | refine ext_k fun _ _ _ => ?_ | refine need_a ?_ | refine st_agg KR rfl ON fun _ _ _ _ => ?_ | refine wpd_q_a ?_
    | simp (maxDischargeDepth := 3) only [↓X, ↓Y, ↓Q, S1, ↓reduceIte, Nat.reduceEqDiff, Nat.reduceAdd, Int.reduceLT, Int.reduceLE, Int.reduceNeg, Int.reduceBEq, Int.reduceBNe, Int.reduceEq, Nat.reduceLeDiff, Nat.reduceMul, Nat.reduceLT, *]
    | simp (singlePass := true) (maxDischargeDepth := 99) only [*, S2, Nat.reduceLT])
  refine call_k (slicesCloneI (B := w4.heap.size) FR (hL4.out _ FR) (by rw [List.length_map, la1'.out]; omega)) ?_
  rintro o8 w8 n8 s8 ho8
  have one8 := ho8.one
  have hs8 := ho8.sl1 (f := intV)
  clear ho8 hcm1' hbe hbe2 hbe3 hL5 b5
  (repeat' first
    | ((with_reducible refine at_row ?_); refine row1_a fun _ _ _ _ _ _ _ => ?_)
    | with_reducible first | (first | apply alloc_k | apply row_k); intro _ _ _ _ _ _ | (first | apply fork | apply forkp) <;> intro _ | refine forke (fun _ => ?_) fun _ _ => ?_ | refine tail_k fun _ _ _ => ?_ | refine ext_k fun _ _ _ => ?_ | refine need_a ?_ | refine st_agg KR rfl ON fun _ _ _ _ => ?_ | refine wpd_q_a ?_
    | simp (maxDischargeDepth := 3) only [↓X, ↓Y, ↓Q, S1, ↓reduceIte, Nat.reduceEqDiff, Nat.reduceAdd, Int.reduceLT, Int.reduceLE, Int.reduceNeg, Int.reduceBEq, Int.reduceBNe, Int.reduceEq, Nat.reduceLeDiff, Nat.reduceMul, Nat.reduceLT, *]
    | simp (singlePass := true) (maxDischargeDepth := 99) only [*, S2, Nat.reduceLT])
  have c1 := hrank.out o8 (La.map fun n : Nat => (n : Int)) w8 FR hs8 FR FR
  simp only [List.length_map, la1'.out, if_true, hrka.out] at c1
  refine ret_k c1 fun w9 n9 s9 => ?_
  clear c1 hs8
  (repeat' first
    | ((with_reducible refine at_row ?_); refine row1_a fun _ _ _ _ _ _ _ => ?_)
    | with_reducible first | (first | apply alloc_k | apply row_k); intro _ _ _ _ _ _ | (first | apply fork | apply forkp) <;> intro _ | refine forke (fun _ => ?_) fun _ _ => ?_ | refine tail_k fun _ _ _ => ?_ | refine ext_k fun _ _ _ => ?_ | refine need_a ?_ | refine st_agg KR rfl ON fun _ _ _ _ => ?_ | refine wpd_q_a ?_
    | simp (maxDischargeDepth := 3) only [↓X, ↓Y, ↓Q, S1, ↓reduceIte, Nat.reduceEqDiff, Nat.reduceAdd, Int.reduceLT, Int.reduceLE, Int.reduceNeg, Int.reduceBEq, Int.reduceBNe, Int.reduceEq, Nat.reduceLeDiff, Nat.reduceMul, Nat.reduceLT, *]
    | simp (singlePass := true) (maxDischargeDepth := 99) only [*, S2, Nat.reduceLT])
  refine call_k (cc1.out _ FR FR FR) ?_
  rintro _ w10 n10 s10 ⟨o10, rfl, ho10⟩
  have one10 := ho10.one
  clear ho10
  by_cases h2 : A.length < 2
  · have h2I : ((A.length : Int) < 2) := by omega
    (repeat' first
    | ((with_reducible refine at_row ?_); refine row1_a fun _ _ _ _ _ _ _ => ?_)
    | with_reducible first | (first | apply alloc_k | apply row_k); intro _ _ _ _ _ _ | (first | apply fork | apply forkp) <;> intro _ | refine forke (fun _ => ?_) fun _ _ => ?_ | refine tail_k fun _ _ _ => ?_ | refine ext_k fun _ _ _ => ?_ | refine need_a ?_ | refine st_agg KR rfl ON fun _ _ _ _ => ?_ | refine wpd_q_a ?_
    | simp (maxDischargeDepth := 3) only [↓X, ↓Y, ↓Q, S1, ↓reduceIte, Nat.reduceEqDiff, Nat.reduceAdd, Int.reduceLT, Int.reduceLE, Int.reduceNeg, Int.reduceBEq, Int.reduceBNe, Int.reduceEq, Nat.reduceLeDiff, Nat.reduceMul, Nat.reduceLT, *]
    | simp (singlePass := true) (maxDischargeDepth := 99) only [*, S2, Nat.reduceLT])
    refine ret_k (law10works (hT'.out _ FR)) fun w11 n11 s11 => ?_
    (repeat' first
    | ((with_reducible refine at_row ?_); refine row1_a fun _ _ _ _ _ _ _ => ?_)
    | with_reducible first | (first | apply alloc_k | apply row_k); intro _ _ _ _ _ _ | (first | apply fork | apply forkp) <;> intro _ | refine forke (fun _ => ?_) fun _ _ => ?_ | refine tail_k fun _ _ _ => ?_ | refine ext_k fun _ _ _ => ?_ | refine need_a ?_ | refine st_agg KR rfl ON fun _ _ _ _ => ?_ | refine wpd_q_a ?_
    | simp (maxDischargeDepth := 3) only [↓X, ↓Y, ↓Q, S1, ↓reduceIte, Nat.reduceEqDiff, Nat.reduceAdd, Int.reduceLT, Int.reduceLE, Int.reduceNeg, Int.reduceBEq, Int.reduceBNe, Int.reduceEq, Nat.reduceLeDiff, Nat.reduceMul, Nat.reduceLT, *]
    | simp (singlePass := true) (maxDischargeDepth := 99) only [*, S2, Nat.reduceLT])
  · have h2I : ¬ ((A.length : Int) < 2) := by omega
    have hr20 : (na : Int).tmod (A.length : Int) = ((na % A.length : Nat) : Int) := rfl
    have hr21 : (nb : Int).tmod (A.length : Int) = ((nb % A.length : Nat) : Int) := rfl
    have hx20 : na % A.length < A.length := Nat.mod_lt _ (by omega)
    have hx21 : nb % A.length < A.length := Nat.mod_lt _ (by omega)
    have hA0 : ¬ ((A.length : Int) = 0) := by omega
    generalize na % A.length = x at *
    generalize nb % A.length = y at *
    clear ca1 cb1 cc1 hrka hcm1 hcm2
    (repeat' first
    | ((with_reducible refine wpd_at 17 ?_); refine wpd_hold ?_)
    | ((with_reducible refine at_row ?_); refine row1_a fun _ _ _ _ _ _ _ => ?_)
    | with_reducible first | (first | apply alloc_k | apply row_k); intro _ _ _ _ _ _ | (first | apply fork | apply forkp) <;> intro _ | refine forke (fun _ => ?_) fun _ _ => ?_ | refine tail_k fun _ _ _ => ?_ | refine ext_k fun _ _ _ => ?_ | refine need_a ?_ | refine st_agg KR rfl ON fun _ _ _ _ => ?_ | refine wpd_q_a ?_
    | simp (maxDischargeDepth := 3) only [↓X, ↓Y, ↓Q, S1, ↓reduceIte, Nat.reduceEqDiff, Nat.reduceAdd, Int.reduceLT, Int.reduceLE, Int.reduceNeg, Int.reduceBEq, Int.reduceBNe, Int.reduceEq, Nat.reduceLeDiff, Nat.reduceMul, Nat.reduceLT, *, hcv, hcw, hr20, hr21]
    | simp (singlePass := true) (maxDischargeDepth := 99) only [*, S2, Nat.reduceLT, hcv, hcw, hr20, hr21])
    rename_i wz nz sz
    have hown' : Hid (Own wz w2.heap.size 3 1 o4 (La.map natC)) := h4s.out wz FR
    have hxL : x < La.length := by have := la1'.out; omega
    have hyL : y < La.length := by have := la1'.out; omega
    have KO := (hown'.out.sl1 (f := natV)).v (Nat.le_refl _)
    obtain ⟨gg, hgv, hgb, hgl, hgw⟩ : ∃ gg, o4.ownBlock = some gg ∧ blockOf o4 = some gg ∧ gg < wz.heap.size ∧ w2.heap.size ≤ gg := by
      rcases hown'.out.1.2 with ⟨rfl, h0⟩ | ⟨g, cap, cur, rfl, hb, hg, _⟩
      · rw [List.length_map] at h0; omega
      · exact ⟨g, rfl, rfl, (Array.getElem?_eq_some_iff.1 hg).1, hb⟩
    have hld : ∀ q (hq : q < La.length), ∀ w', Kp gg wz w' → rdv none w' (elemAt o4 1 q) = some (.int .i64 (La[q] : Nat)) := fun q hq w' hk => by
      have h1 := ((hown'.out.sl1 (f := natV)).vp (w' := w') fun b hb _ => by
        obtain rfl := Option.some.inj (hgb.symm.trans hb)
        exact hk).rd q (by rw [List.length_map]; exact hq)
      rw [h1, List.getElem_map]
      rfl
    have hldx := hld x hxL
    have hldy := hld y hyL
    have r10 := Ext.refl wz
    have hN : Hid (NM A.length La) := ⟨la1'.out, la2.out, fun z hz => (la3.out z hz).1⟩
    clear hld hL4 b4 h4s ho4'
    have hRB : ∀ b ∈ [gg], b < wz.heap.size := by simp only [List.mem_cons, List.not_mem_nil, or_false, forall_eq_or_imp, forall_eq]; exact FR
    unfold wpdH
    refine wpd_relL 14 [gg] [(13, gg)] rfl (fun iI v w9 => match iI with
      | 0 => v = o4
      | 1 => v = .int .i64 (x : Nat)
      | 2 => v = o4
      | 3 => v = .int .i64 (y : Nat)
      | 4 => v = o4
      | 5 => v = .int .i64 (y : Nat)
      | 6 => v = elemAt o4 1 y
      | 7 => v = .int .i64 (La[y] : Nat)
      | 8 => v = o4
      | 9 => v = .int .i64 (x : Nat)
      | 10 => v = elemAt o4 1 x
      | 11 => v = .int .i64 (La[x] : Nat)
      | 12 => v = elemAt o4 1 x
      | 13 => Own w9 w2.heap.size 3 1 o4 ((La.set x La[y]).map natC)
      | _ => False) KR KR KR hRB (by simp only [List.nodup_cons, List.mem_cons, List.not_mem_nil, or_false, not_or, List.nodup_nil, not_false_eq_true, and_true] <;> exact FR) ?_ ?_ ?_
    · intro iI v w1 w2 hR hx9
      match iI, hR with
      | 0, h => exact h
      | 1, h => exact h
      | 2, h => exact h
      | 3, h => exact h
      | 4, h => exact h
      | 5, h => exact h
      | 6, h => exact h
      | 7, h => exact h
      | 8, h => exact h
      | 9, h => exact h
      | 10, h => exact h
      | 11, h => exact h
      | 12, h => exact h
      | 13, h => exact Own.tbg h hx9 (fun b hb hX => by obtain rfl := Option.some.inj (hgv.symm.trans hb); exact hX.2 rfl)
    · intro iI oO hi ho gF w9 hx9 hdep hag hun
      have s9 := hx9.sb
      simp only [Sb, List.mem_cons, List.not_mem_nil, or_false, forall_eq_or_imp, forall_eq] at s9
      have n9 : Now w9 := trivial
      have r9 := Ext.refl w9
      have z9 := hx9.size
      rcases iI with _|_|_|_|_|_|_|_|_|_|_|_|_|_|iI
      have e := Option.some.inj ho
      subst e
      have a16 := hag.at 16 KR
      simp only [S5, ↓reduceIte, Nat.reduceEqDiff, initF, *] at a16
      have un13 : Kp gg wz w9 := ⟨hRB _ (by simp), hun 13 _ (by decide) rfl KR⟩
      clear hag hdep ho hun
      refine ⟨fun _ => ?_, fun b hb => by simp [bkL] at hb⟩
      refine relStep_off rfl ?_
      rotate_left
      have e := Option.some.inj ho
      subst e
      have a20 := hag.at 20 KR
      simp only [S5, ↓reduceIte, Nat.reduceEqDiff, initF, *] at a20
      have un13 : Kp gg wz w9 := ⟨hRB _ (by simp), hun 13 _ (by decide) rfl KR⟩
      clear hag hdep ho hun
      refine ⟨fun _ => ?_, fun b hb => by simp [bkL] at hb⟩
      refine relStep_off rfl ?_
      rotate_left
      have e := Option.some.inj ho
      subst e
      have a16 := hag.at 16 KR
      simp only [S5, ↓reduceIte, Nat.reduceEqDiff, initF, *] at a16
      clear hag hdep ho hun
      refine ⟨fun _ => ?_, fun b hb => by simp [bkL] at hb⟩
      refine relStep_off rfl ?_
      rotate_left
      have e := Option.some.inj ho
      subst e
      have a21 := hag.at 21 KR
      simp only [S5, ↓reduceIte, Nat.reduceEqDiff, initF, *] at a21
      clear hag hdep ho hun
      refine ⟨fun _ => ?_, fun b hb => by simp [bkL] at hb⟩
      refine relStep_off rfl ?_
      rotate_left
      have e := Option.some.inj ho
      subst e
      have a16 := hag.at 16 KR
      simp only [S5, ↓reduceIte, Nat.reduceEqDiff, initF, *] at a16
      have un13 : Kp gg wz w9 := ⟨hRB _ (by simp), hun 13 _ (by decide) rfl KR⟩
      clear hag hdep ho hun
      refine ⟨fun _ => ?_, fun b hb => by simp [bkL] at hb⟩
      refine relStep_off rfl ?_
      rotate_left
      have e := Option.some.inj ho
      subst e
      have a21 := hag.at 21 KR
      simp only [S5, ↓reduceIte, Nat.reduceEqDiff, initF, *] at a21
      have un13 : Kp gg wz w9 := ⟨hRB _ (by simp), hun 13 _ (by decide) rfl KR⟩
      clear hag hdep ho hun
      refine ⟨fun _ => ?_, fun b hb => by simp [bkL] at hb⟩
      refine relStep_off rfl ?_
      rotate_left
      have e := Option.some.inj ho
      subst e
      have d4 : (gF 135) = o4 := hdep ⟨4, .data⟩ (by simp) rfl _ _ rfl rfl
      have d5 : (gF 136) = .int .i64 (y : Nat) := hdep ⟨5, .data⟩ (by simp) rfl _ _ rfl rfl
      have un13 : Kp gg wz w9 := ⟨hRB _ (by simp), hun 13 _ (by decide) rfl KR⟩
      clear hag hdep ho hun
      refine ⟨fun _ => ?_, fun b hb => by simp [bkL] at hb⟩
      refine relStep_off rfl ?_
      rotate_left
      have e := Option.some.inj ho
      subst e
      have d6 : (gF 137) = elemAt o4 1 y := hdep ⟨6, .data⟩ (by simp) rfl _ _ rfl rfl
      have un13 : Kp gg wz w9 := ⟨hRB _ (by simp), hun 13 _ (by decide) rfl KR⟩
      clear hag hdep ho hun
      refine ⟨fun _ => ?_, fun b hb => by simp [bkL] at hb⟩
      refine relStep_off rfl ?_
      rotate_left
      have e := Option.some.inj ho
      subst e
      have a16 := hag.at 16 KR
      simp only [S5, ↓reduceIte, Nat.reduceEqDiff, initF, *] at a16
      clear hag hdep ho hun
      refine ⟨fun _ => ?_, fun b hb => by simp [bkL] at hb⟩
      refine relStep_off rfl ?_
      rotate_left
      have e := Option.some.inj ho
      subst e
      have a20 := hag.at 20 KR
      simp only [S5, ↓reduceIte, Nat.reduceEqDiff, initF, *] at a20
      clear hag hdep ho hun
      refine ⟨fun _ => ?_, fun b hb => by simp [bkL] at hb⟩
      refine relStep_off rfl ?_
      rotate_left
      have e := Option.some.inj ho
      subst e
      have d8 : (gF 139) = o4 := hdep ⟨8, .data⟩ (by simp) rfl _ _ rfl rfl
      have d9 : (gF 140) = .int .i64 (x : Nat) := hdep ⟨9, .data⟩ (by simp) rfl _ _ rfl rfl
      clear hag hdep ho hun
      refine ⟨fun _ => ?_, fun b hb => by simp [bkL] at hb⟩
      refine relStep_off rfl ?_
      rotate_left
      have e := Option.some.inj ho
      subst e
      have d10 : (gF 141) = elemAt o4 1 x := hdep ⟨10, .data⟩ (by simp) rfl _ _ rfl rfl
      have un13 : Kp gg wz w9 := ⟨hRB _ (by simp), hun 13 _ (by decide) rfl KR⟩
      clear hag hdep ho hun
      refine ⟨fun _ => ?_, fun b hb => by simp [bkL] at hb⟩
      refine relStep_off rfl ?_
      rotate_left
      have e := Option.some.inj ho
      subst e
      have d0 : (gF 131) = o4 := hdep ⟨0, .data⟩ (by simp) rfl _ _ rfl rfl
      have d1 : (gF 132) = .int .i64 (x : Nat) := hdep ⟨1, .data⟩ (by simp) rfl _ _ rfl rfl
      have un13 : Kp gg wz w9 := ⟨hRB _ (by simp), hun 13 _ (by decide) rfl KR⟩
      clear hag hdep ho hun
      refine ⟨fun _ => ?_, fun b hb => by simp [bkL] at hb⟩
      refine relStep_off rfl ?_
      rotate_left
      have e := Option.some.inj ho
      subst e
      have d7 : (gF 138) = .int .i64 (La[y] : Nat) := hdep ⟨7, .data⟩ (by simp) rfl _ _ rfl rfl
      have d12 : (gF 143) = elemAt o4 1 x := hdep ⟨12, .data⟩ (by simp) rfl _ _ rfl rfl
      clear hag hdep ho hun
      refine ⟨fun h => by simp [bkL] at h, fun b hb hU => ?_⟩
      obtain rfl : gg = b := by simpa [bkL] using hb
      refine relStep_off rfl ?_
      rotate_left
      · omega
      all_goals (repeat' first
    | ((with_reducible refine at_row ?_); refine row1_a fun _ _ _ _ _ _ _ => ?_)
    | with_reducible first | (first | apply alloc_k | apply row_k); intro _ _ _ _ _ _ | (first | apply fork | apply forkp) <;> intro _ | refine forke (fun _ => ?_) fun _ _ => ?_ | refine tail_k fun _ _ _ => ?_ | refine ext_k fun _ _ _ => ?_ | refine need_a ?_ | refine st_agg KR rfl ON fun _ _ _ _ => ?_ | refine wpd_q_a ?_
    | simp (maxDischargeDepth := 3) only [↓X, ↓Y, ↓Q, S1, ↓reduceIte, Nat.reduceEqDiff, Nat.reduceAdd, Int.reduceLT, Int.reduceLE, Int.reduceNeg, Int.reduceBEq, Int.reduceBNe, Int.reduceEq, Nat.reduceLeDiff, Nat.reduceMul, Nat.reduceLT, *]
    | simp (singlePass := true) (maxDischargeDepth := 99) only [*, S2, Nat.reduceLT])
      all_goals first
        | (refine own_setE (i := x) KR (hown'.out.keep fun b hb => by obtain rfl := Option.some.inj (hgv.symm.trans hb); exact hU) (by simpa using hxL) rfl fun b' w11 n11 e11 hb11 hl11 hown11 s11 c11 => ?_; obtain rfl := Option.some.inj (hgb.symm.trans e11); exact ⟨c11, (show Own w11 w2.heap.size 3 1 o4 ((La.set x La[y]).map natC) from by rw [List.map_set]; exact hown11)⟩)
    · intro g9 w9 hx9 hR hS9 hag
      have s9 := hx9.sb
      simp only [Sb, List.mem_cons, List.not_mem_nil, or_false, forall_eq_or_imp, forall_eq] at s9
      have n9 : Now w9 := trivial
      have r9 := Ext.refl w9
      have z9 := hx9.size
      have d2 : (g9 133) = o4 := hR 2 _ _ (by decide) rfl rfl
      have d3 : (g9 134) = .int .i64 (y : Nat) := hR 3 _ _ (by decide) rfl rfl
      have d11 : (g9 142) = .int .i64 (La[x] : Nat) := hR 11 _ _ (by decide) rfl rfl
      obtain ⟨vs13, d13⟩ := hS9 13 _ (by decide) rfl
      replace d13 : Own w9 w2.heap.size 3 1 o4 ((La.set x La[y]).map natC) := d13
      have a11 := hag.at 11 KR
      have a16 := hag.at 16 KR
      simp only [S5, ↓reduceIte, Nat.reduceEqDiff, initF, *] at a11 a16
      clear hag hR hS9
      simp only [List.drop_succ_cons, List.drop_zero]
      (repeat' first
    | ((with_reducible refine at_row ?_); refine row1_a fun _ _ _ _ _ _ _ => ?_)
    | with_reducible first | (first | apply alloc_k | apply row_k); intro _ _ _ _ _ _ | (first | apply fork | apply forkp) <;> intro _ | refine forke (fun _ => ?_) fun _ _ => ?_ | refine tail_k fun _ _ _ => ?_ | refine ext_k fun _ _ _ => ?_ | refine need_a ?_ | refine st_agg KR rfl ON fun _ _ _ _ => ?_ | refine wpd_q_a ?_
    | simp (maxDischargeDepth := 3) only [↓X, ↓Y, ↓Q, S1, ↓reduceIte, Nat.reduceEqDiff, Nat.reduceAdd, Int.reduceLT, Int.reduceLE, Int.reduceNeg, Int.reduceBEq, Int.reduceBNe, Int.reduceEq, Nat.reduceLeDiff, Nat.reduceMul, Nat.reduceLT, *]
    | simp (singlePass := true) (maxDischargeDepth := 99) only [*, S2, Nat.reduceLT])
      refine own_setE (i := y) KR d13 (by simpa using hyL) rfl fun b' w12 n12 e12 hb12 hl12 hown12 s12 c12 => ?_
      obtain rfl := Option.some.inj (hgb.symm.trans e12)
      have hx12 : Ext w2 w12 := by
        have h1 : Bl w2.heap.size w2 w2 := Bl.refl (Nat.le_refl _)
        have h2 : Bl w2.heap.size w2 w12 := FR
        exact h2.2
      obtain ⟨l, hl⟩ : ∃ l : List Nat, l = (La.set x La[y]).set y La[x] := ⟨_, rfl⟩
      have hNl : NM A.length l := hl ▸ hN.out.swap hxL hyL
      have ho12 : Own w12 w2.heap.size 3 1 o4 (l.map natC) := by
        rw [hl, List.map_set]
        exact hown12
      have sx := hx12.st
      have hS12 := ho12.sl1 (f := natV)
      have KL := hS12.k (Nat.le_refl _)
      rw [natC_ints] at hS12
      have hLl := fun w' (h : Bl w12.heap.size w12 w') => hS12.bl h
      replace hLl : Hid _ := hLl
      have b12 : Bl w12.heap.size w12 w12 := Bl.refl (Nat.le_refl _)
      have hll : Hid (l.length = A.length) := hNl.len
      have hNl' : Hid (NM A.length l) := hNl
      clear ho12 hS12 hown12 d13 hl hNl hldx hldy hown' KO s12 c12 e12
      (repeat' first
    | ((with_reducible refine at_row ?_); refine row1_a fun _ _ _ _ _ _ _ => ?_)
    | with_reducible first | (first | apply alloc_k | apply row_k); intro _ _ _ _ _ _ | (first | apply fork | apply forkp) <;> intro _ | refine forke (fun _ => ?_) fun _ _ => ?_ | refine tail_k fun _ _ _ => ?_ | refine ext_k fun _ _ _ => ?_ | refine need_a ?_ | refine st_agg KR rfl ON fun _ _ _ _ => ?_ | refine wpd_q_a ?_
    | simp (maxDischargeDepth := 3) only [↓X, ↓Y, ↓Q, S1, ↓reduceIte, Nat.reduceEqDiff, Nat.reduceAdd, Int.reduceLT, Int.reduceLE, Int.reduceNeg, Int.reduceBEq, Int.reduceBNe, Int.reduceEq, Nat.reduceLeDiff, Nat.reduceMul, Nat.reduceLT, *]
    | simp (singlePass := true) (maxDischargeDepth := 99) only [*, S2, Nat.reduceLT])
      have hin : Hid (∀ k, k < A.length → k ∈ l) := fun k hk => Classical.byContradiction fun hm => by
        have hsub : (k :: l) ⊆ List.range A.length := fun x hx => by
          rcases List.mem_cons.1 hx with rfl | hx
          · exact List.mem_range.2 hk
          · exact List.mem_range.2 (hNl'.out.lt x hx)
        have := List.Nodup.length_le_of_subset (List.nodup_cons.2 ⟨hm, hNl'.out.nd⟩) hsub
        simp only [List.length_cons, List.length_range, hNl'.out.len] at this
        omega
      refine loop_k A.length (fun g0 i g _ => g 147 = .int .i64 i ∧ (g 11 = g0 11 ∧ g 16 = g0 16 ∧ g 146 = g0 146) ∧ ∃ b, g 22 = .bool b ∧ Hid (b = true ↔ ∀ q (h : q < l.length), q < i → ∀ k, k ∈ (natA A).getD l[q] [] → k ∈ l.take q)) KR (by omega) ?_ ?_ ?_
      · (repeat' first
    | ((with_reducible refine at_row ?_); refine row1_a fun _ _ _ _ _ _ _ => ?_)
    | with_reducible first | (first | apply alloc_k | apply row_k); intro _ _ _ _ _ _ | (first | apply fork | apply forkp) <;> intro _ | refine forke (fun _ => ?_) fun _ _ => ?_ | refine tail_k fun _ _ _ => ?_ | refine ext_k fun _ _ _ => ?_ | refine need_a ?_ | refine st_agg KR rfl ON fun _ _ _ _ => ?_ | refine wpd_q_a ?_
    | simp (maxDischargeDepth := 3) only [↓X, ↓Y, ↓Q, S1, ↓reduceIte, Nat.reduceEqDiff, Nat.reduceAdd, Int.reduceLT, Int.reduceLE, Int.reduceNeg, Int.reduceBEq, Int.reduceBNe, Int.reduceEq, Nat.reduceLeDiff, Nat.reduceMul, Nat.reduceLT, *]
    | simp (singlePass := true) (maxDischargeDepth := 99) only [*, S2, Nat.reduceLT])
        refine ⟨_, rfl, ⟨fun _ q _ h => absurd h (Nat.not_lt_zero _), fun _ => rfl⟩⟩
      · rintro i m g2 w13 hk hlt n13 s13 b13 hw ⟨hi, hf, b, h22, hp⟩
        simp (maxDischargeDepth := 3) only [U, ↓reduceIte, Nat.reduceEqDiff, *] at hf
        have hil : i < l.length := by have := hll.out; omega
        have hlin : l[i] < A.length := hNl'.out.lt _ (List.getElem_mem hil)
        obtain ⟨z, hz, hsz⟩ := (hV1.out w13 FR).get hlin
        have hB1 : w1.heap.size ≤ w13.heap.size := FR
        have hzk := hsz.k hB1
        have hzm : (A[l[i]]).length ≤ 9223372036854775807 := by simpa using hsz.maxLen
        have hiI : ((i : Int) < (A.length : Int)) := by omega
        have hng : (natA A).getD l[i] [] = A[l[i]].map Int.toNat := natA_get hlin
        have J0 : Hid (b = true ↔ (∀ q (h : q < l.length), q < i → ∀ k, k ∈ (natA A).getD l[q] [] → k ∈ l.take q) ∧ ∀ k, k ∈ ((natA A).getD l[i] []).take 0 → k ∈ l.take i) := by
          have h9 := hp.out
          constructor
          · intro h
            exact ⟨h9.1 h, fun k hk => by cases hk⟩
          · intro h
            exact h9.2 h.1
        replace hng : Hid _ := hng
        have hrpi := hrp.out l[i] hlin
        replace hrpi : Hid _ := hrpi
        generalize hLi : l[i] = li at *
        clear hp hsz
        (repeat' first
    | ((with_reducible refine at_row ?_); refine row1_a fun _ _ _ _ _ _ _ => ?_)
    | with_reducible first | (first | apply alloc_k | apply row_k); intro _ _ _ _ _ _ | (first | apply fork | apply forkp) <;> intro _ | refine forke (fun _ => ?_) fun _ _ => ?_ | refine tail_k fun _ _ _ => ?_ | refine ext_k fun _ _ _ => ?_ | refine need_a ?_ | refine st_agg KR rfl ON fun _ _ _ _ => ?_ | refine wpd_q_a ?_
    | simp (maxDischargeDepth := 3) only [↓X, ↓Y, ↓Q, S1, ↓reduceIte, Nat.reduceEqDiff, Nat.reduceAdd, Int.reduceLT, Int.reduceLE, Int.reduceNeg, Int.reduceBEq, Int.reduceBNe, Int.reduceEq, Nat.reduceLeDiff, Nat.reduceMul, Nat.reduceLT, *, hLi]
    | simp (singlePass := true) (maxDischargeDepth := 99) only [*, S2, Nat.reduceLT, hLi])
        refine loop_k A[li].length (fun g0 t g _ => g 158 = .int .i64 t ∧ (g 11 = g0 11 ∧ g 16 = g0 16 ∧ g 23 = g0 23 ∧ g 146 = g0 146 ∧ g 147 = g0 147 ∧ g 156 = g0 156 ∧ g 157 = g0 157) ∧ ∃ b, g 22 = .bool b ∧ Hid (b = true ↔ (∀ q (h : q < l.length), q < i → ∀ k, k ∈ (natA A).getD l[q] [] → k ∈ l.take q) ∧ ∀ k, k ∈ ((natA A).getD li []).take t → k ∈ l.take i)) KR hzm ?_ ?_ ?_
        · (repeat' first
    | ((with_reducible refine at_row ?_); refine row1_a fun _ _ _ _ _ _ _ => ?_)
    | with_reducible first | (first | apply alloc_k | apply row_k); intro _ _ _ _ _ _ | (first | apply fork | apply forkp) <;> intro _ | refine forke (fun _ => ?_) fun _ _ => ?_ | refine tail_k fun _ _ _ => ?_ | refine ext_k fun _ _ _ => ?_ | refine need_a ?_ | refine st_agg KR rfl ON fun _ _ _ _ => ?_ | refine wpd_q_a ?_
    | simp (maxDischargeDepth := 3) only [↓X, ↓Y, ↓Q, S1, ↓reduceIte, Nat.reduceEqDiff, Nat.reduceAdd, Int.reduceLT, Int.reduceLE, Int.reduceNeg, Int.reduceBEq, Int.reduceBNe, Int.reduceEq, Nat.reduceLeDiff, Nat.reduceMul, Nat.reduceLT, *, hLi]
    | simp (singlePass := true) (maxDischargeDepth := 99) only [*, S2, Nat.reduceLT, hLi])
          exact ⟨_, rfl, J0.out⟩
        · rintro t m3 g3 w14 hk3 hlt3 n14 s14 b14 hw3 ⟨hi3, hf3, b', h223, hp3⟩
          simp (maxDischargeDepth := 3) only [U, ↓reduceIte, Nat.reduceEqDiff, *] at hf3
          obtain ⟨hy0, hyn⟩ := hrpi.out _ (List.getElem_mem hlt3)
          obtain ⟨y, hy⟩ : ∃ y : Nat, A[li][t] = y := ⟨A[li][t].toNat, by omega⟩
          have hyA : y < A.length := by omega
          have htn : t < ((natA A).getD li []).length := by rw [hng.out, List.length_map]; exact hlt3
          have hty : ((natA A).getD li [])[t] = y := by simp only [hng.out, List.getElem_map, hy, Int.toNat_natCast]
          have htk : ((natA A).getD li []).take (t + 1) = ((natA A).getD li []).take t ++ [y] := by rw [appLL_take htn, hty]
          have htI : ((t : Int) < (A[li].length : Int)) := by omega
          have hix := idx_lt (l := l) (k := y) (q := i) hNl'.out.nd (hin.out y hyA) (by omega)
          have hp3' := hp3.out
          have hnx : Hid ((b' = true ∧ y ∈ l.take i) ↔ (∀ q (h : q < l.length), q < i → ∀ k, k ∈ (natA A).getD l[q] [] → k ∈ l.take q) ∧ ∀ k, k ∈ ((natA A).getD li []).take (t + 1) → k ∈ l.take i) := by
            show (_ ∧ _) ↔ _
            rw [htk, hp3']
            constructor
            · rintro ⟨⟨h1, h2⟩, h3⟩
              refine ⟨h1, fun k hk => ?_⟩
              rcases List.mem_append.1 hk with h4 | h4
              · exact h2 k h4
              · obtain rfl := List.mem_singleton.1 h4
                exact h3
            · rintro ⟨h1, h2⟩
              exact ⟨⟨h1, fun k hk => h2 k (List.mem_append_left _ hk)⟩, h2 y (List.mem_append_right _ (List.mem_singleton.2 rfl))⟩
          clear hp3 hp3' htk hty htn
          cases b'
          · replace hix : Hid _ := hix
            (repeat' first
    | ((with_reducible refine at_row ?_); refine row1_a fun _ _ _ _ _ _ _ => ?_)
    | with_reducible first | (first | apply alloc_k | apply row_k); intro _ _ _ _ _ _ | (first | apply fork | apply forkp) <;> intro _ | refine forke (fun _ => ?_) fun _ _ => ?_ | refine tail_k fun _ _ _ => ?_ | refine ext_k fun _ _ _ => ?_ | refine need_a ?_ | refine st_agg KR rfl ON fun _ _ _ _ => ?_ | refine wpd_q_a ?_
    | simp (maxDischargeDepth := 3) only [↓X, ↓Y, ↓Q, S1, ↓reduceIte, Nat.reduceEqDiff, Nat.reduceAdd, Int.reduceLT, Int.reduceLE, Int.reduceNeg, Int.reduceBEq, Int.reduceBNe, Int.reduceEq, Nat.reduceLeDiff, Nat.reduceMul, Nat.reduceLT, *, hy, hLi]
    | simp (singlePass := true) (maxDischargeDepth := 99) only [*, S2, Nat.reduceLT, hy, hLi])
            refine next_k hk3 hlt3 ?_ FR
            (repeat' first
    | ((with_reducible refine at_row ?_); refine row1_a fun _ _ _ _ _ _ _ => ?_)
    | with_reducible first | (first | apply alloc_k | apply row_k); intro _ _ _ _ _ _ | (first | apply fork | apply forkp) <;> intro _ | refine forke (fun _ => ?_) fun _ _ => ?_ | refine tail_k fun _ _ _ => ?_ | refine ext_k fun _ _ _ => ?_ | refine need_a ?_ | refine st_agg KR rfl ON fun _ _ _ _ => ?_ | refine wpd_q_a ?_
    | simp (maxDischargeDepth := 3) only [↓X, ↓Y, ↓Q, S1, ↓reduceIte, Nat.reduceEqDiff, Nat.reduceAdd, Int.reduceLT, Int.reduceLE, Int.reduceNeg, Int.reduceBEq, Int.reduceBNe, Int.reduceEq, Nat.reduceLeDiff, Nat.reduceMul, Nat.reduceLT, *]
    | simp (singlePass := true) (maxDischargeDepth := 99) only [*, S2, Nat.reduceLT])
            refine ⟨_, rfl, ?_⟩
            show _ ↔ _
            rw [← hnx.out]
            simp
          · have hix' : Hid _ := hix
            clear hix
            simp only [intL] at hix'
            (repeat' first
    | ((with_reducible refine at_row ?_); refine row1_a fun _ _ _ _ _ _ _ => ?_)
    | with_reducible first | (first | apply alloc_k | apply row_k); intro _ _ _ _ _ _ | (first | apply fork | apply forkp) <;> intro _ | refine forke (fun _ => ?_) fun _ _ => ?_ | refine tail_k fun _ _ _ => ?_ | refine ext_k fun _ _ _ => ?_ | refine need_a ?_ | refine st_agg KR rfl ON fun _ _ _ _ => ?_ | refine wpd_q_a ?_
    | simp (maxDischargeDepth := 3) only [↓X, ↓Y, ↓Q, S1, ↓reduceIte, Nat.reduceEqDiff, Nat.reduceAdd, Int.reduceLT, Int.reduceLE, Int.reduceNeg, Int.reduceBEq, Int.reduceBNe, Int.reduceEq, Nat.reduceLeDiff, Nat.reduceMul, Nat.reduceLT, *, hy, hLi]
    | simp (singlePass := true) (maxDischargeDepth := 99) only [*, S2, Nat.reduceLT, hy, hLi])
            refine ret_k (slicesIndexI (B := w12.heap.size) (x := (y : Int)) FR (hLl.out _ FR)) fun w15 n15 s15 => ?_
            generalize fidx (fun z => (y : Int) == z) (l.map fun n : Nat => (n : Int)) = fx at *
            by_cases hm : y ∈ l.take i
            · have hfx : fx < (i : Int) := hix'.out.2 hm
              (repeat' first
    | ((with_reducible refine at_row ?_); refine row1_a fun _ _ _ _ _ _ _ => ?_)
    | with_reducible first | (first | apply alloc_k | apply row_k); intro _ _ _ _ _ _ | (first | apply fork | apply forkp) <;> intro _ | refine forke (fun _ => ?_) fun _ _ => ?_ | refine tail_k fun _ _ _ => ?_ | refine ext_k fun _ _ _ => ?_ | refine need_a ?_ | refine st_agg KR rfl ON fun _ _ _ _ => ?_ | refine wpd_q_a ?_
    | simp (maxDischargeDepth := 3) only [↓X, ↓Y, ↓Q, S1, ↓reduceIte, Nat.reduceEqDiff, Nat.reduceAdd, Int.reduceLT, Int.reduceLE, Int.reduceNeg, Int.reduceBEq, Int.reduceBNe, Int.reduceEq, Nat.reduceLeDiff, Nat.reduceMul, Nat.reduceLT, *, hy, hLi]
    | simp (singlePass := true) (maxDischargeDepth := 99) only [*, S2, Nat.reduceLT, hy, hLi])
              refine next_k hk3 hlt3 ?_ FR
              (repeat' first
    | ((with_reducible refine at_row ?_); refine row1_a fun _ _ _ _ _ _ _ => ?_)
    | with_reducible first | (first | apply alloc_k | apply row_k); intro _ _ _ _ _ _ | (first | apply fork | apply forkp) <;> intro _ | refine forke (fun _ => ?_) fun _ _ => ?_ | refine tail_k fun _ _ _ => ?_ | refine ext_k fun _ _ _ => ?_ | refine need_a ?_ | refine st_agg KR rfl ON fun _ _ _ _ => ?_ | refine wpd_q_a ?_
    | simp (maxDischargeDepth := 3) only [↓X, ↓Y, ↓Q, S1, ↓reduceIte, Nat.reduceEqDiff, Nat.reduceAdd, Int.reduceLT, Int.reduceLE, Int.reduceNeg, Int.reduceBEq, Int.reduceBNe, Int.reduceEq, Nat.reduceLeDiff, Nat.reduceMul, Nat.reduceLT, *]
    | simp (singlePass := true) (maxDischargeDepth := 99) only [*, S2, Nat.reduceLT])
              refine ⟨_, rfl, ?_⟩
              show _ ↔ _
              rw [← hnx.out]
              simp [hm]
            · have hfx : ¬ fx < (i : Int) := fun h => hm (hix'.out.1 h)
              (repeat' first
    | ((with_reducible refine at_row ?_); refine row1_a fun _ _ _ _ _ _ _ => ?_)
    | with_reducible first | (first | apply alloc_k | apply row_k); intro _ _ _ _ _ _ | (first | apply fork | apply forkp) <;> intro _ | refine forke (fun _ => ?_) fun _ _ => ?_ | refine tail_k fun _ _ _ => ?_ | refine ext_k fun _ _ _ => ?_ | refine need_a ?_ | refine st_agg KR rfl ON fun _ _ _ _ => ?_ | refine wpd_q_a ?_
    | simp (maxDischargeDepth := 3) only [↓X, ↓Y, ↓Q, S1, ↓reduceIte, Nat.reduceEqDiff, Nat.reduceAdd, Int.reduceLT, Int.reduceLE, Int.reduceNeg, Int.reduceBEq, Int.reduceBNe, Int.reduceEq, Nat.reduceLeDiff, Nat.reduceMul, Nat.reduceLT, *, hy, hLi]
    | simp (singlePass := true) (maxDischargeDepth := 99) only [*, S2, Nat.reduceLT, hy, hLi])
              refine next_k hk3 hlt3 ?_ FR
              (repeat' first
    | ((with_reducible refine at_row ?_); refine row1_a fun _ _ _ _ _ _ _ => ?_)
    | with_reducible first | (first | apply alloc_k | apply row_k); intro _ _ _ _ _ _ | (first | apply fork | apply forkp) <;> intro _ | refine forke (fun _ => ?_) fun _ _ => ?_ | refine tail_k fun _ _ _ => ?_ | refine ext_k fun _ _ _ => ?_ | refine need_a ?_ | refine st_agg KR rfl ON fun _ _ _ _ => ?_ | refine wpd_q_a ?_
    | simp (maxDischargeDepth := 3) only [↓X, ↓Y, ↓Q, S1, ↓reduceIte, Nat.reduceEqDiff, Nat.reduceAdd, Int.reduceLT, Int.reduceLE, Int.reduceNeg, Int.reduceBEq, Int.reduceBNe, Int.reduceEq, Nat.reduceLeDiff, Nat.reduceMul, Nat.reduceLT, *]
    | simp (singlePass := true) (maxDischargeDepth := 99) only [*, S2, Nat.reduceLT])
              refine ⟨_, rfl, ?_⟩
              show _ ↔ _
              rw [← hnx.out]
              simp [hm]
        · rintro g3 w14 n14 s14 b14 ⟨hi3, hf3, b', h223, hp3⟩
          simp (maxDischargeDepth := 3) only [U, ↓reduceIte, Nat.reduceEqDiff, *] at hf3
          have hni3 : ¬ ((A[li].length : Int) < (A[li].length : Int)) := by omega
          have N1 : Hid (b' = true ↔ ∀ q (h : q < l.length), q < i + 1 → ∀ k, k ∈ (natA A).getD l[q] [] → k ∈ l.take q) := by
            have h9 := hp3.out
            rw [List.take_of_length_le (by rw [hng.out, List.length_map]; exact Nat.le_refl _)] at h9
            show _ ↔ _
            rw [h9]
            constructor
            · rintro ⟨h1, h2⟩ q hq hqi k9 hk9
              rcases Nat.lt_or_eq_of_le (Nat.le_of_lt_succ hqi) with h3 | h3
              · exact h1 q hq h3 k9 hk9
              · subst h3
                exact h2 k9 (by rw [← hLi]; exact hk9)
            · intro h
              exact ⟨fun q hq hqi k hk => h q hq (by omega) k hk, fun k hk => h i hil (by omega) k (by rw [hLi]; exact hk)⟩
          clear hp3
          (repeat' first
    | ((with_reducible refine at_row ?_); refine row1_a fun _ _ _ _ _ _ _ => ?_)
    | with_reducible first | (first | apply alloc_k | apply row_k); intro _ _ _ _ _ _ | (first | apply fork | apply forkp) <;> intro _ | refine forke (fun _ => ?_) fun _ _ => ?_ | refine tail_k fun _ _ _ => ?_ | refine ext_k fun _ _ _ => ?_ | refine need_a ?_ | refine st_agg KR rfl ON fun _ _ _ _ => ?_ | refine wpd_q_a ?_
    | simp (maxDischargeDepth := 3) only [↓X, ↓Y, ↓Q, S1, ↓reduceIte, Nat.reduceEqDiff, Nat.reduceAdd, Int.reduceLT, Int.reduceLE, Int.reduceNeg, Int.reduceBEq, Int.reduceBNe, Int.reduceEq, Nat.reduceLeDiff, Nat.reduceMul, Nat.reduceLT, *]
    | simp (singlePass := true) (maxDischargeDepth := 99) only [*, S2, Nat.reduceLT])
          refine next_k hk hlt ?_ FR
          (repeat' first
    | ((with_reducible refine at_row ?_); refine row1_a fun _ _ _ _ _ _ _ => ?_)
    | with_reducible first | (first | apply alloc_k | apply row_k); intro _ _ _ _ _ _ | (first | apply fork | apply forkp) <;> intro _ | refine forke (fun _ => ?_) fun _ _ => ?_ | refine tail_k fun _ _ _ => ?_ | refine ext_k fun _ _ _ => ?_ | refine need_a ?_ | refine st_agg KR rfl ON fun _ _ _ _ => ?_ | refine wpd_q_a ?_
    | simp (maxDischargeDepth := 3) only [↓X, ↓Y, ↓Q, S1, ↓reduceIte, Nat.reduceEqDiff, Nat.reduceAdd, Int.reduceLT, Int.reduceLE, Int.reduceNeg, Int.reduceBEq, Int.reduceBNe, Int.reduceEq, Nat.reduceLeDiff, Nat.reduceMul, Nat.reduceLT, *]
    | simp (singlePass := true) (maxDischargeDepth := 99) only [*, S2, Nat.reduceLT])
          exact ⟨_, rfl, N1.out⟩
      · rintro g2 w13 n13 s13 b13 ⟨hi, hf, b, h22, hp⟩
        simp (maxDischargeDepth := 3) only [U, ↓reduceIte, Nat.reduceEqDiff, *] at hf
        have hniA : ¬ ((A.length : Int) < (A.length : Int)) := by omega
        have hfin : Hid (b = (rankS (ofS A).2.1 0 (l.map fun n : Nat => (n : Int))).isSome) := by
          have h1 := hrs.out l hNl'.out.nd hNl'.out.lt
          have h2 := hp.out
          show b = _
          rw [Bool.eq_iff_iff, h1, h2]
          constructor
          · intro h q hq k hk
            exact .inr (h q hq (by have := hll.out; omega) k hk)
          · intro h q hq _ k hk
            rcases h q hq k hk with h3 | h3
            · rw [Nat.zero_testBit] at h3; cases h3
            · exact h3
        clear hp
        (repeat' first
    | ((with_reducible refine at_row ?_); refine row1_a fun _ _ _ _ _ _ _ => ?_)
    | with_reducible first | (first | apply alloc_k | apply row_k); intro _ _ _ _ _ _ | (first | apply fork | apply forkp) <;> intro _ | refine forke (fun _ => ?_) fun _ _ => ?_ | refine tail_k fun _ _ _ => ?_ | refine ext_k fun _ _ _ => ?_ | refine need_a ?_ | refine st_agg KR rfl ON fun _ _ _ _ => ?_ | refine wpd_q_a ?_
    | simp (maxDischargeDepth := 3) only [↓X, ↓Y, ↓Q, S1, ↓reduceIte, Nat.reduceEqDiff, Nat.reduceAdd, Int.reduceLT, Int.reduceLE, Int.reduceNeg, Int.reduceBEq, Int.reduceBNe, Int.reduceEq, Nat.reduceLeDiff, Nat.reduceMul, Nat.reduceLT, *]
    | simp (singlePass := true) (maxDischargeDepth := 99) only [*, S2, Nat.reduceLT])
        refine call_k (slicesCloneI (B := w12.heap.size) FR (hLl.out _ FR) (by rw [List.length_map, hll.out]; omega)) ?_
        rintro o15 w15 n15 s15 ho15
        have one15 := ho15.one
        have hs15 := ho15.sl1 (f := intV)
        clear ho15
        (repeat' first
    | ((with_reducible refine at_row ?_); refine row1_a fun _ _ _ _ _ _ _ => ?_)
    | with_reducible first | (first | apply alloc_k | apply row_k); intro _ _ _ _ _ _ | (first | apply fork | apply forkp) <;> intro _ | refine forke (fun _ => ?_) fun _ _ => ?_ | refine tail_k fun _ _ _ => ?_ | refine ext_k fun _ _ _ => ?_ | refine need_a ?_ | refine st_agg KR rfl ON fun _ _ _ _ => ?_ | refine wpd_q_a ?_
    | simp (maxDischargeDepth := 3) only [↓X, ↓Y, ↓Q, S1, ↓reduceIte, Nat.reduceEqDiff, Nat.reduceAdd, Int.reduceLT, Int.reduceLE, Int.reduceNeg, Int.reduceBEq, Int.reduceBNe, Int.reduceEq, Nat.reduceLeDiff, Nat.reduceMul, Nat.reduceLT, *]
    | simp (singlePass := true) (maxDischargeDepth := 99) only [*, S2, Nat.reduceLT])
        have c1 := hrank.out o15 (l.map fun n : Nat => (n : Int)) w15 FR hs15 FR FR
        have hfin' := hfin.out
        simp only [List.length_map, hll.out, if_true] at c1
        cases hR : rankS (ofS A).2.1 0 (l.map fun n : Nat => (n : Int)) with
        | none =>
          rw [hR] at c1 hfin'
          obtain rfl : b = false := hfin'
          simp only at c1
          refine ret_k c1 fun w16 n16 s16 => ?_
          clear c1 hs15 hR
          (repeat' first
    | ((with_reducible refine at_row ?_); refine row1_a fun _ _ _ _ _ _ _ => ?_)
    | with_reducible first | (first | apply alloc_k | apply row_k); intro _ _ _ _ _ _ | (first | apply fork | apply forkp) <;> intro _ | refine forke (fun _ => ?_) fun _ _ => ?_ | refine tail_k fun _ _ _ => ?_ | refine ext_k fun _ _ _ => ?_ | refine need_a ?_ | refine st_agg KR rfl ON fun _ _ _ _ => ?_ | refine wpd_q_a ?_
    | simp (maxDischargeDepth := 3) only [↓X, ↓Y, ↓Q, S1, ↓reduceIte, Nat.reduceEqDiff, Nat.reduceAdd, Int.reduceLT, Int.reduceLE, Int.reduceNeg, Int.reduceBEq, Int.reduceBNe, Int.reduceEq, Nat.reduceLeDiff, Nat.reduceMul, Nat.reduceLT, *]
    | simp (singlePass := true) (maxDischargeDepth := 99) only [*, S2, Nat.reduceLT])
          refine ret_k (law10works (hT'.out _ FR)) fun w17 n17 s17 => ?_
          (repeat' first
    | ((with_reducible refine at_row ?_); refine row1_a fun _ _ _ _ _ _ _ => ?_)
    | with_reducible first | (first | apply alloc_k | apply row_k); intro _ _ _ _ _ _ | (first | apply fork | apply forkp) <;> intro _ | refine forke (fun _ => ?_) fun _ _ => ?_ | refine tail_k fun _ _ _ => ?_ | refine ext_k fun _ _ _ => ?_ | refine need_a ?_ | refine st_agg KR rfl ON fun _ _ _ _ => ?_ | refine wpd_q_a ?_
    | simp (maxDischargeDepth := 3) only [↓X, ↓Y, ↓Q, S1, ↓reduceIte, Nat.reduceEqDiff, Nat.reduceAdd, Int.reduceLT, Int.reduceLE, Int.reduceNeg, Int.reduceBEq, Int.reduceBNe, Int.reduceEq, Nat.reduceLeDiff, Nat.reduceMul, Nat.reduceLT, *]
    | simp (singlePass := true) (maxDischargeDepth := 99) only [*, S2, Nat.reduceLT])
        | some r =>
          rw [hR] at c1 hfin'
          obtain rfl : b = true := hfin'
          simp only at c1
          refine ret_k c1 fun w16 n16 s16 => ?_
          clear c1 hs15 hR
          (repeat' first
    | ((with_reducible refine at_row ?_); refine row1_a fun _ _ _ _ _ _ _ => ?_)
    | with_reducible first | (first | apply alloc_k | apply row_k); intro _ _ _ _ _ _ | (first | apply fork | apply forkp) <;> intro _ | refine forke (fun _ => ?_) fun _ _ => ?_ | refine tail_k fun _ _ _ => ?_ | refine ext_k fun _ _ _ => ?_ | refine need_a ?_ | refine st_agg KR rfl ON fun _ _ _ _ => ?_ | refine wpd_q_a ?_
    | simp (maxDischargeDepth := 3) only [↓X, ↓Y, ↓Q, S1, ↓reduceIte, Nat.reduceEqDiff, Nat.reduceAdd, Int.reduceLT, Int.reduceLE, Int.reduceNeg, Int.reduceBEq, Int.reduceBNe, Int.reduceEq, Nat.reduceLeDiff, Nat.reduceMul, Nat.reduceLT, *]
    | simp (singlePass := true) (maxDischargeDepth := 99) only [*, S2, Nat.reduceLT])
          refine ret_k (law10works (hT'.out _ FR)) fun w17 n17 s17 => ?_
          (repeat' first
    | ((with_reducible refine at_row ?_); refine row1_a fun _ _ _ _ _ _ _ => ?_)
    | with_reducible first | (first | apply alloc_k | apply row_k); intro _ _ _ _ _ _ | (first | apply fork | apply forkp) <;> intro _ | refine forke (fun _ => ?_) fun _ _ => ?_ | refine tail_k fun _ _ _ => ?_ | refine ext_k fun _ _ _ => ?_ | refine need_a ?_ | refine st_agg KR rfl ON fun _ _ _ _ => ?_ | refine wpd_q_a ?_
    | simp (maxDischargeDepth := 3) only [↓X, ↓Y, ↓Q, S1, ↓reduceIte, Nat.reduceEqDiff, Nat.reduceAdd, Int.reduceLT, Int.reduceLE, Int.reduceNeg, Int.reduceBEq, Int.reduceBNe, Int.reduceEq, Nat.reduceLeDiff, Nat.reduceMul, Nat.reduceLT, *]
    | simp (singlePass := true) (maxDischargeDepth := 99) only [*, S2, Nat.reduceLT])
end
end Go.Proofs.YteeaccnklkcchaaDoor
