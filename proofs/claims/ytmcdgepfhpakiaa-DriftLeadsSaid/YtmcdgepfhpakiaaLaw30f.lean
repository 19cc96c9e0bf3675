
/- The laws of the layer drift: DriftLeads. -/
import Derived.Test.YtmcdgepfhpakiaaLaw30d
import Derived.Test.YtmcdgepfhpakiaaPure30c
namespace Go.Proofs.Ytmcdgepfhpakiaa
set_option linter.unusedSimpArgs false
set_option linter.unusedVariables false
open Go Go.RowKit
set_option maxRecDepth 100000
set_option linter.unusedSectionVars false
set_option maxHeartbeats 2000000
def negB (x : WorldD) : Bool := x.replicas.any fun p => decide (p.service < 0) || decide (p.host < 0)
theorem negB_iff {x : WorldD} (h : negB x = false) : ∀ p ∈ x.replicas, 0 ≤ p.service ∧ 0 ≤ p.host := by
  intro p hp
  have h1 := List.any_eq_false.1 h p hp
  simp at h1
  omega
theorem kinds_hosts : ∀ (i : Nat) (xs ys : List StateD), ∀ d ∈ hostsD i xs ys, 0 ≤ d.kind ∧ d.kind ≤ 255
  | _, [], _, d, h => by simp [hostsD] at h
  | _, _ :: _, [], d, h => by simp [hostsD] at h
  | i, x :: xs, y :: ys, d, h => by
    simp only [hostsD, List.mem_append] at h
    rcases h with h | h
    · have h1 := (List.mem_filter.1 h).1
      simp only [List.mem_cons, List.not_mem_nil, or_false] at h1
      rcases h1 with rfl | rfl <;> simp
    · exact kinds_hosts (i + 1) xs ys d h
theorem kinds_diff (a b : WorldD) : ∀ d ∈ diffL a b, 0 ≤ d.kind ∧ d.kind ≤ 255 := by
  intro d h
  unfold diffL at h
  rcases List.mem_append.1 h with h | h
  · exact kinds_hosts _ _ _ d h
  · rcases List.mem_append.1 h with h | h
    · obtain ⟨p, _, rfl⟩ := List.mem_map.1 h
      simp [mkD]
    · obtain ⟨p, _, rfl⟩ := List.mem_map.1 h
      simp [mkD]
theorem kinds_back {l : List DriftD} (hk : ∀ d ∈ l, 0 ≤ d.kind ∧ d.kind ≤ 255) : ∀ d ∈ backL l, 0 ≤ d.kind ∧ d.kind ≤ 255 := by
  intro d h
  obtain ⟨e, he, rfl⟩ := List.mem_map.1 h
  have := hk e (List.mem_reverse.1 he)
  unfold backD
  split
  · exact this
  · split
    · simp
    · split
      · simp
      · exact this
theorem diff_nil {a b : WorldD} (hok : diffOk a b = true) (hb : Good24 b) : decide (diffL a b = []) = decide (a = b) := by
  have hs : Asc a.replicas ∧ Asc b.replicas ∧ a.hosts.length = b.hosts.length := by
    simp only [diffOk, Bool.and_eq_true, decide_eq_true_eq] at hok
    exact ⟨asc_iff.1 hok.1.2, asc_iff.1 hok.2, hok.1.1⟩
  have h1 := patch_diff hs.1 hs.2.1 hs.2.2 hb.1 hb.2.1 hb.2.2
  congr 1
  refine propext ⟨fun h => ?_, ?_⟩
  · rw [h, patchG] at h1
    exact (Prod.mk.inj h1).2
  · rintro rfl
    unfold diffL
    rw [hostsD_self, onlyL_self]
    rfl
theorem world_up2 {w : World} {B B' : Nat} {hv rv : Value} {x : WorldD} (h : WorldR w B hv rv x) (hB : B ≤ B') : WorldR w B' hv rv x := ⟨h.h.more hB, h.r.more hB⟩
theorem ownW_fr {B b T : Nat} {v : Value} {w w' : World} {x : WorldD} {z : List Value} (h : OwnW B v w x) (hz : Blk w b T z) (hc : Chg w w' b) (h1 : T ≠ 46 := by decide) (h2 : T ≠ 49 := by decide) : OwnW B v w' x := by
  obtain ⟨p, q, e, o1, o2⟩ := h
  exact ⟨p, q, e, o1.fr hz hc (.inl h1), o2.fr hz hc (.inl h2)⟩
section
variable {w : World} {B : Nat} {hv rv hv' rv' : Value} {x y : WorldD}
theorem neg30B (hB : B ≤ w.heap.size) (hx0 : WorldR w B hv rv x) : Ret Try.prog 13 #[.agg #[hv, rv]] w (.bool (negB x)) := neg30 hB hx0
theorem lawDriftLeads (hB : B ≤ w.heap.size) (hx0 : WorldR w B hv rv x) (hy0 : WorldR w B hv' rv' y) (hpx : ∀ s ∈ x.hosts, 0 ≤ s.phase ∧ s.phase ≤ 255) (hpy : ∀ s ∈ y.hosts, 0 ≤ s.phase ∧ s.phase ≤ 255) : Ret Try.prog 5 #[.agg #[hv, rv], .agg #[hv', rv']] w (.bool true) := by
  have hn : Now w := trivial
  have hx : Ext w w := Ext.refl w
  have hx' := hx0.sk hB
  have hX := hx'.2.2.2.2
  have hy' := hy0.sk hB
  have hY := hy'.2.2.2.2
  cases hfx : few30B x
  · (refine callsV_of Try.func5 rfl KR KR ?_; rw [Try.results5])
    (repeat' first
    | ((with_reducible refine at_row ?_); refine row1_a fun _ _ _ _ _ _ _ => ?_)
    | with_reducible first | (first | apply alloc_k | apply row_k); intro _ _ _ _ _ _ | (first | apply fork | apply forkp) <;> intro _ | refine forke (fun _ => ?_) fun _ _ => ?_ | refine tail_k fun _ _ _ => ?_ | refine ext_k fun _ _ _ => ?_ | refine need_a ?_ | refine st_agg KR rfl ON fun _ _ _ _ => ?_ | refine wpd_q_a ?_
    | ((with_reducible refine at_f 7 ?_); refine ret_k (few30 (B := B) (x := x) FR (hX _ FR)) fun _ _ _ => ?_)
    | ((with_reducible refine at_f 7 ?_); refine ret_k (few30 (B := B) (x := y) FR (hY _ FR)) fun _ _ _ => ?_)
    | ((with_reducible refine at_f 13 ?_); refine ret_k (neg30B (B := B) (x := x) FR (hX _ FR)) fun _ _ _ => ?_)
    | ((with_reducible refine at_f 13 ?_); refine ret_k (neg30B (B := B) (x := y) FR (hY _ FR)) fun _ _ _ => ?_)
    | ((with_reducible refine at_f 8 ?_); refine ret_k (lives30) fun _ _ _ => ?_)
    | simp (maxDischargeDepth := 3) only [↓X, ↓Y, ↓Q, S1, ↓reduceIte, Nat.reduceEqDiff, Nat.reduceAdd, Int.reduceLT, Int.reduceLE, Int.reduceNeg, Int.reduceBEq, Int.reduceBNe, Int.reduceEq, Nat.reduceLeDiff, Nat.reduceMul, Nat.reduceLT, *]
    | simp (singlePass := true) (maxDischargeDepth := 99) only [*, S2, Nat.reduceLT])
  cases hfy : few30B y
  · (refine callsV_of Try.func5 rfl KR KR ?_; rw [Try.results5])
    (repeat' first
    | ((with_reducible refine at_row ?_); refine row1_a fun _ _ _ _ _ _ _ => ?_)
    | with_reducible first | (first | apply alloc_k | apply row_k); intro _ _ _ _ _ _ | (first | apply fork | apply forkp) <;> intro _ | refine forke (fun _ => ?_) fun _ _ => ?_ | refine tail_k fun _ _ _ => ?_ | refine ext_k fun _ _ _ => ?_ | refine need_a ?_ | refine st_agg KR rfl ON fun _ _ _ _ => ?_ | refine wpd_q_a ?_
    | ((with_reducible refine at_f 7 ?_); refine ret_k (few30 (B := B) (x := x) FR (hX _ FR)) fun _ _ _ => ?_)
    | ((with_reducible refine at_f 7 ?_); refine ret_k (few30 (B := B) (x := y) FR (hY _ FR)) fun _ _ _ => ?_)
    | ((with_reducible refine at_f 13 ?_); refine ret_k (neg30B (B := B) (x := x) FR (hX _ FR)) fun _ _ _ => ?_)
    | ((with_reducible refine at_f 13 ?_); refine ret_k (neg30B (B := B) (x := y) FR (hY _ FR)) fun _ _ _ => ?_)
    | ((with_reducible refine at_f 8 ?_); refine ret_k (lives30) fun _ _ _ => ?_)
    | simp (maxDischargeDepth := 3) only [↓X, ↓Y, ↓Q, S1, ↓reduceIte, Nat.reduceEqDiff, Nat.reduceAdd, Int.reduceLT, Int.reduceLE, Int.reduceNeg, Int.reduceBEq, Int.reduceBNe, Int.reduceEq, Nat.reduceLeDiff, Nat.reduceMul, Nat.reduceLT, *]
    | simp (singlePass := true) (maxDischargeDepth := 99) only [*, S2, Nat.reduceLT])
  by_cases h24x : (24 : Int) < x.replicas.length
  · (refine callsV_of Try.func5 rfl KR KR ?_; rw [Try.results5])
    (repeat' first
    | ((with_reducible refine at_row ?_); refine row1_a fun _ _ _ _ _ _ _ => ?_)
    | with_reducible first | (first | apply alloc_k | apply row_k); intro _ _ _ _ _ _ | (first | apply fork | apply forkp) <;> intro _ | refine forke (fun _ => ?_) fun _ _ => ?_ | refine tail_k fun _ _ _ => ?_ | refine ext_k fun _ _ _ => ?_ | refine need_a ?_ | refine st_agg KR rfl ON fun _ _ _ _ => ?_ | refine wpd_q_a ?_
    | ((with_reducible refine at_f 7 ?_); refine ret_k (few30 (B := B) (x := x) FR (hX _ FR)) fun _ _ _ => ?_)
    | ((with_reducible refine at_f 7 ?_); refine ret_k (few30 (B := B) (x := y) FR (hY _ FR)) fun _ _ _ => ?_)
    | ((with_reducible refine at_f 13 ?_); refine ret_k (neg30B (B := B) (x := x) FR (hX _ FR)) fun _ _ _ => ?_)
    | ((with_reducible refine at_f 13 ?_); refine ret_k (neg30B (B := B) (x := y) FR (hY _ FR)) fun _ _ _ => ?_)
    | ((with_reducible refine at_f 8 ?_); refine ret_k (lives30) fun _ _ _ => ?_)
    | simp (maxDischargeDepth := 3) only [↓X, ↓Y, ↓Q, S1, ↓reduceIte, Nat.reduceEqDiff, Nat.reduceAdd, Int.reduceLT, Int.reduceLE, Int.reduceNeg, Int.reduceBEq, Int.reduceBNe, Int.reduceEq, Nat.reduceLeDiff, Nat.reduceMul, Nat.reduceLT, *]
    | simp (singlePass := true) (maxDischargeDepth := 99) only [*, S2, Nat.reduceLT])
  by_cases h24y : (24 : Int) < y.replicas.length
  · (refine callsV_of Try.func5 rfl KR KR ?_; rw [Try.results5])
    (repeat' first
    | ((with_reducible refine at_row ?_); refine row1_a fun _ _ _ _ _ _ _ => ?_)
    | with_reducible first | (first | apply alloc_k | apply row_k); intro _ _ _ _ _ _ | (first | apply fork | apply forkp) <;> intro _ | refine forke (fun _ => ?_) fun _ _ => ?_ | refine tail_k fun _ _ _ => ?_ | refine ext_k fun _ _ _ => ?_ | refine need_a ?_ | refine st_agg KR rfl ON fun _ _ _ _ => ?_ | refine wpd_q_a ?_
    | ((with_reducible refine at_f 7 ?_); refine ret_k (few30 (B := B) (x := x) FR (hX _ FR)) fun _ _ _ => ?_)
    | ((with_reducible refine at_f 7 ?_); refine ret_k (few30 (B := B) (x := y) FR (hY _ FR)) fun _ _ _ => ?_)
    | ((with_reducible refine at_f 13 ?_); refine ret_k (neg30B (B := B) (x := x) FR (hX _ FR)) fun _ _ _ => ?_)
    | ((with_reducible refine at_f 13 ?_); refine ret_k (neg30B (B := B) (x := y) FR (hY _ FR)) fun _ _ _ => ?_)
    | ((with_reducible refine at_f 8 ?_); refine ret_k (lives30) fun _ _ _ => ?_)
    | simp (maxDischargeDepth := 3) only [↓X, ↓Y, ↓Q, S1, ↓reduceIte, Nat.reduceEqDiff, Nat.reduceAdd, Int.reduceLT, Int.reduceLE, Int.reduceNeg, Int.reduceBEq, Int.reduceBNe, Int.reduceEq, Nat.reduceLeDiff, Nat.reduceMul, Nat.reduceLT, *]
    | simp (singlePass := true) (maxDischargeDepth := 99) only [*, S2, Nat.reduceLT])
  cases hnx : negB x
  rotate_left
  · (refine callsV_of Try.func5 rfl KR KR ?_; rw [Try.results5])
    (repeat' first
    | ((with_reducible refine at_row ?_); refine row1_a fun _ _ _ _ _ _ _ => ?_)
    | with_reducible first | (first | apply alloc_k | apply row_k); intro _ _ _ _ _ _ | (first | apply fork | apply forkp) <;> intro _ | refine forke (fun _ => ?_) fun _ _ => ?_ | refine tail_k fun _ _ _ => ?_ | refine ext_k fun _ _ _ => ?_ | refine need_a ?_ | refine st_agg KR rfl ON fun _ _ _ _ => ?_ | refine wpd_q_a ?_
    | ((with_reducible refine at_f 7 ?_); refine ret_k (few30 (B := B) (x := x) FR (hX _ FR)) fun _ _ _ => ?_)
    | ((with_reducible refine at_f 7 ?_); refine ret_k (few30 (B := B) (x := y) FR (hY _ FR)) fun _ _ _ => ?_)
    | ((with_reducible refine at_f 13 ?_); refine ret_k (neg30B (B := B) (x := x) FR (hX _ FR)) fun _ _ _ => ?_)
    | ((with_reducible refine at_f 13 ?_); refine ret_k (neg30B (B := B) (x := y) FR (hY _ FR)) fun _ _ _ => ?_)
    | ((with_reducible refine at_f 8 ?_); refine ret_k (lives30) fun _ _ _ => ?_)
    | simp (maxDischargeDepth := 3) only [↓X, ↓Y, ↓Q, S1, ↓reduceIte, Nat.reduceEqDiff, Nat.reduceAdd, Int.reduceLT, Int.reduceLE, Int.reduceNeg, Int.reduceBEq, Int.reduceBNe, Int.reduceEq, Nat.reduceLeDiff, Nat.reduceMul, Nat.reduceLT, *]
    | simp (singlePass := true) (maxDischargeDepth := 99) only [*, S2, Nat.reduceLT])
  cases hny : negB y
  rotate_left
  · (refine callsV_of Try.func5 rfl KR KR ?_; rw [Try.results5])
    (repeat' first
    | ((with_reducible refine at_row ?_); refine row1_a fun _ _ _ _ _ _ _ => ?_)
    | with_reducible first | (first | apply alloc_k | apply row_k); intro _ _ _ _ _ _ | (first | apply fork | apply forkp) <;> intro _ | refine forke (fun _ => ?_) fun _ _ => ?_ | refine tail_k fun _ _ _ => ?_ | refine ext_k fun _ _ _ => ?_ | refine need_a ?_ | refine st_agg KR rfl ON fun _ _ _ _ => ?_ | refine wpd_q_a ?_
    | ((with_reducible refine at_f 7 ?_); refine ret_k (few30 (B := B) (x := x) FR (hX _ FR)) fun _ _ _ => ?_)
    | ((with_reducible refine at_f 7 ?_); refine ret_k (few30 (B := B) (x := y) FR (hY _ FR)) fun _ _ _ => ?_)
    | ((with_reducible refine at_f 13 ?_); refine ret_k (neg30B (B := B) (x := x) FR (hX _ FR)) fun _ _ _ => ?_)
    | ((with_reducible refine at_f 13 ?_); refine ret_k (neg30B (B := B) (x := y) FR (hY _ FR)) fun _ _ _ => ?_)
    | ((with_reducible refine at_f 8 ?_); refine ret_k (lives30) fun _ _ _ => ?_)
    | simp (maxDischargeDepth := 3) only [↓X, ↓Y, ↓Q, S1, ↓reduceIte, Nat.reduceEqDiff, Nat.reduceAdd, Int.reduceLT, Int.reduceLE, Int.reduceNeg, Int.reduceBEq, Int.reduceBNe, Int.reduceEq, Nat.reduceLeDiff, Nat.reduceMul, Nat.reduceLT, *]
    | simp (singlePass := true) (maxDischargeDepth := 99) only [*, S2, Nat.reduceLT])
  have hlx := few30_len hfx
  have hly := few30_len hfy
  have hgx : Good24 x := ⟨hpx, negB_iff hnx, by omega⟩
  have hgy : Good24 y := ⟨hpy, negB_iff hny, by omega⟩
  have hL : (x.hosts.length ≤ 1000000 ∧ x.replicas.length ≤ 1000000) ∧ y.hosts.length ≤ 1000000 ∧ y.replicas.length ≤ 1000000 := by omega
  replace hL : Hid _ := hL
  clear hlx hly
  by_cases hok : diffOk x y = true
  · have hoy : diffOk y x = true := by
      have h := diffE_swap x y
      unfold diffE at h
      rw [if_pos hok] at h
      by_cases h2 : diffOk y x = true
      · exact h2
      · rw [if_neg h2] at h; cases h
    have hs : sortedB x.replicas = true ∧ sortedB y.replicas = true ∧ x.hosts.length = y.hosts.length := by
      simp only [diffOk, Bool.and_eq_true, decide_eq_true_eq] at hok
      exact ⟨hok.1.2, hok.2, hok.1.1⟩
    have hG := patch_diff (asc_iff.1 hs.1) (asc_iff.1 hs.2.1) hs.2.2 hgy.1 hgy.2.1 hgy.2.2
    have hP : patchR x (diffL x y) = (0, y) := by rw [patchR, if_pos hs.1]; exact hG
    have hQ : patchR y (backL (diffL x y)) = (0, x) := by rw [patchR, if_pos hs.2.1]; exact patch_back hgx hG
    have hnil := diff_nil hok hgy
    have hlen := diffL_swap x y
    have hK := kinds_diff x y
    have hKb := kinds_back hK
    have hLn : (diffL x y).length ≤ 1000000 := by
      have h1 := lenH x.hosts.length 0 x.hosts y.hosts
      have h2 : (onlyL x.replicas y.replicas).length ≤ x.replicas.length := List.length_filter_le _ _
      have h3 : (onlyL y.replicas x.replicas).length ≤ y.replicas.length := List.length_filter_le _ _
      have h4 := few30_len hfx
      rw [List.take_length, hs.2.2, List.take_length] at h1
      rw [diffL_len]
      have h5 := few30_len hfy
      omega
    have hE : diffE x y = 0 := by rw [diffE, if_pos hok]
    have hE2 : diffE y x = 0 := by rw [diffE, if_pos hoy]
    have hbl : Hid ((backL (diffL x y)).length ≤ 1000000) := by
      show _ ≤ _
      rw [backL, List.length_map, List.length_reverse]
      exact hLn
    replace hP : Hid _ := hP
    replace hQ : Hid _ := hQ
    replace hnil : Hid _ := hnil
    replace hlen : Hid _ := hlen
    replace hLn : Hid _ := hLn
    clear hs hG
    (refine callsV_of Try.func5 rfl KR KR ?_; rw [Try.results5])
    (repeat' first
    | ((with_reducible refine at_row ?_); refine row1_a fun _ _ _ _ _ _ _ => ?_)
    | with_reducible first | (first | apply alloc_k | apply row_k); intro _ _ _ _ _ _ | (first | apply fork | apply forkp) <;> intro _ | refine forke (fun _ => ?_) fun _ _ => ?_ | refine tail_k fun _ _ _ => ?_ | refine ext_k fun _ _ _ => ?_ | refine need_a ?_ | refine st_agg KR rfl ON fun _ _ _ _ => ?_ | refine wpd_q_a ?_
    | ((with_reducible refine at_f 7 ?_); refine ret_k (few30 (B := B) (x := x) FR (hX _ FR)) fun _ _ _ => ?_)
    | ((with_reducible refine at_f 7 ?_); refine ret_k (few30 (B := B) (x := y) FR (hY _ FR)) fun _ _ _ => ?_)
    | ((with_reducible refine at_f 13 ?_); refine ret_k (neg30B (B := B) (x := x) FR (hX _ FR)) fun _ _ _ => ?_)
    | ((with_reducible refine at_f 13 ?_); refine ret_k (neg30B (B := B) (x := y) FR (hY _ FR)) fun _ _ _ => ?_)
    | simp (maxDischargeDepth := 3) only [↓X, ↓Y, ↓Q, S1, ↓reduceIte, Nat.reduceEqDiff, Nat.reduceAdd, Int.reduceLT, Int.reduceLE, Int.reduceNeg, Int.reduceBEq, Int.reduceBNe, Int.reduceEq, Nat.reduceLeDiff, Nat.reduceMul, Nat.reduceLT, *]
    | simp (singlePass := true) (maxDischargeDepth := 99) only [*, S2, Nat.reduceLT])
    refine call_k (driftDiff (B := B) FR (hX _ FR) (hY _ FR) hL.out.1.1 hL.out.1.2 hL.out.2.2 hpx hpy) ?_
    rintro _ w1 n1 s1 ⟨v1, rfl, o1⟩
    rw [hE]
    rw [if_pos hok] at o1
    have O1 := o1.o
    have hv1 : lenN v1 = (diffL x y).length := by have h := (o1.slN (f := driftC)).len; rwa [List.length_map] at h
    replace hv1 : Hid _ := hv1
    clear o1
    (repeat' first
    | ((with_reducible refine at_row ?_); refine row1_a fun _ _ _ _ _ _ _ => ?_)
    | with_reducible first | (first | apply alloc_k | apply row_k); intro _ _ _ _ _ _ | (first | apply fork | apply forkp) <;> intro _ | refine forke (fun _ => ?_) fun _ _ => ?_ | refine tail_k fun _ _ _ => ?_ | refine ext_k fun _ _ _ => ?_ | refine need_a ?_ | refine st_agg KR rfl ON fun _ _ _ _ => ?_ | refine wpd_q_a ?_
    | simp (maxDischargeDepth := 3) only [↓X, ↓Y, ↓Q, S1, ↓reduceIte, Nat.reduceEqDiff, Nat.reduceAdd, Int.reduceLT, Int.reduceLE, Int.reduceNeg, Int.reduceBEq, Int.reduceBNe, Int.reduceEq, Nat.reduceLeDiff, Nat.reduceMul, Nat.reduceLT, *]
    | simp (singlePass := true) (maxDischargeDepth := 99) only [*, S2, Nat.reduceLT])
    refine call_k (driftDiff (B := B) FR (hY _ FR) (hX _ FR) hL.out.2.1 hL.out.2.2 hL.out.1.2 hpy hpx) ?_
    rintro _ w2 n2 s2 ⟨v2, rfl, o2⟩
    rw [hE2]
    rw [if_pos hoy] at o2
    have O2 := o2.o
    have hv2 : lenN v2 = (diffL y x).length := by have h := (o2.slN (f := driftC)).len; rwa [List.length_map] at h
    replace hv2 : Hid _ := hv2
    generalize hM : diffL y x = M at *
    generalize diffL x y = L at *
    clear o2 hM
    (repeat' first
    | ((with_reducible refine at_row ?_); refine row1_a fun _ _ _ _ _ _ _ => ?_)
    | with_reducible first | (first | apply alloc_k | apply row_k); intro _ _ _ _ _ _ | (first | apply fork | apply forkp) <;> intro _ | refine forke (fun _ => ?_) fun _ _ => ?_ | refine tail_k fun _ _ _ => ?_ | refine ext_k fun _ _ _ => ?_ | refine need_a ?_ | refine st_agg KR rfl ON fun _ _ _ _ => ?_ | refine wpd_q_a ?_
    | simp (maxDischargeDepth := 3) only [↓X, ↓Y, ↓Q, S1, ↓reduceIte, Nat.reduceEqDiff, Nat.reduceAdd, Int.reduceLT, Int.reduceLE, Int.reduceNeg, Int.reduceBEq, Int.reduceBNe, Int.reduceEq, Nat.reduceLeDiff, Nat.reduceMul, Nat.reduceLT, *]
    | simp (singlePass := true) (maxDischargeDepth := 99) only [*, S2, Nat.reduceLT])
    have hB2 : B ≤ w2.heap.size := FR
    refine call_k (driftPatch (Nat.le_refl _) (world_up2 (hX _ FR) hB2) ((O1.1 _ FR).slN (f := driftC)) hL.out.1.1 hL.out.1.2 hpx hK) ?_
    rintro _ w3 n3 s3 ⟨_, rfl, h3, r3, rfl, oh3, or3⟩
    rw [hP.out] at oh3 or3 ⊢
    have H3 := oh3.o
    have R3 := or3.o
    have a31 := oh3.one
    have a32 := or3.one
    clear oh3 or3
    (repeat' first
    | ((with_reducible refine wpd_at 8 ?_); refine wpd_hold ?_)
    | ((with_reducible refine at_row ?_); refine row1_a fun _ _ _ _ _ _ _ => ?_)
    | with_reducible first | (first | apply alloc_k | apply row_k); intro _ _ _ _ _ _ | (first | apply fork | apply forkp) <;> intro _ | refine forke (fun _ => ?_) fun _ _ => ?_ | refine tail_k fun _ _ _ => ?_ | refine ext_k fun _ _ _ => ?_ | refine need_a ?_ | refine st_agg KR rfl ON fun _ _ _ _ => ?_ | refine wpd_q_a ?_
    | simp (maxDischargeDepth := 3) only [↓X, ↓Y, ↓Q, S1, ↓reduceIte, Nat.reduceEqDiff, Nat.reduceAdd, Int.reduceLT, Int.reduceLE, Int.reduceNeg, Int.reduceBEq, Int.reduceBNe, Int.reduceEq, Nat.reduceLeDiff, Nat.reduceMul, Nat.reduceLT, *]
    | simp (singlePass := true) (maxDischargeDepth := 99) only [*, S2, Nat.reduceLT])
    rename_i bF wF nF kF sF qF wR nR kR sR
    have hBR : B ≤ wR.heap.size := FR
    have rR := Ext.refl wR
    unfold wpdH
    refine wpd_relS2 9 [(8, 7)] (fun iI s v w9 => match iI with
      | 0 => v = .agg #[hv', rv']
      | 1 => v = v1
      | 2 => OwnD w9 wR.heap.size v (backL L)
      | 3 => ∃ u, v = .tuple #[u, intV 0] ∧ OwnW wR.heap.size u w9 x
      | 4 => ∃ u, v = .tuple #[u, intV 0] ∧ OwnW wR.heap.size u w9 x
      | 5 => OwnW wR.heap.size v w9 x
      | 6 => v = intV 0
      | 7 => ∃ b, v = .pointer (some ⟨b, 0, none⟩) ∧ (wR.heap.size ≤ b ∧ b < w9.heap.size) ∧ (s = false → Blk w9 b 25 [.slice none 0 0, .slice none 0 0]) ∧ (s = true → ∃ h r, Blk w9 b 25 [h, r] ∧ OwnH w9 wR.heap.size h x.hosts ∧ OwnP w9 wR.heap.size r x.replicas)
      | 8 => True
      | _ => False) (fun iI => iI == 7) ?_ KR KR KR KR ?_ ?_ ?_
    · intro iI s v w9 hF hR b hb
      match iI, hF, hR with
      | 0, hF, _ => exact absurd hF (by decide)
      | 1, hF, _ => exact absurd hF (by decide)
      | 2, hF, _ => exact absurd hF (by decide)
      | 3, hF, _ => exact absurd hF (by decide)
      | 4, hF, _ => exact absurd hF (by decide)
      | 5, hF, _ => exact absurd hF (by decide)
      | 6, hF, _ => exact absurd hF (by decide)
      | 7, _, ⟨b2, e, h1, _⟩ => subst e; obtain rfl := Option.some.inj hb; exact h1.2
      | 8, hF, _ => exact absurd hF (by decide)
    · intro iI s v w1 w2 hR hx9
      match iI, hR with
      | 0, h => exact h
      | 1, h => exact h
      | 2, h => exact Own.ext h hx9
      | 3, h => exact (let ⟨u, e, o⟩ := h; ⟨u, e, o.ext hx9⟩)
      | 4, h => exact (let ⟨u, e, o⟩ := h; ⟨u, e, o.ext hx9⟩)
      | 5, h => exact OwnW.ext h hx9
      | 6, h => exact h
      | 7, ⟨b, e, h1, h2, h3⟩ => exact ⟨b, e, ⟨h1.1, Nat.lt_of_lt_of_le h1.2 hx9.size⟩, fun hs => (h2 hs).ext hx9, fun hs => (fun h => (let ⟨a, b, k, o1, o2⟩ := h; ⟨a, b, k.ext hx9, o1.ext hx9, o2.ext hx9⟩)) (h3 hs)⟩
      | 8, h => exact h
    · intro iI oO hi ho gF w9 S9 hx9 hdep hag
      have s9 := hx9.st
      have n9 : Now w9 := trivial
      have r9 := Ext.refl w9
      have z9 := hx9.size
      rcases iI with _|_|_|_|_|_|_|_|_|iI
      have e := Option.some.inj ho
      subst e
      have a3 := hag.at 3 KR
      simp only [S5, ↓reduceIte, Nat.reduceEqDiff, initF, *] at a3
      clear hag hdep ho
      refine ⟨fun _ _ => ?_, fun _ hF => absurd hF (by decide), fun a9 pa da hal => by simp [alL] at hal⟩
      refine relStep_off rfl ?_
      rotate_left
      have e := Option.some.inj ho
      subst e
      have a5 := hag.at 5 KR
      simp only [S5, ↓reduceIte, Nat.reduceEqDiff, initF, *] at a5
      clear hag hdep ho
      refine ⟨fun _ _ => ?_, fun _ hF => absurd hF (by decide), fun a9 pa da hal => by simp [alL] at hal⟩
      refine relStep_off rfl ?_
      rotate_left
      have e := Option.some.inj ho
      subst e
      have d1 : (gF 74) = v1 := hdep ⟨1, .data⟩ (by simp) rfl _ _ rfl rfl
      clear hag hdep ho
      refine ⟨fun _ _ => ?_, fun _ hF => absurd hF (by decide), fun a9 pa da hal => by simp [alL] at hal⟩
      refine relStep_off rfl ?_
      rotate_left
      have e := Option.some.inj ho
      subst e
      have d0 : (gF 73) = .agg #[hv', rv'] := hdep ⟨0, .data⟩ (by simp) rfl _ _ rfl rfl
      have d2 : OwnD w9 wR.heap.size (gF 75) (backL L) := hdep ⟨2, .data⟩ (by simp) rfl _ _ rfl rfl
      skip
      clear hag hdep ho
      refine ⟨fun _ _ => ?_, fun _ hF => absurd hF (by decide), fun a9 pa da hal => by simp [alL] at hal⟩
      refine relStep_off rfl ?_
      rotate_left
      have e := Option.some.inj ho
      subst e
      have d3 : ∃ u, (gF 76) = .tuple #[u, intV 0] ∧ OwnW wR.heap.size u w9 x := hdep ⟨3, .data⟩ (by simp) rfl _ _ rfl rfl
      obtain ⟨u3, e3, o3⟩ := d3
      clear hag hdep ho
      refine ⟨fun _ _ => ?_, fun _ hF => absurd hF (by decide), fun a9 pa da hal => by simp [alL] at hal⟩
      refine relStep_off rfl ?_
      rotate_left
      have e := Option.some.inj ho
      subst e
      have d4 : ∃ u, (gF 72) = .tuple #[u, intV 0] ∧ OwnW wR.heap.size u w9 x := hdep ⟨4, .data⟩ (by simp) rfl _ _ rfl rfl
      obtain ⟨u4, e4, o4⟩ := d4
      clear hag hdep ho
      refine ⟨fun _ _ => ?_, fun _ hF => absurd hF (by decide), fun a9 pa da hal => by simp [alL] at hal⟩
      refine relStep_off rfl ?_
      rotate_left
      have e := Option.some.inj ho
      subst e
      have d4 : ∃ u, (gF 72) = .tuple #[u, intV 0] ∧ OwnW wR.heap.size u w9 x := hdep ⟨4, .data⟩ (by simp) rfl _ _ rfl rfl
      obtain ⟨u4, e4, o4⟩ := d4
      clear hag hdep ho
      refine ⟨fun _ _ => ?_, fun _ hF => absurd hF (by decide), fun a9 pa da hal => by simp [alL] at hal⟩
      refine relStep_off rfl ?_
      rotate_left
      have e := Option.some.inj ho
      subst e
      clear hag hdep ho
      refine ⟨fun _ hF => absurd hF (by decide), fun _ _ => ?_, fun a9 pa da hal => by simp [alL] at hal⟩
      refine relStep_off rfl ?_
      rotate_left
      have e := Option.some.inj ho
      subst e
      have d7 : ∃ b, (gF 11) = .pointer (some ⟨b, 0, none⟩) ∧ (wR.heap.size ≤ b ∧ b < w9.heap.size) ∧ ((S9 7) = false → Blk w9 b 25 [.slice none 0 0, .slice none 0 0]) ∧ ((S9 7) = true → ∃ h r, Blk w9 b 25 [h, r] ∧ OwnH w9 wR.heap.size h x.hosts ∧ OwnP w9 wR.heap.size r x.replicas) := hdep ⟨7, .data⟩ (by simp) rfl _ _ rfl rfl
      obtain ⟨b7, e7, ⟨q7, l7⟩, hz7, _⟩ := d7
      have d5 : OwnW wR.heap.size (gF 77) w9 x := hdep ⟨5, .data⟩ (by simp) rfl _ _ rfl rfl
      obtain ⟨h5, r5, e5, oh5, or5⟩ := d5
      have H5 := oh5.one
      have R5 := or5.one
      clear hag hdep ho
      refine ⟨fun h => by simp [alL] at h, fun h => by simp [alL] at h, fun a9 pa da hal hS9 hpa hda => ?_⟩
      obtain rfl : 7 = a9 := by simpa [alL] using hal
      obtain rfl := Option.some.inj hpa
      obtain rfl := Option.some.inj hda
      have hz := hz7 hS9
      clear hal hpa hda hz7
      refine relStep_off rfl ?_
      rotate_left
      · omega
      all_goals (repeat' first
    | ((with_reducible refine at_row ?_); refine row1_a fun _ _ _ _ _ _ _ => ?_)
    | with_reducible first | (first | apply alloc_k | apply row_k); intro _ _ _ _ _ _ | (first | apply fork | apply forkp) <;> intro _ | refine forke (fun _ => ?_) fun _ _ => ?_ | refine tail_k fun _ _ _ => ?_ | refine ext_k fun _ _ _ => ?_ | refine need_a ?_ | refine st_agg KR rfl ON fun _ _ _ _ => ?_ | refine wpd_q_a ?_
    | simp (maxDischargeDepth := 3) only [↓X, ↓Y, ↓Q, S1, ↓reduceIte, Nat.reduceEqDiff, Nat.reduceAdd, Int.reduceLT, Int.reduceLE, Int.reduceNeg, Int.reduceBEq, Int.reduceBNe, Int.reduceEq, Nat.reduceLeDiff, Nat.reduceMul, Nat.reduceLT, *, driftC]
    | simp (singlePass := true) (maxDischargeDepth := 99) only [*, S2, Nat.reduceLT, driftC])
      all_goals first
        | (refine CallsV.mono (driftBack (Nat.le_refl _) ((O1.1 _ FR).slN (f := driftC)) hLn.out) fun v w10 hh => ⟨hh.1, Own.more hh.2 z9⟩)
        | (refine CallsV.mono (driftPatch (Nat.le_refl _) (world_up2 (hY _ FR) (Nat.le_trans hBR z9)) (Own.slN (f := driftC) d2) hL.out.2.1 hL.out.2.2 hpy hKb) fun v w10 hh => ⟨hh.1, ?_⟩; obtain ⟨_, u0, rfl, ho⟩ := hh; rw [hQ.out] at ho ⊢; exact ⟨u0, rfl, ho.more z9⟩)
        | (exact ⟨u3, rfl, o3⟩)
        | (exact o4)
        | (rename_i b10 w10 n10 k10 s10 q10; exact ⟨⟨_, rfl, ⟨FR, FR⟩, fun _ => k10.2.1 _ k10.2.2.1, fun h => absurd h (by decide)⟩, fun b hb => by obtain rfl := Option.some.inj hb; exact FR⟩)
        | (
            refine stT_agg (w0 := w9) (vs := [h5, r5]) hz rfl KR rfl (by simp [H5, R5]) fun w10 hb10 hc => ⟨b7, hc, q7, ⟨b7, (by first | exact e7 | rfl), ⟨q7, Nat.lt_of_lt_of_le l7 hc.size⟩, fun h => absurd h (by decide), fun _ => ⟨h5, r5, hb10, oh5.fr hz hc (.inl (by decide)), or5.fr hz hc (.inl (by decide))⟩⟩, ?_⟩
            intro iI s v hne hN hR
            match iI, hN, hR with
            | 0, _, h | 1, _, h | 6, _, h | 8, _, h => exact h
            | 2, _, h => exact Own.fr h hz hc (.inl (by decide))
            | 3, _, h => exact (let ⟨u, e, o⟩ := h; ⟨u, e, ownW_fr o hz hc⟩)
            | 4, _, h => exact (let ⟨u, e, o⟩ := h; ⟨u, e, ownW_fr o hz hc⟩)
            | 5, _, h => exact ownW_fr h hz hc
            | 7, _, _ => exact absurd rfl hne)
    · intro g9 w9 hx9 hR hDis hag
      have s9 := hx9.st
      have n9 : Now w9 := trivial
      have r9 := Ext.refl w9
      have z9 := hx9.size
      have d6 : (g9 78) = intV 0 := hR 6 _ _ (by decide) rfl rfl
      have d7 : ∃ b, (g9 11) = .pointer (some ⟨b, 0, none⟩) ∧ (wR.heap.size ≤ b ∧ b < w9.heap.size) ∧ (true = false → Blk w9 b 25 [.slice none 0 0, .slice none 0 0]) ∧ (true = true → ∃ h r, Blk w9 b 25 [h, r] ∧ OwnH w9 wR.heap.size h x.hosts ∧ OwnP w9 wR.heap.size r x.replicas) := hR 7 _ _ (by decide) rfl rfl
      obtain ⟨b7, e7, ⟨q7, _⟩, _, f7⟩ := d7
      replace f7 := f7 rfl
      have nw7 := Nw.of q7
      obtain ⟨hA, rA, kwA, ohA, orA⟩ := f7
      have KWA := kwA.bk
      have HA := ohA.o
      have RA := orA.o
      clear kwA ohA orA
      have a2 := hag.at 2 KR
      have a3 := hag.at 3 KR
      have a5 := hag.at 5 KR
      have a7 := hag.at 7 KR
      have a9 := hag.at 9 KR
      have a10 := hag.at 10 KR
      simp only [S5, ↓reduceIte, Nat.reduceEqDiff, initF, *] at a2 a3 a5 a7 a9 a10
      clear hag hR hDis
      simp only [List.drop_succ_cons, List.drop_zero]
      (repeat' first
    | ((with_reducible refine at_row ?_); refine row1_a fun _ _ _ _ _ _ _ => ?_)
    | with_reducible first | (first | apply alloc_k | apply row_k); intro _ _ _ _ _ _ | (first | apply fork | apply forkp) <;> intro _ | refine forke (fun _ => ?_) fun _ _ => ?_ | refine tail_k fun _ _ _ => ?_ | refine ext_k fun _ _ _ => ?_ | refine need_a ?_ | refine st_agg KR rfl ON fun _ _ _ _ => ?_ | refine wpd_q_a ?_
    | simp (maxDischargeDepth := 3) only [↓X, ↓Y, ↓Q, S1, ↓reduceIte, Nat.reduceEqDiff, Nat.reduceAdd, Int.reduceLT, Int.reduceLE, Int.reduceNeg, Int.reduceBEq, Int.reduceBNe, Int.reduceEq, Nat.reduceLeDiff, Nat.reduceMul, Nat.reduceLT, *]
    | simp (singlePass := true) (maxDischargeDepth := 99) only [*, S2, Nat.reduceLT])
      refine ret_k (ref13Same (x := y) (y := y) (Nat.le_refl _) (Nat.le_refl _) (world_own (H3.1 _ FR) (R3.1 _ FR)) (world_up2 (hY _ FR) FR)) ?_
      intro w5 n5 s5
      rw [decide_eq_true rfl]
      (repeat' first
    | ((with_reducible refine at_row ?_); refine row1_a fun _ _ _ _ _ _ _ => ?_)
    | with_reducible first | (first | apply alloc_k | apply row_k); intro _ _ _ _ _ _ | (first | apply fork | apply forkp) <;> intro _ | refine forke (fun _ => ?_) fun _ _ => ?_ | refine tail_k fun _ _ _ => ?_ | refine ext_k fun _ _ _ => ?_ | refine need_a ?_ | refine st_agg KR rfl ON fun _ _ _ _ => ?_ | refine wpd_q_a ?_
    | simp (maxDischargeDepth := 3) only [↓X, ↓Y, ↓Q, S1, ↓reduceIte, Nat.reduceEqDiff, Nat.reduceAdd, Int.reduceLT, Int.reduceLE, Int.reduceNeg, Int.reduceBEq, Int.reduceBNe, Int.reduceEq, Nat.reduceLeDiff, Nat.reduceMul, Nat.reduceLT, *]
    | simp (singlePass := true) (maxDischargeDepth := 99) only [*, S2, Nat.reduceLT])
      refine ret_k (ref13Same (x := x) (y := x) (Nat.le_refl _) (Nat.le_refl _) (world_own (HA.1 _ FR) (RA.1 _ FR)) (world_up2 (hX _ FR) FR)) ?_
      intro w6 n6 s6
      rw [decide_eq_true rfl]
      (repeat' first
    | ((with_reducible refine at_row ?_); refine row1_a fun _ _ _ _ _ _ _ => ?_)
    | with_reducible first | (first | apply alloc_k | apply row_k); intro _ _ _ _ _ _ | (first | apply fork | apply forkp) <;> intro _ | refine forke (fun _ => ?_) fun _ _ => ?_ | refine tail_k fun _ _ _ => ?_ | refine ext_k fun _ _ _ => ?_ | refine need_a ?_ | refine st_agg KR rfl ON fun _ _ _ _ => ?_ | refine wpd_q_a ?_
    | simp (maxDischargeDepth := 3) only [↓X, ↓Y, ↓Q, S1, ↓reduceIte, Nat.reduceEqDiff, Nat.reduceAdd, Int.reduceLT, Int.reduceLE, Int.reduceNeg, Int.reduceBEq, Int.reduceBNe, Int.reduceEq, Nat.reduceLeDiff, Nat.reduceMul, Nat.reduceLT, *]
    | simp (singlePass := true) (maxDischargeDepth := 99) only [*, S2, Nat.reduceLT])
      · refine ret_k (ref13Same (x := x) (y := y) (Nat.le_refl _) (Nat.le_refl _) (world_up2 (hX _ FR) FR) (world_up2 (hY _ FR) FR)) ?_
        intro w7 n7 s7
        rw [← hnil.out]
        have e0 : decide (L = []) = decide ((L.length : Int) = 0) := by cases L <;> simp <;> omega
        rw [e0]
        (repeat' first
    | ((with_reducible refine at_row ?_); refine row1_a fun _ _ _ _ _ _ _ => ?_)
    | with_reducible first | (first | apply alloc_k | apply row_k); intro _ _ _ _ _ _ | (first | apply fork | apply forkp) <;> intro _ | refine forke (fun _ => ?_) fun _ _ => ?_ | refine tail_k fun _ _ _ => ?_ | refine ext_k fun _ _ _ => ?_ | refine need_a ?_ | refine st_agg KR rfl ON fun _ _ _ _ => ?_ | refine wpd_q_a ?_
    | ((with_reducible refine at_f 8 ?_); refine ret_k (lives30) fun _ _ _ => ?_)
    | simp (maxDischargeDepth := 3) only [↓X, ↓Y, ↓Q, S1, ↓reduceIte, Nat.reduceEqDiff, Nat.reduceAdd, Int.reduceLT, Int.reduceLE, Int.reduceNeg, Int.reduceBEq, Int.reduceBNe, Int.reduceEq, Nat.reduceLeDiff, Nat.reduceMul, Nat.reduceLT, *]
    | simp (singlePass := true) (maxDischargeDepth := 99) only [*, S2, Nat.reduceLT])
        rename_i hlt hne
        exfalso
        rw [hv2.out, ← hlen.out] at hne
        have e8 : ((L.length : Int) == 0) = decide ((L.length : Int) = 0) := by rw [Bool.eq_iff_iff]; simp
        rw [e8] at hne
        simp at hne
      · rename_i hlt hne
        exfalso
        have h9 := hv1.out
        have h8 := hv2.out
        have h7 := hlen.out
        omega
  · have hE : diffE x y = 1 := by rw [diffE, if_neg hok]
    have hE2 : diffE y x = 1 := by rw [← diffE_swap, hE]
    (refine callsV_of Try.func5 rfl KR KR ?_; rw [Try.results5])
    (repeat' first
    | ((with_reducible refine at_row ?_); refine row1_a fun _ _ _ _ _ _ _ => ?_)
    | with_reducible first | (first | apply alloc_k | apply row_k); intro _ _ _ _ _ _ | (first | apply fork | apply forkp) <;> intro _ | refine forke (fun _ => ?_) fun _ _ => ?_ | refine tail_k fun _ _ _ => ?_ | refine ext_k fun _ _ _ => ?_ | refine need_a ?_ | refine st_agg KR rfl ON fun _ _ _ _ => ?_ | refine wpd_q_a ?_
    | ((with_reducible refine at_f 7 ?_); refine ret_k (few30 (B := B) (x := x) FR (hX _ FR)) fun _ _ _ => ?_)
    | ((with_reducible refine at_f 7 ?_); refine ret_k (few30 (B := B) (x := y) FR (hY _ FR)) fun _ _ _ => ?_)
    | ((with_reducible refine at_f 13 ?_); refine ret_k (neg30B (B := B) (x := x) FR (hX _ FR)) fun _ _ _ => ?_)
    | ((with_reducible refine at_f 13 ?_); refine ret_k (neg30B (B := B) (x := y) FR (hY _ FR)) fun _ _ _ => ?_)
    | simp (maxDischargeDepth := 3) only [↓X, ↓Y, ↓Q, S1, ↓reduceIte, Nat.reduceEqDiff, Nat.reduceAdd, Int.reduceLT, Int.reduceLE, Int.reduceNeg, Int.reduceBEq, Int.reduceBNe, Int.reduceEq, Nat.reduceLeDiff, Nat.reduceMul, Nat.reduceLT, *]
    | simp (singlePass := true) (maxDischargeDepth := 99) only [*, S2, Nat.reduceLT])
    refine call_k (driftDiff (B := B) FR (hX _ FR) (hY _ FR) hL.out.1.1 hL.out.1.2 hL.out.2.2 hpx hpy) ?_
    rintro _ w1 n1 s1 ⟨v1, rfl, o1⟩
    rw [hE]
    have a1 := o1.one
    clear o1
    (repeat' first
    | ((with_reducible refine at_row ?_); refine row1_a fun _ _ _ _ _ _ _ => ?_)
    | with_reducible first | (first | apply alloc_k | apply row_k); intro _ _ _ _ _ _ | (first | apply fork | apply forkp) <;> intro _ | refine forke (fun _ => ?_) fun _ _ => ?_ | refine tail_k fun _ _ _ => ?_ | refine ext_k fun _ _ _ => ?_ | refine need_a ?_ | refine st_agg KR rfl ON fun _ _ _ _ => ?_ | refine wpd_q_a ?_
    | simp (maxDischargeDepth := 3) only [↓X, ↓Y, ↓Q, S1, ↓reduceIte, Nat.reduceEqDiff, Nat.reduceAdd, Int.reduceLT, Int.reduceLE, Int.reduceNeg, Int.reduceBEq, Int.reduceBNe, Int.reduceEq, Nat.reduceLeDiff, Nat.reduceMul, Nat.reduceLT, *]
    | simp (singlePass := true) (maxDischargeDepth := 99) only [*, S2, Nat.reduceLT])
    refine call_k (driftDiff (B := B) FR (hY _ FR) (hX _ FR) hL.out.2.1 hL.out.2.2 hL.out.1.2 hpy hpx) ?_
    rintro _ w2 n2 s2 ⟨v2, rfl, o2⟩
    rw [hE2]
    have a2 := o2.one
    clear o2
    (repeat' first
    | ((with_reducible refine at_row ?_); refine row1_a fun _ _ _ _ _ _ _ => ?_)
    | with_reducible first | (first | apply alloc_k | apply row_k); intro _ _ _ _ _ _ | (first | apply fork | apply forkp) <;> intro _ | refine forke (fun _ => ?_) fun _ _ => ?_ | refine tail_k fun _ _ _ => ?_ | refine ext_k fun _ _ _ => ?_ | refine need_a ?_ | refine st_agg KR rfl ON fun _ _ _ _ => ?_ | refine wpd_q_a ?_
    | ((with_reducible refine at_f 8 ?_); refine ret_k (lives30) fun _ _ _ => ?_)
    | simp (maxDischargeDepth := 3) only [↓X, ↓Y, ↓Q, S1, ↓reduceIte, Nat.reduceEqDiff, Nat.reduceAdd, Int.reduceLT, Int.reduceLE, Int.reduceNeg, Int.reduceBEq, Int.reduceBNe, Int.reduceEq, Nat.reduceLeDiff, Nat.reduceMul, Nat.reduceLT, *]
    | simp (singlePass := true) (maxDischargeDepth := 99) only [*, S2, Nat.reduceLT])
end
end Go.Proofs.Ytmcdgepfhpakiaa
