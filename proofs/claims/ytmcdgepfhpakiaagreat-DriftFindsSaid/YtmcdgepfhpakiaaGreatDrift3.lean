
/- The layer drift: Diff's second half. -/
import Derived.Test.YtmcdgepfhpakiaaGreatDrift2
namespace Go.Proofs.YtmcdgepfhpakiaaGreat
set_option linter.unusedSimpArgs false
set_option linter.unusedVariables false
open Go Go.RowKit
set_option maxRecDepth 100000
set_option linter.unusedSectionVars false
set_option maxHeartbeats 2000000
/-- What many adds leave: the box's row is longer by a list. -/
def RowI (bl B0 : Nat) (v : Value) (l : List DriftD) (w w' : World) : Prop :=
  ∃ v', Blk w' bl 83 [v'] ∧ OwnD w' B0 v' l ∧ (∀ b, v'.ownBlock = some b → v.ownBlock = some b ∨ w.heap.size ≤ b) ∧ TBn (fun b => b = bl ∨ v.ownBlock = some b) w w'
theorem RowI.trans {bl B0 : Nat} {v v1 : Value} {l1 : List DriftD} {w w1 w2 : World} (h1 : Blk w1 bl 83 [v1]) (h2 : ∀ b, v1.ownBlock = some b → v.ownBlock = some b ∨ w.heap.size ≤ b) (h3 : TBn (fun b => b = bl ∨ v.ownBlock = some b) w w1) (h : RowI bl B0 v1 l1 w1 w2) : RowI bl B0 v l1 w w2 := by
  obtain ⟨v', k, o, g, t⟩ := h
  refine ⟨v', k, o, fun b hb => ?_, ?_⟩
  · rcases g b hb with h4 | h4
    · exact h2 b h4
    · exact .inr (Nat.le_trans h3.size h4)
  · refine ⟨t.os.trans h3.os, t.tape.trans h3.tape, t.output.trans h3.output, Nat.le_trans h3.size t.size, fun b hb hn => (t.block b (Nat.lt_of_lt_of_le hb h3.size) ?_).trans (h3.block b hb hn)⟩
    rintro (rfl | h4)
    · exact hn (.inl rfl)
    · rcases h2 b h4 with h5 | h5
      · exact hn (.inr h5)
      · omega
theorem RowI.bl {bl B0 B : Nat} {v : Value} {l : List DriftD} {w w' : World} (h : RowI bl B0 v l w w') (hB : B ≤ w.heap.size) (h1 : B ≤ bl) (h2 : ∀ b, v.ownBlock = some b → B ≤ b) : Bl B w w' := by
  obtain ⟨v', _, _, _, t⟩ := h
  refine ⟨hB, t.os, t.tape, t.output, t.size, fun b hb => t.block b (by omega) ?_⟩
  rintro (rfl | h4)
  · omega
  · have := h2 b h4
    omega
theorem takeO {here there : List ReplicaD} {k : Nat} (h : k < here.length) : onlyL (here.take (k + 1)) there = onlyL (here.take k) there ++ (if hasB there here[k] = true then [] else [here[k]]) := by
  unfold onlyL
  rw [List.take_succ_eq_append_getElem h, List.filter_append]
  congr 1
  cases h9 : hasB there here[k] <;> simp [h9]
theorem lenO {l : List DriftD} {here there : List ReplicaD} {k : Nat} {kd : Int} (h : l.length + here.length < 999999999999) : (l ++ (onlyL (here.take k) there).map (mkD kd)).length + 1 < 1000000000000 := by
  have h1 := List.length_filter_le (fun p => !hasB there p) (here.take k)
  have h3 : (here.take k).length ≤ here.length := by rw [List.length_take]; omega
  unfold onlyL
  rw [List.length_append, List.length_map]
  omega
section
variable {w : World} {B B0 bl : Nat} {v hv tv : Value} {l : List DriftD} {here there : List ReplicaD} {kd : Int}
theorem driftDiff1 (hB : B ≤ w.heap.size) (hh : Sl w B (some 2) 2 hv (here.map replicaV)) (ht : Sl w B (some 2) 2 tv (there.map replicaV)) (hl : Blk w bl 83 [v]) (ho : OwnD w B0 v l) (hB0 : B0 ≤ w.heap.size) (hb1 : B ≤ bl) (hb2 : B ≤ B0) (hkd : kd = 1 ∨ kd = 2) (hlen : l.length + here.length < 999999999999) : CallsV Tryz.prog 35 #[.int .u8 kd, hv, tv, .pointer (some ⟨bl, 0, none⟩)] w fun _ w' => RowI bl B0 v (l ++ (onlyL here there).map (mkD kd)) w w' := by
  have hn : Now w := trivial
  have hx : Ext w w := Ext.refl w
  have hh' := hh.k hB
  have hmax := hh.max_
  have hvo : ∀ b, v.ownBlock = some b → B ≤ b := fun b hb => Nat.le_trans hb2 (ho.lt b hb).1
  (refine callsV_of Tryz.func35 rfl KR KR ?_; rw [Tryz.results35])
  (repeat' first
    | ((with_reducible refine at_row ?_); refine row1_a fun _ _ _ _ _ _ _ => ?_)
    | with_reducible first | (first | apply alloc_k | apply row_k); intro _ _ _ _ _ _ | (first | apply fork | apply forkp) <;> intro _ | refine forke (fun _ => ?_) fun _ _ => ?_ | refine tail_k fun _ _ _ => ?_ | refine ext_k fun _ _ _ => ?_ | refine need_a ?_ | refine st_agg KR rfl ON fun _ _ _ _ => ?_ | refine wpd_q_a ?_
    | simp (maxDischargeDepth := 3) only [↓X, ↓Y, ↓Q, S1, ↓reduceIte, Nat.reduceEqDiff, Nat.reduceAdd, Int.reduceLT, Int.reduceLE, Int.reduceNeg, Int.reduceBEq, Int.reduceBNe, Int.reduceEq, Nat.reduceLeDiff, Nat.reduceMul, Nat.reduceLT, *]
    | simp (singlePass := true) (maxDischargeDepth := 99) only [*, S2, Nat.reduceLT])
  have I0 : RowI bl B0 v (l ++ (onlyL (here.take 0) there).map (mkD kd)) w w := ⟨v, hl, by simpa [onlyL] using ho, fun b hb => .inl hb, TBn.refl w⟩
  replace I0 : Hid _ := I0
  replace hmax : Hid _ := hmax
  refine loop_g here.length (fun g0 k g w' => g 11 = .int .i64 (k : Int) ∧ (g 0 = g0 0 ∧ g 2 = g0 2 ∧ g 3 = g0 3 ∧ g 9 = g0 9 ∧ g 10 = g0 10) ∧ Hid (RowI bl B0 v (l ++ (onlyL (here.take k) there).map (mkD kd)) w w')) KR ?_ ?_ ?_
  · (repeat' first
    | ((with_reducible refine at_row ?_); refine row1_a fun _ _ _ _ _ _ _ => ?_)
    | with_reducible first | (first | apply alloc_k | apply row_k); intro _ _ _ _ _ _ | (first | apply fork | apply forkp) <;> intro _ | refine forke (fun _ => ?_) fun _ _ => ?_ | refine tail_k fun _ _ _ => ?_ | refine ext_k fun _ _ _ => ?_ | refine need_a ?_ | refine st_agg KR rfl ON fun _ _ _ _ => ?_ | refine wpd_q_a ?_
    | simp (maxDischargeDepth := 3) only [↓X, ↓Y, ↓Q, S1, ↓reduceIte, Nat.reduceEqDiff, Nat.reduceAdd, Int.reduceLT, Int.reduceLE, Int.reduceNeg, Int.reduceBEq, Int.reduceBNe, Int.reduceEq, Nat.reduceLeDiff, Nat.reduceMul, Nat.reduceLT, *]
    | simp (singlePass := true) (maxDischargeDepth := 99) only [*, S2, Nat.reduceLT])
    all_goals exact I0.out
  · rintro k m g wk hk hlt nk ⟨hi, hf, hp⟩
    simp (maxDischargeDepth := 3) only [U, ↓reduceIte, Nat.reduceEqDiff, *] at hf
    have hBk : Bl B w wk := hp.out.bl hB hb1 hvo
    obtain ⟨vk, hlk, hok, hgk, Tk⟩ := hp.out
    have hBw : B ≤ wk.heap.size := Nat.le_trans hB Tk.size
    have hw : IntKind.i64.wrap ((k : Int) + 1) = ((k + 1 : Nat) : Int) := by have := hmax.out; rw [wrap_i64_id] <;> omega
    have kl : Bk wk bl 83 [vk] := hlk.bk
    have rk : Ext wk wk := Ext.refl wk
    have bk : Bl wk.heap.size wk wk := Bl.refl (Nat.le_refl _)
    have hlt' : (k : Int) < (here.length : Int) := by omega
    have hT := ht.k hB
    have hTS := fun w' (h : Bl B w w') => ht.bl h
    (repeat' first
    | ((with_reducible refine at_row ?_); refine row1_a fun _ _ _ _ _ _ _ => ?_)
    | with_reducible first | (first | apply alloc_k | apply row_k); intro _ _ _ _ _ _ | (first | apply fork | apply forkp) <;> intro _ | refine forke (fun _ => ?_) fun _ _ => ?_ | refine tail_k fun _ _ _ => ?_ | refine ext_k fun _ _ _ => ?_ | refine need_a ?_ | refine st_agg KR rfl ON fun _ _ _ _ => ?_ | refine wpd_q_a ?_
    | ((with_reducible refine at_f 36 ?_); refine ret_k (slicesContainsReplica (B := B) (l := there) (r := here[k]) FR (hTS _ FR)) fun _ _ _ => ?_)
    | simp (maxDischargeDepth := 3) only [↓X, ↓Y, ↓Q, S1, ↓reduceIte, Nat.reduceEqDiff, Nat.reduceAdd, Int.reduceLT, Int.reduceLE, Int.reduceNeg, Int.reduceBEq, Int.reduceBNe, Int.reduceEq, Nat.reduceLeDiff, Nat.reduceMul, Nat.reduceLT, *, replicaV]
    | simp (singlePass := true) (maxDischargeDepth := 99) only [*, S2, Nat.reduceLT, replicaV])
    · rename_i bX wX nX kX sX qX wY nY kY sY wZ nZ sZ hno
      have hxE : Ext wk wZ := FR
      refine next_g hk hlt ?_
      (repeat' first
    | ((with_reducible refine at_row ?_); refine row1_a fun _ _ _ _ _ _ _ => ?_)
    | with_reducible first | (first | apply alloc_k | apply row_k); intro _ _ _ _ _ _ | (first | apply fork | apply forkp) <;> intro _ | refine forke (fun _ => ?_) fun _ _ => ?_ | refine tail_k fun _ _ _ => ?_ | refine ext_k fun _ _ _ => ?_ | refine need_a ?_ | refine st_agg KR rfl ON fun _ _ _ _ => ?_ | refine wpd_q_a ?_
    | simp (maxDischargeDepth := 3) only [↓X, ↓Y, ↓Q, S1, ↓reduceIte, Nat.reduceEqDiff, Nat.reduceAdd, Int.reduceLT, Int.reduceLE, Int.reduceNeg, Int.reduceBEq, Int.reduceBNe, Int.reduceEq, Nat.reduceLeDiff, Nat.reduceMul, Nat.reduceLT, *]
    | simp (singlePass := true) (maxDischargeDepth := 99) only [*, S2, Nat.reduceLT])
      have e2 := takeO (there := there) hlt
      rw [if_pos hno, List.append_nil] at e2
      refine ⟨vk, hlk.ext hxE, ?_, hgk, Tk.trans (TBn.of_ext hxE)⟩
      rw [e2]
      exact hok.ext hxE
    · rename_i bX wX nX kX sX qX wY nY kY sY wZ nZ sZ hno bR wR nR kR sR qR
      have hxE : Ext wk wR := FR
      have hbR : wk.heap.size ≤ bR := FR
      have kR' : Bk wR bR 64 (driftC (mkD kd here[k])) := kR
      have hrow : OwnD wR 0 (.slice (some ⟨bR, 0, none⟩) 1 1) [mkD kd here[k]] := Own.ofBlkN (by simp) (by simpa using kR'.2.1 _ FR) (by intro c hc; obtain rfl := List.mem_singleton.1 hc; rfl) (Nat.zero_le _) (by simp)
      have e2 := takeO (there := there) hlt
      rw [if_neg (by rw [hno]; decide)] at e2
      have hre : realB (mkD kd here[k]) = true := by rcases hkd with rfl | rfl <;> rfl
      have hlL := lenO (here := here) (there := there) (k := k) (kd := kd) hlen
      refine CallsV.mono (listAdd (B1 := 0) (hlk.ext hxE) (hok.ext hxE) (Nat.le_trans (Nat.le_trans hB0 Tk.size) hxE.size) hrow (fun b hb h2 => by obtain rfl := Option.some.inj hb; exact absurd (hok.lt _ h2).2 (Nat.not_lt.2 hbR)) hlL) ?_
      rintro _ w8 h8
      have F8 : Hid (RowI bl B0 v (l ++ (onlyL (here.take (k + 1)) there).map (mkD kd)) w w8) := by
        refine RowI.trans (hlk.ext hxE) hgk (Tk.trans (TBn.of_ext hxE)) ?_
        rw [e2]
        have h9 : RowI bl B0 vk _ wR w8 := h8
        simpa [hre] using h9
      clear h8 e2
      have n8 : Now w8 := trivial
      (repeat' first
    | ((with_reducible refine at_row ?_); refine row1_a fun _ _ _ _ _ _ _ => ?_)
    | with_reducible first | (first | apply alloc_k | apply row_k); intro _ _ _ _ _ _ | (first | apply fork | apply forkp) <;> intro _ | refine forke (fun _ => ?_) fun _ _ => ?_ | refine tail_k fun _ _ _ => ?_ | refine ext_k fun _ _ _ => ?_ | refine need_a ?_ | refine st_agg KR rfl ON fun _ _ _ _ => ?_ | refine wpd_q_a ?_
    | simp (maxDischargeDepth := 3) only [↓X, ↓Y, ↓Q, S1, ↓reduceIte, Nat.reduceEqDiff, Nat.reduceAdd, Int.reduceLT, Int.reduceLE, Int.reduceNeg, Int.reduceBEq, Int.reduceBNe, Int.reduceEq, Nat.reduceLeDiff, Nat.reduceMul, Nat.reduceLT, *]
    | simp (singlePass := true) (maxDischargeDepth := 99) only [*, S2, Nat.reduceLT])
      refine next_g hk hlt ?_
      (repeat' first
    | ((with_reducible refine at_row ?_); refine row1_a fun _ _ _ _ _ _ _ => ?_)
    | with_reducible first | (first | apply alloc_k | apply row_k); intro _ _ _ _ _ _ | (first | apply fork | apply forkp) <;> intro _ | refine forke (fun _ => ?_) fun _ _ => ?_ | refine tail_k fun _ _ _ => ?_ | refine ext_k fun _ _ _ => ?_ | refine need_a ?_ | refine st_agg KR rfl ON fun _ _ _ _ => ?_ | refine wpd_q_a ?_
    | simp (maxDischargeDepth := 3) only [↓X, ↓Y, ↓Q, S1, ↓reduceIte, Nat.reduceEqDiff, Nat.reduceAdd, Int.reduceLT, Int.reduceLE, Int.reduceNeg, Int.reduceBEq, Int.reduceBNe, Int.reduceEq, Nat.reduceLeDiff, Nat.reduceMul, Nat.reduceLT, *]
    | simp (singlePass := true) (maxDischargeDepth := 99) only [*, S2, Nat.reduceLT])
      all_goals exact F8.out
  · rintro g wk nk ⟨hi, hf, hp⟩
    simp (maxDischargeDepth := 3) only [U, ↓reduceIte, Nat.reduceEqDiff, *] at hf
    (repeat' first
    | ((with_reducible refine at_row ?_); refine row1_a fun _ _ _ _ _ _ _ => ?_)
    | with_reducible first | (first | apply alloc_k | apply row_k); intro _ _ _ _ _ _ | (first | apply fork | apply forkp) <;> intro _ | refine forke (fun _ => ?_) fun _ _ => ?_ | refine tail_k fun _ _ _ => ?_ | refine ext_k fun _ _ _ => ?_ | refine need_a ?_ | refine st_agg KR rfl ON fun _ _ _ _ => ?_ | refine wpd_q_a ?_
    | simp (maxDischargeDepth := 3) only [↓X, ↓Y, ↓Q, S1, ↓reduceIte, Nat.reduceEqDiff, Nat.reduceAdd, Int.reduceLT, Int.reduceLE, Int.reduceNeg, Int.reduceBEq, Int.reduceBNe, Int.reduceEq, Nat.reduceLeDiff, Nat.reduceMul, Nat.reduceLT, *]
    | simp (singlePass := true) (maxDischargeDepth := 99) only [*, S2, Nat.reduceLT])
    all_goals (have := hp.out; rw [List.take_length] at this; exact this)
end
end Go.Proofs.YtmcdgepfhpakiaaGreat
