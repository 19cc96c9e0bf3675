
/- The layer drift: list.add. -/
import Derived.Test.YtmcdgepfhpakiaaGreatDrift1
import Derived.Test.YtmcdgepfhpakiaaGreatRel3
namespace Go.Proofs.YtmcdgepfhpakiaaGreat
set_option linter.unusedSimpArgs false
set_option linter.unusedVariables false
open Go Go.RowKit
set_option maxRecDepth 100000
set_option linter.unusedSectionVars false
set_option maxHeartbeats 2000000
/-- A row of differences of one's own. -/
abbrev OwnD (w : World) (B : Nat) (v : Value) (l : List DriftD) : Prop := Own w B 64 5 v (l.map driftC)
theorem driftC_one (x : DriftD) : ∀ v ∈ driftC x, v.oneCell' = true := by
  intro v hv
  simp only [driftC, List.mem_cons, List.not_mem_nil, or_false] at hv
  rcases hv with rfl | rfl | rfl | rfl | rfl <;> rfl
theorem appD2 {w : World} {B b cp : Nat} {s : Value} {l : List DriftD} {k : Value → World → Prop} (x : DriftD) (hown : OwnD w B s l) (hb : Blk w b 64 (driftC x)) (hbound : l.length < 1000000000000) (hB : B ≤ w.heap.size)
    (hf : ∀ v' w', full s → Ext w w' → OwnD w' w.heap.size v' (l ++ [x]) → k v' w')
    (hr : ∀ g cp w', s = .slice (some ⟨g, 0, none⟩) l.length cp → l.length < cp → Chg w w' g → OwnD w' B (.slice (some ⟨g, 0, none⟩) (l.length + 1) cp) (l ++ [x]) → k (.slice (some ⟨g, 0, none⟩) (l.length + 1) cp) w') : appX Tryz.prog 83 83 83 s (.slice (some ⟨b, 0, none⟩) 1 cp) w k :=
  append_both (e := 64) (sz := 5) (by_ := 40) (z := .agg #[.int .u8 0, .int .i64 0, .int .i64 0, .int .i64 0, .int .i64 0]) (c := driftC) x KR KR rfl (by decide) (by decide) hown hb rfl (driftC_one x) hbound hB hf hr
/-- What add leaves: the box's row is longer by those that are differences. -/
def AddI (bl : Nat) (B0 : Nat) (v rv : Value) (l new : List DriftD) (w w' : World) (k : Nat) : Prop :=
  ∃ v', Blk w' bl 83 [v'] ∧ OwnD w' B0 v' (l ++ (new.take k).filter realB) ∧ (∀ b, v'.ownBlock = some b → v.ownBlock = some b ∨ w.heap.size ≤ b) ∧ TBn (fun b => b = bl ∨ v.ownBlock = some b) w w'
theorem AddI.row {bl B0 B1 : Nat} {v rv : Value} {l new : List DriftD} {w w' : World} {k : Nat} (h : AddI bl B0 v rv l new w w' k) (hl : Blk w bl 83 [v]) (hr : OwnD w B1 rv new) (hne : ∀ b, rv.ownBlock = some b → ¬ v.ownBlock = some b) : OwnD w' B1 rv new := by
  obtain ⟨v', _, _, _, T⟩ := h
  refine hr.keep fun b hb => T.block b (hr.lt b hb).2 ?_
  rintro (rfl | h2)
  · exact hr.ne hl (by decide) hb
  · exact hne b hb h2
theorem takeF {new : List DriftD} {k : Nat} (h : k < new.length) : (new.take (k + 1)).filter realB = (new.take k).filter realB ++ (if realB new[k] = true then [new[k]] else []) := by
  rw [List.take_succ_eq_append_getElem h, List.filter_append]
  simp only [List.filter_cons, List.filter_nil]
theorem lenF {l new : List DriftD} {k : Nat} (h : l.length + new.length < 1000000000000) : (l ++ (new.take k).filter realB).length < 1000000000000 := by
  have h1 := List.length_filter_le realB (new.take k)
  have h2 := List.length_take_le k new
  rw [List.length_append]
  have h3 : (new.take k).length ≤ new.length := by rw [List.length_take]; omega
  omega
theorem tbn_of {X : Nat → Prop} {w w' : World} (hb : Bl 0 w w') (h : ∀ b, b < w.heap.size → ¬ X b → Kp b w w') (hs : w.heap.size ≤ w'.heap.size) : TBn X w w' := ⟨hb.2.os, hb.2.tape, hb.2.output, hs, fun b hb' hn => (h b hb' hn).2⟩
theorem tbn_via {X X' : Nat → Prop} {wL wa we : World} (T : TBn X wL wa) (b0 : Bl 0 wa we) (key : ∀ c, c < wa.heap.size → ¬ X' c → Kp c wa we) (hX : ∀ c, c < wL.heap.size → ¬ X c → ¬ X' c) (hz : wa.heap.size ≤ we.heap.size) : TBn X wL we :=
  ⟨b0.2.os.trans T.os, b0.2.tape.trans T.tape, b0.2.output.trans T.output, Nat.le_trans T.size hz, fun b hb hn => (key b (Nat.lt_of_lt_of_le hb T.size) (hX b hb hn)).2.trans (T.block b hb hn)⟩
section
variable {w : World} {B0 B1 bl : Nat} {v rv : Value} {l new : List DriftD}
theorem listAdd (hl : Blk w bl 83 [v]) (ho : OwnD w B0 v l) (hB0 : B0 ≤ w.heap.size) (hr : OwnD w B1 rv new) (hne : ∀ b, rv.ownBlock = some b → ¬ v.ownBlock = some b) (hlen : l.length + new.length < 1000000000000) : CallsV Tryz.prog 34 #[.pointer (some ⟨bl, 0, none⟩), rv] w fun _ w' => AddI bl B0 v rv l new w w' new.length := by
  have hn : Now w := trivial
  have hx : Ext w w := Ext.refl w
  have R0 := hr.slN
  have hmax := R0.max_
  have RK := R0.k (Nat.le_refl _)
  (refine callsV_of Tryz.func34 rfl KR KR ?_; rw [Tryz.results34])
  (repeat' first
    | ((with_reducible refine at_row ?_); refine row1_a fun _ _ _ _ _ _ _ => ?_)
    | with_reducible first | (first | apply alloc_k | apply row_k); intro _ _ _ _ _ _ | (first | apply fork | apply forkp) <;> intro _ | refine forke (fun _ => ?_) fun _ _ => ?_ | refine tail_k fun _ _ _ => ?_ | refine ext_k fun _ _ _ => ?_ | refine need_a ?_ | refine st_agg KR rfl ON fun _ _ _ _ => ?_ | refine wpd_q_a ?_
    | simp (maxDischargeDepth := 3) only [↓X, ↓Y, ↓Q, S1, ↓reduceIte, Nat.reduceEqDiff, Nat.reduceAdd, Int.reduceLT, Int.reduceLE, Int.reduceNeg, Int.reduceBEq, Int.reduceBNe, Int.reduceEq, Nat.reduceLeDiff, Nat.reduceMul, Nat.reduceLT, *]
    | simp (singlePass := true) (maxDischargeDepth := 99) only [*, S2, Nat.reduceLT])
  have I0 : AddI bl B0 v rv l new w w 0 := ⟨v, hl, by simpa using ho, fun b hb => .inl hb, TBn.refl w⟩
  replace I0 : Hid _ := I0
  replace hmax : Hid _ := hmax
  refine loop_g new.length (fun g0 k g w' => g 8 = .int .i64 (k : Int) ∧ (g 0 = g0 0 ∧ g 6 = g0 6 ∧ g 7 = g0 7) ∧ Hid (AddI bl B0 v rv l new w w' k)) KR ?_ ?_ ?_
  · (repeat' first
    | ((with_reducible refine at_row ?_); refine row1_a fun _ _ _ _ _ _ _ => ?_)
    | with_reducible first | (first | apply alloc_k | apply row_k); intro _ _ _ _ _ _ | (first | apply fork | apply forkp) <;> intro _ | refine forke (fun _ => ?_) fun _ _ => ?_ | refine tail_k fun _ _ _ => ?_ | refine ext_k fun _ _ _ => ?_ | refine need_a ?_ | refine st_agg KR rfl ON fun _ _ _ _ => ?_ | refine wpd_q_a ?_
    | simp (maxDischargeDepth := 3) only [↓X, ↓Y, ↓Q, S1, ↓reduceIte, Nat.reduceEqDiff, Nat.reduceAdd, Int.reduceLT, Int.reduceLE, Int.reduceNeg, Int.reduceBEq, Int.reduceBNe, Int.reduceEq, Nat.reduceLeDiff, Nat.reduceMul, Nat.reduceLT, *]
    | simp (singlePass := true) (maxDischargeDepth := 99) only [*, S2, Nat.reduceLT])
    all_goals exact I0.out
  · rintro k m g wk hk hlt nk ⟨hi, hf, hp⟩
    simp (maxDischargeDepth := 3) only [U, ↓reduceIte, Nat.reduceEqDiff, *] at hf
    have hrk := hp.out.row hl hr hne
    obtain ⟨vk, hlk, hok, hgk, Tk⟩ := hp.out
    have hw : IntKind.i64.wrap ((k : Int) + 1) = ((k + 1 : Nat) : Int) := by have := hmax.out; rw [wrap_i64_id] <;> omega
    have RK := hrk.slN.k (Nat.le_refl _)
    have kl : Bk wk bl 83 [vk] := hlk.bk
    have rk : Ext wk wk := Ext.refl wk
    have bk : Bl wk.heap.size wk wk := Bl.refl (Nat.le_refl _)
    have hlt' : (k : Int) < (new.length : Int) := by omega
    have done9 : new[k].kind = 1 ∨ new[k].kind = 2 ∨ ¬ new[k].was = new[k].is → realB new[k] = true := fun h => by
      rcases h with h | h | h <;> simp [realB, h]
    replace done9 : Hid _ := done9
    (repeat' first
    | ((with_reducible refine wpd_at 4 ?_); refine wpd_hold ?_)
    | ((with_reducible refine at_row ?_); refine row1_a fun _ _ _ _ _ _ _ => ?_)
    | with_reducible first | (first | apply alloc_k | apply row_k); intro _ _ _ _ _ _ | (first | apply fork | apply forkp) <;> intro _ | refine forke (fun _ => ?_) fun _ _ => ?_ | refine tail_k fun _ _ _ => ?_ | refine ext_k fun _ _ _ => ?_ | refine need_a ?_ | refine st_agg KR rfl ON fun _ _ _ _ => ?_ | refine wpd_q_a ?_
    | simp (maxDischargeDepth := 3) only [↓X, ↓Y, ↓Q, S1, ↓reduceIte, Nat.reduceEqDiff, Nat.reduceAdd, Int.reduceLT, Int.reduceLE, Int.reduceNeg, Int.reduceBEq, Int.reduceBNe, Int.reduceEq, Nat.reduceLeDiff, Nat.reduceMul, Nat.reduceLT, *, driftC]
    | simp (singlePass := true) (maxDischargeDepth := 99) only [*, S2, Nat.reduceLT, driftC])
    all_goals first
      | (rename_i bX wX nX kX sX qX wY nY kY sY c1; have KY : Bk wY bX 64 (driftC new[k]) := kY; have hreal := done9.out (.inl c1); clear kY c1 done9 hp)
      | (rename_i bX wX nX kX sX qX wY nY kY sY _ _ c1; have KY : Bk wY bX 64 (driftC new[k]) := kY; have hreal := done9.out (.inr (.inl c1)); clear kY c1 done9 hp)
      | (rename_i bX wX nX kX sX qX wY nY kY sY _ _ _ _ _ c1; have KY : Bk wY bX 64 (driftC new[k]) := kY; have hreal := done9.out (.inr (.inr c1)); clear kY c1 done9 hp)
      | (rename_i bX wX nX kX sX qX wY nY kY sY _ c2 _ c3 c1; have KY : Bk wY bX 64 (driftC new[k]) := kY; have hreal : realB new[k] = false := by simp [realB, c1, c2, c3])
    all_goals
      have hxY : Ext wk wY := FR
      have eL := takeF hlt
      rw [hreal] at eL
    rotate_left 2
    · refine next_g hk hlt ?_
      (repeat' first
    | ((with_reducible refine at_row ?_); refine row1_a fun _ _ _ _ _ _ _ => ?_)
    | with_reducible first | (first | apply alloc_k | apply row_k); intro _ _ _ _ _ _ | (first | apply fork | apply forkp) <;> intro _ | refine forke (fun _ => ?_) fun _ _ => ?_ | refine tail_k fun _ _ _ => ?_ | refine ext_k fun _ _ _ => ?_ | refine need_a ?_ | refine st_agg KR rfl ON fun _ _ _ _ => ?_ | refine wpd_q_a ?_
    | simp (maxDischargeDepth := 3) only [↓X, ↓Y, ↓Q, S1, ↓reduceIte, Nat.reduceEqDiff, Nat.reduceAdd, Int.reduceLT, Int.reduceLE, Int.reduceNeg, Int.reduceBEq, Int.reduceBNe, Int.reduceEq, Nat.reduceLeDiff, Nat.reduceMul, Nat.reduceLT, *]
    | simp (singlePass := true) (maxDischargeDepth := 99) only [*, S2, Nat.reduceLT])
      refine ⟨vk, hlk.ext hxY, ?_, hgk, Tk.trans (TBn.of_ext hxY)⟩
      have e2 : (new.take (k + 1)).filter realB = (new.take k).filter realB := by simpa using eL
      rw [e2]
      exact hok.ext hxY
    all_goals
      have ownY : OwnD wY B0 vk (l ++ (new.take k).filter realB) := hok.ext hxY
      have hbd : Hid ((l ++ (new.take k).filter realB).length < 1000000000000) := lenF hlen
      have A6 := ownY.o
      have kl : Bk wY bl 83 [vk] := (hlk.ext hxY).bk
      have hwY : w.heap.size ≤ wY.heap.size := Nat.le_trans Tk.size hxY.size
      have hBY : B0 ≤ wY.heap.size := Nat.le_trans hB0 hwY
      rcases ownY.room with hfull | ⟨gg, cp, hve, hroom, hBg, hgl⟩
      · replace hfull : Hid _ := hfull
        unfold wpdH
        refine wpd_rel 8 (fun iI v w9 => match iI with
          | 0 => v = .pointer (some ⟨bl, 0, none⟩)
          | 1 => v = .pointer (some ⟨bl, 0, none⟩)
          | 2 => v = .pointer (some ⟨bl, 0, none⟩)
          | 3 => v = vk
          | 4 => v = .agg (driftC new[k]).toArray
          | 5 => ∃ b, v = .slice (some ⟨b, 0, none⟩) 1 1 ∧ Blk w9 b 64 (driftC new[k]) ∧ wY.heap.size ≤ b
          | 6 => OwnD w9 wY.heap.size v ((l ++ (new.take k).filter realB) ++ [new[k]])
          | 7 => v = .pointer (some ⟨bl, 0, none⟩)
          | _ => False) KR KR KR ?_ ?_ ?_
        · intro iI v w1 w2 hR hx9
          match iI, hR with
          | 0, h => exact h
          | 1, h => exact h
          | 2, h => exact h
          | 3, h => exact h
          | 4, h => exact h
          | 5, ⟨b, e, h1, h2⟩ => exact ⟨b, e, h1.ext hx9, h2⟩
          | 6, h => exact Own.ext h hx9
          | 7, h => exact h
        · intro iI oO hi ho gF w9 hx9 hdep hag
          have s9 := hx9.st
          have n9 : Now w9 := trivial
          have r9 := Ext.refl w9
          have z9 := hx9.size
          rcases iI with _|_|_|_|_|_|_|_|iI
          · have e := Option.some.inj ho
            subst e
            have a0 := hag.at 0 KR
            simp only [S5, ↓reduceIte, Nat.reduceEqDiff, initF, *] at a0
            clear hag hdep ho
            refine relStep_off rfl ?_
            (repeat' first
    | ((with_reducible refine at_row ?_); refine row1_a fun _ _ _ _ _ _ _ => ?_)
    | with_reducible first | (first | apply alloc_k | apply row_k); intro _ _ _ _ _ _ | (first | apply fork | apply forkp) <;> intro _ | refine forke (fun _ => ?_) fun _ _ => ?_ | refine tail_k fun _ _ _ => ?_ | refine ext_k fun _ _ _ => ?_ | refine need_a ?_ | refine st_agg KR rfl ON fun _ _ _ _ => ?_ | refine wpd_q_a ?_
    | simp (maxDischargeDepth := 3) only [↓X, ↓Y, ↓Q, S1, ↓reduceIte, Nat.reduceEqDiff, Nat.reduceAdd, Int.reduceLT, Int.reduceLE, Int.reduceNeg, Int.reduceBEq, Int.reduceBNe, Int.reduceEq, Nat.reduceLeDiff, Nat.reduceMul, Nat.reduceLT, *, driftC]
    | simp (singlePass := true) (maxDischargeDepth := 99) only [*, S2, Nat.reduceLT, driftC])
          · have e := Option.some.inj ho
            subst e
            have a0 := hag.at 0 KR
            simp only [S5, ↓reduceIte, Nat.reduceEqDiff, initF, *] at a0
            clear hag hdep ho
            refine relStep_off rfl ?_
            (repeat' first
    | ((with_reducible refine at_row ?_); refine row1_a fun _ _ _ _ _ _ _ => ?_)
    | with_reducible first | (first | apply alloc_k | apply row_k); intro _ _ _ _ _ _ | (first | apply fork | apply forkp) <;> intro _ | refine forke (fun _ => ?_) fun _ _ => ?_ | refine tail_k fun _ _ _ => ?_ | refine ext_k fun _ _ _ => ?_ | refine need_a ?_ | refine st_agg KR rfl ON fun _ _ _ _ => ?_ | refine wpd_q_a ?_
    | simp (maxDischargeDepth := 3) only [↓X, ↓Y, ↓Q, S1, ↓reduceIte, Nat.reduceEqDiff, Nat.reduceAdd, Int.reduceLT, Int.reduceLE, Int.reduceNeg, Int.reduceBEq, Int.reduceBNe, Int.reduceEq, Nat.reduceLeDiff, Nat.reduceMul, Nat.reduceLT, *, driftC]
    | simp (singlePass := true) (maxDischargeDepth := 99) only [*, S2, Nat.reduceLT, driftC])
          · have e := Option.some.inj ho
            subst e
            have d1 : (gF 28) = .pointer (some ⟨bl, 0, none⟩) := hdep ⟨1, .data⟩ (by simp) rfl _ _ rfl rfl
            clear hag hdep ho
            refine relStep_off rfl ?_
            (repeat' first
    | ((with_reducible refine at_row ?_); refine row1_a fun _ _ _ _ _ _ _ => ?_)
    | with_reducible first | (first | apply alloc_k | apply row_k); intro _ _ _ _ _ _ | (first | apply fork | apply forkp) <;> intro _ | refine forke (fun _ => ?_) fun _ _ => ?_ | refine tail_k fun _ _ _ => ?_ | refine ext_k fun _ _ _ => ?_ | refine need_a ?_ | refine st_agg KR rfl ON fun _ _ _ _ => ?_ | refine wpd_q_a ?_
    | simp (maxDischargeDepth := 3) only [↓X, ↓Y, ↓Q, S1, ↓reduceIte, Nat.reduceEqDiff, Nat.reduceAdd, Int.reduceLT, Int.reduceLE, Int.reduceNeg, Int.reduceBEq, Int.reduceBNe, Int.reduceEq, Nat.reduceLeDiff, Nat.reduceMul, Nat.reduceLT, *, driftC]
    | simp (singlePass := true) (maxDischargeDepth := 99) only [*, S2, Nat.reduceLT, driftC])
          · have e := Option.some.inj ho
            subst e
            have d2 : (gF 29) = .pointer (some ⟨bl, 0, none⟩) := hdep ⟨2, .data⟩ (by simp) rfl _ _ rfl rfl
            clear hag hdep ho
            refine relStep_off rfl ?_
            (repeat' first
    | ((with_reducible refine at_row ?_); refine row1_a fun _ _ _ _ _ _ _ => ?_)
    | with_reducible first | (first | apply alloc_k | apply row_k); intro _ _ _ _ _ _ | (first | apply fork | apply forkp) <;> intro _ | refine forke (fun _ => ?_) fun _ _ => ?_ | refine tail_k fun _ _ _ => ?_ | refine ext_k fun _ _ _ => ?_ | refine need_a ?_ | refine st_agg KR rfl ON fun _ _ _ _ => ?_ | refine wpd_q_a ?_
    | simp (maxDischargeDepth := 3) only [↓X, ↓Y, ↓Q, S1, ↓reduceIte, Nat.reduceEqDiff, Nat.reduceAdd, Int.reduceLT, Int.reduceLE, Int.reduceNeg, Int.reduceBEq, Int.reduceBNe, Int.reduceEq, Nat.reduceLeDiff, Nat.reduceMul, Nat.reduceLT, *, driftC]
    | simp (singlePass := true) (maxDischargeDepth := 99) only [*, S2, Nat.reduceLT, driftC])
          · have e := Option.some.inj ho
            subst e
            have a5 := hag.at 5 KR
            simp only [S5, ↓reduceIte, Nat.reduceEqDiff, initF, *] at a5
            clear hag hdep ho
            refine relStep_off rfl ?_
            (repeat' first
    | ((with_reducible refine at_row ?_); refine row1_a fun _ _ _ _ _ _ _ => ?_)
    | with_reducible first | (first | apply alloc_k | apply row_k); intro _ _ _ _ _ _ | (first | apply fork | apply forkp) <;> intro _ | refine forke (fun _ => ?_) fun _ _ => ?_ | refine tail_k fun _ _ _ => ?_ | refine ext_k fun _ _ _ => ?_ | refine need_a ?_ | refine st_agg KR rfl ON fun _ _ _ _ => ?_ | refine wpd_q_a ?_
    | simp (maxDischargeDepth := 3) only [↓X, ↓Y, ↓Q, S1, ↓reduceIte, Nat.reduceEqDiff, Nat.reduceAdd, Int.reduceLT, Int.reduceLE, Int.reduceNeg, Int.reduceBEq, Int.reduceBNe, Int.reduceEq, Nat.reduceLeDiff, Nat.reduceMul, Nat.reduceLT, *, driftC]
    | simp (singlePass := true) (maxDischargeDepth := 99) only [*, S2, Nat.reduceLT, driftC])
          · have e := Option.some.inj ho
            subst e
            have d4 : (gF 31) = .agg (driftC new[k]).toArray := hdep ⟨4, .data⟩ (by simp) rfl _ _ rfl rfl
            clear hag hdep ho
            refine relStep_off rfl ?_
            (repeat' first
    | ((with_reducible refine at_row ?_); refine row1_a fun _ _ _ _ _ _ _ => ?_)
    | with_reducible first | (first | apply alloc_k | apply row_k); intro _ _ _ _ _ _ | (first | apply fork | apply forkp) <;> intro _ | refine forke (fun _ => ?_) fun _ _ => ?_ | refine tail_k fun _ _ _ => ?_ | refine ext_k fun _ _ _ => ?_ | refine need_a ?_ | refine st_agg KR rfl ON fun _ _ _ _ => ?_ | refine wpd_q_a ?_
    | simp (maxDischargeDepth := 3) only [↓X, ↓Y, ↓Q, S1, ↓reduceIte, Nat.reduceEqDiff, Nat.reduceAdd, Int.reduceLT, Int.reduceLE, Int.reduceNeg, Int.reduceBEq, Int.reduceBNe, Int.reduceEq, Nat.reduceLeDiff, Nat.reduceMul, Nat.reduceLT, *, driftC]
    | simp (singlePass := true) (maxDischargeDepth := 99) only [*, S2, Nat.reduceLT, driftC])
            first
              | (rename_i b10 w10 n10 k10 s10 q10; exact ⟨_, rfl, k10.2.1 _ k10.2.2.1, FR⟩)
              | (rename_i b10 w10 n10 k10 s10 q10 l10; exact ⟨_, rfl, k10.2.1 _ k10.2.2.1, FR⟩)
          · have e := Option.some.inj ho
            subst e
            have d3 : (gF 30) = vk := hdep ⟨3, .data⟩ (by simp) rfl _ _ rfl rfl
            have d5 : ∃ b, (gF 32) = .slice (some ⟨b, 0, none⟩) 1 1 ∧ Blk w9 b 64 (driftC new[k]) ∧ wY.heap.size ≤ b := hdep ⟨5, .data⟩ (by simp) rfl _ _ rfl rfl
            obtain ⟨b5, e5, hb5, q5⟩ := d5
            have k5 := hb5.bk
            have nw5 := Nw.of q5
            clear hag hdep ho
            refine relStep_off rfl ?_
            (repeat' first
    | ((with_reducible refine at_row ?_); refine row1_a fun _ _ _ _ _ _ _ => ?_)
    | with_reducible first | (first | apply alloc_k | apply row_k); intro _ _ _ _ _ _ | (first | apply fork | apply forkp) <;> intro _ | refine forke (fun _ => ?_) fun _ _ => ?_ | refine tail_k fun _ _ _ => ?_ | refine ext_k fun _ _ _ => ?_ | refine need_a ?_ | refine st_agg KR rfl ON fun _ _ _ _ => ?_ | refine wpd_q_a ?_
    | simp (maxDischargeDepth := 3) only [↓X, ↓Y, ↓Q, S1, ↓reduceIte, Nat.reduceEqDiff, Nat.reduceAdd, Int.reduceLT, Int.reduceLE, Int.reduceNeg, Int.reduceBEq, Int.reduceBNe, Int.reduceEq, Nat.reduceLeDiff, Nat.reduceMul, Nat.reduceLT, *, driftC]
    | simp (singlePass := true) (maxDischargeDepth := 99) only [*, S2, Nat.reduceLT, driftC])
            refine appD2 new[k] (A6.1 _ FR) (k5.2.1 _ FR) hbd.out FR (fun v' w' _ hx ho => ⟨hx, ho.more z9⟩) (fun g' cp' w' he hlt _ _ => absurd hfull.out (by rw [he]; exact full_not hlt))
          · have e := Option.some.inj ho
            subst e
            have d0 : (gF 27) = .pointer (some ⟨bl, 0, none⟩) := hdep ⟨0, .data⟩ (by simp) rfl _ _ rfl rfl
            clear hag hdep ho
            refine relStep_off rfl ?_
            (repeat' first
    | ((with_reducible refine at_row ?_); refine row1_a fun _ _ _ _ _ _ _ => ?_)
    | with_reducible first | (first | apply alloc_k | apply row_k); intro _ _ _ _ _ _ | (first | apply fork | apply forkp) <;> intro _ | refine forke (fun _ => ?_) fun _ _ => ?_ | refine tail_k fun _ _ _ => ?_ | refine ext_k fun _ _ _ => ?_ | refine need_a ?_ | refine st_agg KR rfl ON fun _ _ _ _ => ?_ | refine wpd_q_a ?_
    | simp (maxDischargeDepth := 3) only [↓X, ↓Y, ↓Q, S1, ↓reduceIte, Nat.reduceEqDiff, Nat.reduceAdd, Int.reduceLT, Int.reduceLE, Int.reduceNeg, Int.reduceBEq, Int.reduceBNe, Int.reduceEq, Nat.reduceLeDiff, Nat.reduceMul, Nat.reduceLT, *, driftC]
    | simp (singlePass := true) (maxDischargeDepth := 99) only [*, S2, Nat.reduceLT, driftC])
          · omega
        · intro g9 w9 hx9 hR hag
          have s9 := hx9.st
          have n9 : Now w9 := trivial
          have r9 := Ext.refl w9
          have z9 := hx9.size
          have d6 : OwnD w9 wY.heap.size (g9 33) ((l ++ (new.take k).filter realB) ++ [new[k]]) := hR 6 _ _ (by decide) rfl rfl
          have A9 := d6.o
          have d7 : (g9 34) = .pointer (some ⟨bl, 0, none⟩) := hR 7 _ _ (by decide) rfl rfl
          have a0 := hag.at 0 KR
          have a6 := hag.at 6 KR
          have a7 := hag.at 7 KR
          have a8 := hag.at 8 KR
          simp only [S5, ↓reduceIte, Nat.reduceEqDiff, initF, *] at a0 a6 a7 a8
          clear hag hR
          simp only [List.drop_succ_cons, List.drop_zero]
          (repeat' first
    | ((with_reducible refine at_row ?_); refine row1_a fun _ _ _ _ _ _ _ => ?_)
    | with_reducible first | (first | apply alloc_k | apply row_k); intro _ _ _ _ _ _ | (first | apply fork | apply forkp) <;> intro _ | refine forke (fun _ => ?_) fun _ _ => ?_ | refine tail_k fun _ _ _ => ?_ | refine ext_k fun _ _ _ => ?_ | refine need_a ?_ | refine st_agg KR rfl ON fun _ _ _ _ => ?_ | refine wpd_q_a ?_
    | simp (maxDischargeDepth := 3) only [↓X, ↓Y, ↓Q, S1, ↓reduceIte, Nat.reduceEqDiff, Nat.reduceAdd, Int.reduceLT, Int.reduceLE, Int.reduceNeg, Int.reduceBEq, Int.reduceBNe, Int.reduceEq, Nat.reduceLeDiff, Nat.reduceMul, Nat.reduceLT, *, driftC]
    | simp (singlePass := true) (maxDischargeDepth := 99) only [*, S2, Nat.reduceLT, driftC])
          refine st_one (i := 0) KR (by simp) A9.2.2.2.1 fun w8 n8 k8 s8 => ?_
          have F8 : Hid (AddI bl B0 v rv l new w w8 (k + 1)) := by
            refine ⟨g9 33, k8.2.1 _ FR, ?_, fun b hb => .inr (Nat.le_trans hwY (d6.lt b hb).1), (Tk.trans (TBn.of_ext (hxY.trans hx9))).trans ?_⟩
            · rw [eL, if_pos rfl, ← List.append_assoc]
              exact (A9.1 w8 FR).more hBY
            · have h0 : Bl 0 w9 w9 := Bl.refl (Nat.zero_le _)
              have h00 : 0 ≤ bl := Nat.zero_le _
              refine tbn_of FR (fun c h1 h2 => ?_) FR
              have h3 : Kp c w9 w9 := ⟨h1, rfl⟩
              have h4 : ¬ c = bl := fun e => h2 (.inl e)
              exact FR
          (repeat' first
    | ((with_reducible refine at_row ?_); refine row1_a fun _ _ _ _ _ _ _ => ?_)
    | with_reducible first | (first | apply alloc_k | apply row_k); intro _ _ _ _ _ _ | (first | apply fork | apply forkp) <;> intro _ | refine forke (fun _ => ?_) fun _ _ => ?_ | refine tail_k fun _ _ _ => ?_ | refine ext_k fun _ _ _ => ?_ | refine need_a ?_ | refine st_agg KR rfl ON fun _ _ _ _ => ?_ | refine wpd_q_a ?_
    | simp (maxDischargeDepth := 3) only [↓X, ↓Y, ↓Q, S1, ↓reduceIte, Nat.reduceEqDiff, Nat.reduceAdd, Int.reduceLT, Int.reduceLE, Int.reduceNeg, Int.reduceBEq, Int.reduceBNe, Int.reduceEq, Nat.reduceLeDiff, Nat.reduceMul, Nat.reduceLT, *]
    | simp (singlePass := true) (maxDischargeDepth := 99) only [*, S2, Nat.reduceLT])
          refine next_g hk hlt ?_
          (repeat' first
    | ((with_reducible refine at_row ?_); refine row1_a fun _ _ _ _ _ _ _ => ?_)
    | with_reducible first | (first | apply alloc_k | apply row_k); intro _ _ _ _ _ _ | (first | apply fork | apply forkp) <;> intro _ | refine forke (fun _ => ?_) fun _ _ => ?_ | refine tail_k fun _ _ _ => ?_ | refine ext_k fun _ _ _ => ?_ | refine need_a ?_ | refine st_agg KR rfl ON fun _ _ _ _ => ?_ | refine wpd_q_a ?_
    | simp (maxDischargeDepth := 3) only [↓X, ↓Y, ↓Q, S1, ↓reduceIte, Nat.reduceEqDiff, Nat.reduceAdd, Int.reduceLT, Int.reduceLE, Int.reduceNeg, Int.reduceBEq, Int.reduceBNe, Int.reduceEq, Nat.reduceLeDiff, Nat.reduceMul, Nat.reduceLT, *]
    | simp (singlePass := true) (maxDischargeDepth := 99) only [*, S2, Nat.reduceLT])
          all_goals exact F8.out
      · simp only [List.length_map] at hve hroom
        subst hve
        have hg1 : ¬ bl = gg ∧ ¬ gg = bl := by
          have h1 := ownY.ne (hlk.ext hxY) (by decide)
          exact ⟨fun e => h1 (by rw [e]; rfl), fun e => h1 (by rw [e]; rfl)⟩
        have hgX : ¬ bX = gg ∧ ¬ gg = bX := by have h1 := (hok.lt gg rfl).2; have h2 : wk.heap.size ≤ bX := FR; omega
        have hgw := hgk gg rfl
        have TY := Tk.trans (TBn.of_ext hxY)
        clear hok hgk Tk A6
        have hRB : ∀ b ∈ [gg], b < wY.heap.size := by simp only [List.mem_cons, List.not_mem_nil, or_false, forall_eq_or_imp, forall_eq]; exact FR
        unfold wpdH
        refine wpd_relL 8 [gg] [(6, gg)] rfl (fun iI v w9 => match iI with
          | 0 => v = .pointer (some ⟨bl, 0, none⟩)
          | 1 => v = .pointer (some ⟨bl, 0, none⟩)
          | 2 => v = .pointer (some ⟨bl, 0, none⟩)
          | 3 => v = .slice (some ⟨gg, 0, none⟩) (l ++ (new.take k).filter realB).length cp
          | 4 => v = .agg (driftC new[k]).toArray
          | 5 => ∃ b, v = .slice (some ⟨b, 0, none⟩) 1 1 ∧ Blk w9 b 64 (driftC new[k]) ∧ wY.heap.size ≤ b
          | 6 => (v = .slice (some ⟨gg, 0, none⟩) ((l ++ (new.take k).filter realB).length + 1) cp ∧ OwnD w9 B0 v ((l ++ (new.take k).filter realB) ++ [new[k]]))
          | 7 => v = .pointer (some ⟨bl, 0, none⟩)
          | _ => False) KR KR KR hRB (by simp only [List.nodup_cons, List.mem_cons, List.not_mem_nil, or_false, not_or, List.nodup_nil, not_false_eq_true, and_true] <;> exact FR) ?_ ?_ ?_
        · intro iI v w1 w2 hR hx9
          match iI, hR with
          | 0, h => exact h
          | 1, h => exact h
          | 2, h => exact h
          | 3, h => exact h
          | 4, h => exact h
          | 5, ⟨b, e, h1, h2⟩ => exact ⟨b, e, h1.tb hx9 (fun hX => by have := hRB b hX.1; omega), h2⟩
          | 6, h => exact ⟨h.1, Own.tbg h.2 hx9 (fun b hb hX => by rw [h.1] at hb; obtain rfl := Option.some.inj hb; exact hX.2 rfl)⟩
          | 7, h => exact h
        · intro iI oO hi ho gF w9 hx9 hdep hag hun
          have s9 := hx9.sb
          simp only [Sb, List.mem_cons, List.not_mem_nil, or_false, forall_eq_or_imp, forall_eq] at s9
          have n9 : Now w9 := trivial
          have r9 := Ext.refl w9
          have z9 := hx9.size
          rcases iI with _|_|_|_|_|_|_|_|iI
          have e := Option.some.inj ho
          subst e
          have a0 := hag.at 0 KR
          simp only [S5, ↓reduceIte, Nat.reduceEqDiff, initF, *] at a0
          clear hag hdep ho hun
          refine ⟨fun _ => ?_, fun b hb => by simp [bkL] at hb⟩
          refine relStep_off rfl ?_
          rotate_left
          have e := Option.some.inj ho
          subst e
          have a0 := hag.at 0 KR
          simp only [S5, ↓reduceIte, Nat.reduceEqDiff, initF, *] at a0
          clear hag hdep ho hun
          refine ⟨fun _ => ?_, fun b hb => by simp [bkL] at hb⟩
          refine relStep_off rfl ?_
          rotate_left
          have e := Option.some.inj ho
          subst e
          have d1 : (gF 28) = .pointer (some ⟨bl, 0, none⟩) := hdep ⟨1, .data⟩ (by simp) rfl _ _ rfl rfl
          clear hag hdep ho hun
          refine ⟨fun _ => ?_, fun b hb => by simp [bkL] at hb⟩
          refine relStep_off rfl ?_
          rotate_left
          have e := Option.some.inj ho
          subst e
          have d2 : (gF 29) = .pointer (some ⟨bl, 0, none⟩) := hdep ⟨2, .data⟩ (by simp) rfl _ _ rfl rfl
          have un6 : Kp gg wY w9 := ⟨hRB _ (by simp), hun 6 _ (by decide) rfl KR⟩
          clear hag hdep ho hun
          refine ⟨fun _ => ?_, fun b hb => by simp [bkL] at hb⟩
          refine relStep_off rfl ?_
          rotate_left
          have e := Option.some.inj ho
          subst e
          have a5 := hag.at 5 KR
          simp only [S5, ↓reduceIte, Nat.reduceEqDiff, initF, *] at a5
          clear hag hdep ho hun
          refine ⟨fun _ => ?_, fun b hb => by simp [bkL] at hb⟩
          refine relStep_off rfl ?_
          rotate_left
          have e := Option.some.inj ho
          subst e
          have d4 : (gF 31) = .agg (driftC new[k]).toArray := hdep ⟨4, .data⟩ (by simp) rfl _ _ rfl rfl
          have un6 : Kp gg wY w9 := ⟨hRB _ (by simp), hun 6 _ (by decide) rfl KR⟩
          clear hag hdep ho hun
          refine ⟨fun _ => ?_, fun b hb => by simp [bkL] at hb⟩
          refine relStep_off rfl ?_
          rotate_left
          have e := Option.some.inj ho
          subst e
          have d3 : (gF 30) = .slice (some ⟨gg, 0, none⟩) (l ++ (new.take k).filter realB).length cp := hdep ⟨3, .data⟩ (by simp) rfl _ _ rfl rfl
          have d5 : ∃ b, (gF 32) = .slice (some ⟨b, 0, none⟩) 1 1 ∧ Blk w9 b 64 (driftC new[k]) ∧ wY.heap.size ≤ b := hdep ⟨5, .data⟩ (by simp) rfl _ _ rfl rfl
          obtain ⟨b5, e5, hb5, q5⟩ := d5
          have k5 := hb5.bk
          have nw5 := Nw.of q5
          clear hag hdep ho hun
          refine ⟨fun h => by simp [bkL] at h, fun b hb hU => ?_⟩
          obtain rfl : gg = b := by simpa [bkL] using hb
          refine relStep_off rfl ?_
          rotate_left
          have e := Option.some.inj ho
          subst e
          have d0 : (gF 27) = .pointer (some ⟨bl, 0, none⟩) := hdep ⟨0, .data⟩ (by simp) rfl _ _ rfl rfl
          clear hag hdep ho hun
          refine ⟨fun _ => ?_, fun b hb => by simp [bkL] at hb⟩
          refine relStep_off rfl ?_
          rotate_left
          · omega
          all_goals (repeat' first
    | ((with_reducible refine at_row ?_); refine row1_a fun _ _ _ _ _ _ _ => ?_)
    | with_reducible first | (first | apply alloc_k | apply row_k); intro _ _ _ _ _ _ | (first | apply fork | apply forkp) <;> intro _ | refine forke (fun _ => ?_) fun _ _ => ?_ | refine tail_k fun _ _ _ => ?_ | refine ext_k fun _ _ _ => ?_ | refine need_a ?_ | refine st_agg KR rfl ON fun _ _ _ _ => ?_ | refine wpd_q_a ?_
    | simp (maxDischargeDepth := 3) only [↓X, ↓Y, ↓Q, S1, ↓reduceIte, Nat.reduceEqDiff, Nat.reduceAdd, Int.reduceLT, Int.reduceLE, Int.reduceNeg, Int.reduceBEq, Int.reduceBNe, Int.reduceEq, Nat.reduceLeDiff, Nat.reduceMul, Nat.reduceLT, *, driftC]
    | simp (singlePass := true) (maxDischargeDepth := 99) only [*, S2, Nat.reduceLT, driftC])
          all_goals first
            | (rename_i b10 w10 n10 k10 s10 q10; exact ⟨_, rfl, k10.2.1 _ k10.2.2.1, FR⟩)
            | (rename_i b10 w10 n10 k10 s10 q10 l10; exact ⟨_, rfl, k10.2.1 _ k10.2.2.1, FR⟩)
            | (refine appD2 new[k] (ownY.keep fun b hb => by obtain rfl := Option.some.inj hb; exact hU) (k5.2.1 _ FR) hbd.out FR (fun _ _ hf _ _ => absurd hf (full_not hroom)) (fun g' cp' w' he hlt hc ho => ?_); obtain ⟨rfl, rfl⟩ : gg = g' ∧ cp = cp' := (by simpa using he); exact ⟨hc, rfl, ho⟩)
        · intro g9 w9 hx9 hR hS9 hag
          have s9 := hx9.sb
          simp only [Sb, List.mem_cons, List.not_mem_nil, or_false, forall_eq_or_imp, forall_eq] at s9
          have n9 : Now w9 := trivial
          have r9 := Ext.refl w9
          have z9 := hx9.size
          have d6 : ((g9 33) = .slice (some ⟨gg, 0, none⟩) ((l ++ (new.take k).filter realB).length + 1) cp ∧ OwnD w9 B0 (g9 33) ((l ++ (new.take k).filter realB) ++ [new[k]])) := hR 6 _ _ (by decide) rfl rfl
          have d7 : (g9 34) = .pointer (some ⟨bl, 0, none⟩) := hR 7 _ _ (by decide) rfl rfl
          have a0 := hag.at 0 KR
          have a6 := hag.at 6 KR
          have a7 := hag.at 7 KR
          have a8 := hag.at 8 KR
          simp only [S5, ↓reduceIte, Nat.reduceEqDiff, initF, *] at a0 a6 a7 a8
          clear hag hR hS9
          simp only [List.drop_succ_cons, List.drop_zero]
          obtain ⟨e6, o6⟩ := d6
          rw [e6] at o6
          have A9 := o6.o
          (repeat' first
    | ((with_reducible refine at_row ?_); refine row1_a fun _ _ _ _ _ _ _ => ?_)
    | with_reducible first | (first | apply alloc_k | apply row_k); intro _ _ _ _ _ _ | (first | apply fork | apply forkp) <;> intro _ | refine forke (fun _ => ?_) fun _ _ => ?_ | refine tail_k fun _ _ _ => ?_ | refine ext_k fun _ _ _ => ?_ | refine need_a ?_ | refine st_agg KR rfl ON fun _ _ _ _ => ?_ | refine wpd_q_a ?_
    | simp (maxDischargeDepth := 3) only [↓X, ↓Y, ↓Q, S1, ↓reduceIte, Nat.reduceEqDiff, Nat.reduceAdd, Int.reduceLT, Int.reduceLE, Int.reduceNeg, Int.reduceBEq, Int.reduceBNe, Int.reduceEq, Nat.reduceLeDiff, Nat.reduceMul, Nat.reduceLT, *, driftC]
    | simp (singlePass := true) (maxDischargeDepth := 99) only [*, S2, Nat.reduceLT, driftC])
          refine st_one (i := 0) KR (by simp) A9.2.2.2.1 fun w8 n8 k8 s8 => ?_
          have F8 : Hid (AddI bl B0 v rv l new w w8 (k + 1)) := by
            have h0 : Bl 0 wY wY := Bl.refl (Nat.zero_le _)
            have h00 : 0 ≤ bl := Nat.zero_le _
            have h01 : 0 ≤ gg := Nat.zero_le _
            refine ⟨_, k8.2.1 _ FR, ?_, fun b hb => by obtain rfl := Option.some.inj hb; exact hgw, tbn_via (X' := fun c => c = bl ∨ c = gg) TY FR (fun c h1 h2 => ?_) (fun c h1 h2 h3 => ?_) FR⟩
            · rw [eL, if_pos rfl, ← List.append_assoc]
              have h3 : Kp gg w9 w9 := ⟨(o6.lt gg rfl).2, rfl⟩
              have h4 := hg1.2
              have h5 : Kp gg w9 w8 := FR
              exact o6.keep fun b hb => by obtain rfl := Option.some.inj hb; exact h5.2
            · have h3 : Kp c wY wY := ⟨h1, rfl⟩
              have h4 : ¬ c = bl := fun e => h2 (.inl e)
              have h5 : ¬ c = gg := fun e => h2 (.inr e)
              exact FR
            · rcases h3 with h3 | rfl
              · exact h2 (.inl h3)
              · rcases hgw with h4 | h4
                · exact h2 (.inr h4)
                · omega
          (repeat' first
    | ((with_reducible refine at_row ?_); refine row1_a fun _ _ _ _ _ _ _ => ?_)
    | with_reducible first | (first | apply alloc_k | apply row_k); intro _ _ _ _ _ _ | (first | apply fork | apply forkp) <;> intro _ | refine forke (fun _ => ?_) fun _ _ => ?_ | refine tail_k fun _ _ _ => ?_ | refine ext_k fun _ _ _ => ?_ | refine need_a ?_ | refine st_agg KR rfl ON fun _ _ _ _ => ?_ | refine wpd_q_a ?_
    | simp (maxDischargeDepth := 3) only [↓X, ↓Y, ↓Q, S1, ↓reduceIte, Nat.reduceEqDiff, Nat.reduceAdd, Int.reduceLT, Int.reduceLE, Int.reduceNeg, Int.reduceBEq, Int.reduceBNe, Int.reduceEq, Nat.reduceLeDiff, Nat.reduceMul, Nat.reduceLT, *]
    | simp (singlePass := true) (maxDischargeDepth := 99) only [*, S2, Nat.reduceLT])
          refine next_g hk hlt ?_
          (repeat' first
    | ((with_reducible refine at_row ?_); refine row1_a fun _ _ _ _ _ _ _ => ?_)
    | with_reducible first | (first | apply alloc_k | apply row_k); intro _ _ _ _ _ _ | (first | apply fork | apply forkp) <;> intro _ | refine forke (fun _ => ?_) fun _ _ => ?_ | refine tail_k fun _ _ _ => ?_ | refine ext_k fun _ _ _ => ?_ | refine need_a ?_ | refine st_agg KR rfl ON fun _ _ _ _ => ?_ | refine wpd_q_a ?_
    | simp (maxDischargeDepth := 3) only [↓X, ↓Y, ↓Q, S1, ↓reduceIte, Nat.reduceEqDiff, Nat.reduceAdd, Int.reduceLT, Int.reduceLE, Int.reduceNeg, Int.reduceBEq, Int.reduceBNe, Int.reduceEq, Nat.reduceLeDiff, Nat.reduceMul, Nat.reduceLT, *]
    | simp (singlePass := true) (maxDischargeDepth := 99) only [*, S2, Nat.reduceLT])
          all_goals exact F8.out
  · rintro g wk nk ⟨hi, hf, hp⟩
    simp (maxDischargeDepth := 3) only [U, ↓reduceIte, Nat.reduceEqDiff, *] at hf
    (repeat' first
    | ((with_reducible refine at_row ?_); refine row1_a fun _ _ _ _ _ _ _ => ?_)
    | with_reducible first | (first | apply alloc_k | apply row_k); intro _ _ _ _ _ _ | (first | apply fork | apply forkp) <;> intro _ | refine forke (fun _ => ?_) fun _ _ => ?_ | refine tail_k fun _ _ _ => ?_ | refine ext_k fun _ _ _ => ?_ | refine need_a ?_ | refine st_agg KR rfl ON fun _ _ _ _ => ?_ | refine wpd_q_a ?_
    | simp (maxDischargeDepth := 3) only [↓X, ↓Y, ↓Q, S1, ↓reduceIte, Nat.reduceEqDiff, Nat.reduceAdd, Int.reduceLT, Int.reduceLE, Int.reduceNeg, Int.reduceBEq, Int.reduceBNe, Int.reduceEq, Nat.reduceLeDiff, Nat.reduceMul, Nat.reduceLT, *]
    | simp (singlePass := true) (maxDischargeDepth := 99) only [*, S2, Nat.reduceLT])
    all_goals exact hp.out
end
end Go.Proofs.YtmcdgepfhpakiaaGreat
