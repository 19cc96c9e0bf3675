
/- The layer order: next, Chains, Width. -/
import Derived.Test.YteeaccnklkcchaaDoorMatch10
import Derived.Test.YteeaccnklkcchaaDoorRel
namespace Go.Proofs.YteeaccnklkcchaaDoor
set_option linter.unusedSimpArgs false
set_option linter.unusedVariables false
open Go Go.RowKit
set_option maxRecDepth 100000
set_option linter.unusedSectionVars false
set_option maxHeartbeats 2000000
section
variable {w w' : World} {B n : Nat} {vd va : Value} {al : List Nat}
theorem Tn.toExt {bs rq rn : Nat} {a b c : World} (h : Ext a b) (k : Tn bs rq rn b c) (h1 : a.heap.size ≤ bs) (h2 : a.heap.size ≤ rq) (h3 : a.heap.size ≤ rn) : Ext a c :=
  h.trans' ⟨k.os, k.tape, k.output, k.size, fun x hx => k.block x (Nat.lt_of_lt_of_le hx h.size) (by omega) (by omega) (by omega)⟩
theorem orderNext (h12 : n ≤ 12) (hal : al.length = n) (hal4 : ∀ x, al.getD x 0 < 4096) (hB : B ≤ w.heap.size) (ha : Sl w B none 1 va (al.map natV)) (o2 : vd.oneCell' = true) (o3 : va.oneCell' = true) (hso : (nextN al n).isSome) :
    CallsV Tryd.prog 55 #[.agg #[natV n, vd, va]] w fun r w' => Ext w w' ∧ ∃ nx b, nextN al n = some nx ∧ r = .slice (some ⟨b, 0, none⟩) n n ∧ Blk w' b 3 (nx.map intV) ∧ w.heap.size ≤ b ∧ nx.length = n ∧ ∀ x, x < n → -1 ≤ nx.getD x 0 ∧ nx.getD x 0 < n := by
  have hn : Now w := trivial
  have hx : Ext w w := Ext.refl w
  have hbw : Bl B w w := Bl.refl hB
  have hA := fun w' (h : Bl B w w') => ha.bl h
  replace hA : Hid _ := hA
  (refine callsV_of Tryd.func55 rfl KR KR ?_; rw [Tryd.results55])
  (repeat' first
    | ((with_reducible refine wpd_at 1 ?_); refine wpd_hold ?_)
    | ((with_reducible refine at_row ?_); refine row1_a fun _ _ _ _ _ _ _ => ?_)
    | with_reducible first | (first | apply alloc_k | apply row_k); intro _ _ _ _ _ _ | (first | apply fork | apply forkp) <;> intro _ | refine forke (fun _ => ?_) fun _ _ => ?_ | refine tail_k fun _ _ _ => ?_ | refine ext_k fun _ _ _ => ?_ | refine need_a ?_ | refine st_agg KR rfl ON fun _ _ _ _ => ?_ | refine wpd_q_a ?_
    | simp (maxDischargeDepth := 3) only [↓X, ↓Y, ↓Q, S1, ↓reduceIte, Nat.reduceEqDiff, Nat.reduceAdd, Int.reduceLT, Int.reduceLE, Int.reduceNeg, Int.reduceBEq, Int.reduceBNe, Int.reduceEq, Nat.reduceLeDiff, Nat.reduceMul, Nat.reduceLT, *]
    | simp (singlePass := true) (maxDischargeDepth := 99) only [*, S2, Nat.reduceLT])
  rename_i b1 wk n1 k1 s1 q1
  unfold wpdH
  refine wpd_rel2 10 (fun iI v w9 => match iI with
    | 0 => ∃ b, v = .slice (some ⟨b, 0, none⟩) 1 1 ∧ Blk w9 b 3 [.int .i64 (-1)] ∧ wk.heap.size ≤ b
    | 1 => v = .pointer (some ⟨b1, 0, none⟩)
    | 2 => v = .int .i64 n
    | 3 => ∃ b, v = .slice (some ⟨b, 0, none⟩) n n ∧ Blk w9 b 3 (List.replicate n (.int .i64 (-1))) ∧ wk.heap.size ≤ b
    | 4 => ∃ b, v = .slice (some ⟨b, 0, none⟩) 1 1 ∧ Blk w9 b 3 [.int .i64 (-1)] ∧ wk.heap.size ≤ b
    | 5 => v = .pointer (some ⟨b1, 0, none⟩)
    | 6 => v = .int .i64 n
    | 7 => ∃ b, v = .slice (some ⟨b, 0, none⟩) n n ∧ Blk w9 b 3 (List.replicate n (.int .i64 (-1))) ∧ wk.heap.size ≤ b
    | 8 => ∃ b, v = .pointer (some ⟨b, 0, none⟩) ∧ Blk w9 b 25 [.slice none 0 0] ∧ wk.heap.size ≤ b
    | 9 => ∃ b, v = .pointer (some ⟨b, 0, none⟩) ∧ Blk w9 b 25 [.slice none 0 0] ∧ wk.heap.size ≤ b
    | _ => False) (fun iI => iI == 3 || iI == 7 || iI == 8 || iI == 9) ?_ KR KR KR ?_ ?_ ?_
  · intro iI v w9 hF hR b hb
    match iI, hF, hR with
    | 0, hF, _ => exact absurd hF (by decide)
    | 1, hF, _ => exact absurd hF (by decide)
    | 2, hF, _ => exact absurd hF (by decide)
    | 3, _, ⟨b2, e, h1, _⟩ => subst e; obtain rfl := Option.some.inj hb; exact h1.lt
    | 4, hF, _ => exact absurd hF (by decide)
    | 5, hF, _ => exact absurd hF (by decide)
    | 6, hF, _ => exact absurd hF (by decide)
    | 7, _, ⟨b2, e, h1, _⟩ => subst e; obtain rfl := Option.some.inj hb; exact h1.lt
    | 8, _, ⟨b2, e, h1, _⟩ => subst e; obtain rfl := Option.some.inj hb; exact h1.lt
    | 9, _, ⟨b2, e, h1, _⟩ => subst e; obtain rfl := Option.some.inj hb; exact h1.lt
    | iI + 10, _, h => exact h.elim
  · intro iI v w1 w2 hR hx9
    match iI, hR with
    | 0, ⟨b, e, h1, h2⟩ => exact ⟨b, e, h1.ext hx9, h2⟩
    | 1, h => exact h
    | 2, h => exact h
    | 3, ⟨b, e, h1, h2⟩ => exact ⟨b, e, h1.ext hx9, h2⟩
    | 4, ⟨b, e, h1, h2⟩ => exact ⟨b, e, h1.ext hx9, h2⟩
    | 5, h => exact h
    | 6, h => exact h
    | 7, ⟨b, e, h1, h2⟩ => exact ⟨b, e, h1.ext hx9, h2⟩
    | 8, ⟨b, e, h1, h2⟩ => exact ⟨b, e, h1.ext hx9, h2⟩
    | 9, ⟨b, e, h1, h2⟩ => exact ⟨b, e, h1.ext hx9, h2⟩
  · intro iI oO hi ho gF w9 hx9 hdep hag
    have s9 := hx9.st
    have n9 : Now w9 := trivial
    have r9 := Ext.refl w9
    have z9 := hx9.size
    rcases iI with _|_|_|_|_|_|_|_|_|_|iI
    · have e := Option.some.inj ho
      subst e
      clear hag hdep ho
      refine ⟨fun _ => ?_, fun hF => absurd hF (by decide)⟩
      refine relStep_off rfl ?_
      (repeat' first
    | ((with_reducible refine at_row ?_); refine row1_a fun _ _ _ _ _ _ _ => ?_)
    | with_reducible first | (first | apply alloc_k | apply row_k); intro _ _ _ _ _ _ | (first | apply fork | apply forkp) <;> intro _ | refine forke (fun _ => ?_) fun _ _ => ?_ | refine tail_k fun _ _ _ => ?_ | refine ext_k fun _ _ _ => ?_ | refine need_a ?_ | refine st_agg KR rfl ON fun _ _ _ _ => ?_ | refine wpd_q_a ?_
    | simp (maxDischargeDepth := 3) only [↓X, ↓Y, ↓Q, S1, ↓reduceIte, Nat.reduceEqDiff, Nat.reduceAdd, Int.reduceLT, Int.reduceLE, Int.reduceNeg, Int.reduceBEq, Int.reduceBNe, Int.reduceEq, Nat.reduceLeDiff, Nat.reduceMul, Nat.reduceLT, *]
    | simp (singlePass := true) (maxDischargeDepth := 99) only [*, S2, Nat.reduceLT])
      first
        | (rename_i b10 w10 n10 k10 s10 q10; exact ⟨_, rfl, k10.2.1 _ k10.2.2.1, FR⟩)
        | (rename_i b10 w10 n10 k10 s10 q10 l10; exact ⟨_, rfl, k10.2.1 _ k10.2.2.1, FR⟩)
    · have e := Option.some.inj ho
      subst e
      have a1 := hag.at 1 KR
      simp only [S5, ↓reduceIte, Nat.reduceEqDiff, initF, *] at a1
      clear hag hdep ho
      refine ⟨fun _ => ?_, fun hF => absurd hF (by decide)⟩
      refine relStep_off rfl ?_
      (repeat' first
    | ((with_reducible refine at_row ?_); refine row1_a fun _ _ _ _ _ _ _ => ?_)
    | with_reducible first | (first | apply alloc_k | apply row_k); intro _ _ _ _ _ _ | (first | apply fork | apply forkp) <;> intro _ | refine forke (fun _ => ?_) fun _ _ => ?_ | refine tail_k fun _ _ _ => ?_ | refine ext_k fun _ _ _ => ?_ | refine need_a ?_ | refine st_agg KR rfl ON fun _ _ _ _ => ?_ | refine wpd_q_a ?_
    | simp (maxDischargeDepth := 3) only [↓X, ↓Y, ↓Q, S1, ↓reduceIte, Nat.reduceEqDiff, Nat.reduceAdd, Int.reduceLT, Int.reduceLE, Int.reduceNeg, Int.reduceBEq, Int.reduceBNe, Int.reduceEq, Nat.reduceLeDiff, Nat.reduceMul, Nat.reduceLT, *]
    | simp (singlePass := true) (maxDischargeDepth := 99) only [*, S2, Nat.reduceLT])
    · have e := Option.some.inj ho
      subst e
      have d1 : (gF 9) = .pointer (some ⟨b1, 0, none⟩) := hdep ⟨1, .data⟩ (by simp) rfl _ _ rfl rfl
      clear hag hdep ho
      refine ⟨fun _ => ?_, fun hF => absurd hF (by decide)⟩
      refine relStep_off rfl ?_
      (repeat' first
    | ((with_reducible refine at_row ?_); refine row1_a fun _ _ _ _ _ _ _ => ?_)
    | with_reducible first | (first | apply alloc_k | apply row_k); intro _ _ _ _ _ _ | (first | apply fork | apply forkp) <;> intro _ | refine forke (fun _ => ?_) fun _ _ => ?_ | refine tail_k fun _ _ _ => ?_ | refine ext_k fun _ _ _ => ?_ | refine need_a ?_ | refine st_agg KR rfl ON fun _ _ _ _ => ?_ | refine wpd_q_a ?_
    | simp (maxDischargeDepth := 3) only [↓X, ↓Y, ↓Q, S1, ↓reduceIte, Nat.reduceEqDiff, Nat.reduceAdd, Int.reduceLT, Int.reduceLE, Int.reduceNeg, Int.reduceBEq, Int.reduceBNe, Int.reduceEq, Nat.reduceLeDiff, Nat.reduceMul, Nat.reduceLT, *]
    | simp (singlePass := true) (maxDischargeDepth := 99) only [*, S2, Nat.reduceLT])
    · have e := Option.some.inj ho
      subst e
      have d0 : ∃ b, (gF 8) = .slice (some ⟨b, 0, none⟩) 1 1 ∧ Blk w9 b 3 [.int .i64 (-1)] ∧ wk.heap.size ≤ b := hdep ⟨0, .data⟩ (by simp) rfl _ _ rfl rfl
      obtain ⟨b0, e0, hb0, q0⟩ := d0
      have k0 := hb0.bk
      have nw0 := Nw.of q0
      have d2 : (gF 10) = .int .i64 n := hdep ⟨2, .data⟩ (by simp) rfl _ _ rfl rfl
      clear hag hdep ho
      refine ⟨fun hF => absurd hF (by decide), fun _ => ?_⟩
      refine relStep_off rfl ?_
      (repeat' first
    | ((with_reducible refine at_row ?_); refine row1_a fun _ _ _ _ _ _ _ => ?_)
    | with_reducible first | (first | apply alloc_k | apply row_k); intro _ _ _ _ _ _ | (first | apply fork | apply forkp) <;> intro _ | refine forke (fun _ => ?_) fun _ _ => ?_ | refine tail_k fun _ _ _ => ?_ | refine ext_k fun _ _ _ => ?_ | refine need_a ?_ | refine st_agg KR rfl ON fun _ _ _ _ => ?_ | refine wpd_q_a ?_
    | simp (maxDischargeDepth := 3) only [↓X, ↓Y, ↓Q, S1, ↓reduceIte, Nat.reduceEqDiff, Nat.reduceAdd, Int.reduceLT, Int.reduceLE, Int.reduceNeg, Int.reduceBEq, Int.reduceBNe, Int.reduceEq, Nat.reduceLeDiff, Nat.reduceMul, Nat.reduceLT, *]
    | simp (singlePass := true) (maxDischargeDepth := 99) only [*, S2, Nat.reduceLT])
      refine CallsV.mono (slicesRepeat1 h12 hb0) fun u w10 hh => ?_
      obtain ⟨hx10, b10, rfl, hb10, hl10⟩ := hh
      exact ⟨hx10, ⟨_, rfl, hb10, Nat.le_trans z9 hl10⟩, fun b hb => (by obtain rfl := Option.some.inj hb; exact hl10)⟩
    · have e := Option.some.inj ho
      subst e
      clear hag hdep ho
      refine ⟨fun _ => ?_, fun hF => absurd hF (by decide)⟩
      refine relStep_off rfl ?_
      (repeat' first
    | ((with_reducible refine at_row ?_); refine row1_a fun _ _ _ _ _ _ _ => ?_)
    | with_reducible first | (first | apply alloc_k | apply row_k); intro _ _ _ _ _ _ | (first | apply fork | apply forkp) <;> intro _ | refine forke (fun _ => ?_) fun _ _ => ?_ | refine tail_k fun _ _ _ => ?_ | refine ext_k fun _ _ _ => ?_ | refine need_a ?_ | refine st_agg KR rfl ON fun _ _ _ _ => ?_ | refine wpd_q_a ?_
    | simp (maxDischargeDepth := 3) only [↓X, ↓Y, ↓Q, S1, ↓reduceIte, Nat.reduceEqDiff, Nat.reduceAdd, Int.reduceLT, Int.reduceLE, Int.reduceNeg, Int.reduceBEq, Int.reduceBNe, Int.reduceEq, Nat.reduceLeDiff, Nat.reduceMul, Nat.reduceLT, *]
    | simp (singlePass := true) (maxDischargeDepth := 99) only [*, S2, Nat.reduceLT])
      first
        | (rename_i b10 w10 n10 k10 s10 q10; exact ⟨_, rfl, k10.2.1 _ k10.2.2.1, FR⟩)
        | (rename_i b10 w10 n10 k10 s10 q10 l10; exact ⟨_, rfl, k10.2.1 _ k10.2.2.1, FR⟩)
    · have e := Option.some.inj ho
      subst e
      have a1 := hag.at 1 KR
      simp only [S5, ↓reduceIte, Nat.reduceEqDiff, initF, *] at a1
      clear hag hdep ho
      refine ⟨fun _ => ?_, fun hF => absurd hF (by decide)⟩
      refine relStep_off rfl ?_
      (repeat' first
    | ((with_reducible refine at_row ?_); refine row1_a fun _ _ _ _ _ _ _ => ?_)
    | with_reducible first | (first | apply alloc_k | apply row_k); intro _ _ _ _ _ _ | (first | apply fork | apply forkp) <;> intro _ | refine forke (fun _ => ?_) fun _ _ => ?_ | refine tail_k fun _ _ _ => ?_ | refine ext_k fun _ _ _ => ?_ | refine need_a ?_ | refine st_agg KR rfl ON fun _ _ _ _ => ?_ | refine wpd_q_a ?_
    | simp (maxDischargeDepth := 3) only [↓X, ↓Y, ↓Q, S1, ↓reduceIte, Nat.reduceEqDiff, Nat.reduceAdd, Int.reduceLT, Int.reduceLE, Int.reduceNeg, Int.reduceBEq, Int.reduceBNe, Int.reduceEq, Nat.reduceLeDiff, Nat.reduceMul, Nat.reduceLT, *]
    | simp (singlePass := true) (maxDischargeDepth := 99) only [*, S2, Nat.reduceLT])
    · have e := Option.some.inj ho
      subst e
      have d5 : (gF 13) = .pointer (some ⟨b1, 0, none⟩) := hdep ⟨5, .data⟩ (by simp) rfl _ _ rfl rfl
      clear hag hdep ho
      refine ⟨fun _ => ?_, fun hF => absurd hF (by decide)⟩
      refine relStep_off rfl ?_
      (repeat' first
    | ((with_reducible refine at_row ?_); refine row1_a fun _ _ _ _ _ _ _ => ?_)
    | with_reducible first | (first | apply alloc_k | apply row_k); intro _ _ _ _ _ _ | (first | apply fork | apply forkp) <;> intro _ | refine forke (fun _ => ?_) fun _ _ => ?_ | refine tail_k fun _ _ _ => ?_ | refine ext_k fun _ _ _ => ?_ | refine need_a ?_ | refine st_agg KR rfl ON fun _ _ _ _ => ?_ | refine wpd_q_a ?_
    | simp (maxDischargeDepth := 3) only [↓X, ↓Y, ↓Q, S1, ↓reduceIte, Nat.reduceEqDiff, Nat.reduceAdd, Int.reduceLT, Int.reduceLE, Int.reduceNeg, Int.reduceBEq, Int.reduceBNe, Int.reduceEq, Nat.reduceLeDiff, Nat.reduceMul, Nat.reduceLT, *]
    | simp (singlePass := true) (maxDischargeDepth := 99) only [*, S2, Nat.reduceLT])
    · have e := Option.some.inj ho
      subst e
      have d4 : ∃ b, (gF 12) = .slice (some ⟨b, 0, none⟩) 1 1 ∧ Blk w9 b 3 [.int .i64 (-1)] ∧ wk.heap.size ≤ b := hdep ⟨4, .data⟩ (by simp) rfl _ _ rfl rfl
      obtain ⟨b4, e4, hb4, q4⟩ := d4
      have k4 := hb4.bk
      have nw4 := Nw.of q4
      have d6 : (gF 14) = .int .i64 n := hdep ⟨6, .data⟩ (by simp) rfl _ _ rfl rfl
      clear hag hdep ho
      refine ⟨fun hF => absurd hF (by decide), fun _ => ?_⟩
      refine relStep_off rfl ?_
      (repeat' first
    | ((with_reducible refine at_row ?_); refine row1_a fun _ _ _ _ _ _ _ => ?_)
    | with_reducible first | (first | apply alloc_k | apply row_k); intro _ _ _ _ _ _ | (first | apply fork | apply forkp) <;> intro _ | refine forke (fun _ => ?_) fun _ _ => ?_ | refine tail_k fun _ _ _ => ?_ | refine ext_k fun _ _ _ => ?_ | refine need_a ?_ | refine st_agg KR rfl ON fun _ _ _ _ => ?_ | refine wpd_q_a ?_
    | simp (maxDischargeDepth := 3) only [↓X, ↓Y, ↓Q, S1, ↓reduceIte, Nat.reduceEqDiff, Nat.reduceAdd, Int.reduceLT, Int.reduceLE, Int.reduceNeg, Int.reduceBEq, Int.reduceBNe, Int.reduceEq, Nat.reduceLeDiff, Nat.reduceMul, Nat.reduceLT, *]
    | simp (singlePass := true) (maxDischargeDepth := 99) only [*, S2, Nat.reduceLT])
      refine CallsV.mono (slicesRepeat1 h12 hb4) fun u w10 hh => ?_
      obtain ⟨hx10, b10, rfl, hb10, hl10⟩ := hh
      exact ⟨hx10, ⟨_, rfl, hb10, Nat.le_trans z9 hl10⟩, fun b hb => (by obtain rfl := Option.some.inj hb; exact hl10)⟩
    · have e := Option.some.inj ho
      subst e
      clear hag hdep ho
      refine ⟨fun hF => absurd hF (by decide), fun _ => ?_⟩
      refine relStep_off rfl ?_
      (repeat' first
    | ((with_reducible refine at_row ?_); refine row1_a fun _ _ _ _ _ _ _ => ?_)
    | with_reducible first | (first | apply alloc_k | apply row_k); intro _ _ _ _ _ _ | (first | apply fork | apply forkp) <;> intro _ | refine forke (fun _ => ?_) fun _ _ => ?_ | refine tail_k fun _ _ _ => ?_ | refine ext_k fun _ _ _ => ?_ | refine need_a ?_ | refine st_agg KR rfl ON fun _ _ _ _ => ?_ | refine wpd_q_a ?_
    | simp (maxDischargeDepth := 3) only [↓X, ↓Y, ↓Q, S1, ↓reduceIte, Nat.reduceEqDiff, Nat.reduceAdd, Int.reduceLT, Int.reduceLE, Int.reduceNeg, Int.reduceBEq, Int.reduceBNe, Int.reduceEq, Nat.reduceLeDiff, Nat.reduceMul, Nat.reduceLT, *]
    | simp (singlePass := true) (maxDischargeDepth := 99) only [*, S2, Nat.reduceLT])
      first
        | (rename_i b10 w10 n10 k10 s10 q10; exact ⟨⟨_, rfl, k10.2.1 _ k10.2.2.1, FR⟩, fun b hb => by obtain rfl := Option.some.inj hb; exact FR⟩)
        | (rename_i b10 w10 n10 k10 s10 q10 l10; exact ⟨⟨_, rfl, k10.2.1 _ k10.2.2.1, FR⟩, fun b hb => by obtain rfl := Option.some.inj hb; exact FR⟩)
    · have e := Option.some.inj ho
      subst e
      clear hag hdep ho
      refine ⟨fun hF => absurd hF (by decide), fun _ => ?_⟩
      refine relStep_off rfl ?_
      (repeat' first
    | ((with_reducible refine at_row ?_); refine row1_a fun _ _ _ _ _ _ _ => ?_)
    | with_reducible first | (first | apply alloc_k | apply row_k); intro _ _ _ _ _ _ | (first | apply fork | apply forkp) <;> intro _ | refine forke (fun _ => ?_) fun _ _ => ?_ | refine tail_k fun _ _ _ => ?_ | refine ext_k fun _ _ _ => ?_ | refine need_a ?_ | refine st_agg KR rfl ON fun _ _ _ _ => ?_ | refine wpd_q_a ?_
    | simp (maxDischargeDepth := 3) only [↓X, ↓Y, ↓Q, S1, ↓reduceIte, Nat.reduceEqDiff, Nat.reduceAdd, Int.reduceLT, Int.reduceLE, Int.reduceNeg, Int.reduceBEq, Int.reduceBNe, Int.reduceEq, Nat.reduceLeDiff, Nat.reduceMul, Nat.reduceLT, *]
    | simp (singlePass := true) (maxDischargeDepth := 99) only [*, S2, Nat.reduceLT])
      first
        | (rename_i b10 w10 n10 k10 s10 q10; exact ⟨⟨_, rfl, k10.2.1 _ k10.2.2.1, FR⟩, fun b hb => by obtain rfl := Option.some.inj hb; exact FR⟩)
        | (rename_i b10 w10 n10 k10 s10 q10 l10; exact ⟨⟨_, rfl, k10.2.1 _ k10.2.2.1, FR⟩, fun b hb => by obtain rfl := Option.some.inj hb; exact FR⟩)
    · omega
  · intro g9 w9 hx9 hR hDis hag
    have s9 := hx9.st
    have n9 : Now w9 := trivial
    have r9 := Ext.refl w9
    have z9 := hx9.size
    have d3 : ∃ b, (g9 11) = .slice (some ⟨b, 0, none⟩) n n ∧ Blk w9 b 3 (List.replicate n (.int .i64 (-1))) ∧ wk.heap.size ≤ b := hR 3 _ _ (by decide) rfl rfl
    obtain ⟨b3, e3, hb3, q3⟩ := d3
    have k3 := hb3.bk
    have nw3 := Nw.of q3
    have d7 : ∃ b, (g9 15) = .slice (some ⟨b, 0, none⟩) n n ∧ Blk w9 b 3 (List.replicate n (.int .i64 (-1))) ∧ wk.heap.size ≤ b := hR 7 _ _ (by decide) rfl rfl
    obtain ⟨b7, e7, hb7, q7⟩ := d7
    have k7 := hb7.bk
    have nw7 := Nw.of q7
    have d8 : ∃ b, (g9 3) = .pointer (some ⟨b, 0, none⟩) ∧ Blk w9 b 25 [.slice none 0 0] ∧ wk.heap.size ≤ b := hR 8 _ _ (by decide) rfl rfl
    obtain ⟨b8, e8, hb8, q8⟩ := d8
    have k8 := hb8.bk
    have nw8 := Nw.of q8
    have d9 : ∃ b, (g9 4) = .pointer (some ⟨b, 0, none⟩) ∧ Blk w9 b 25 [.slice none 0 0] ∧ wk.heap.size ≤ b := hR 9 _ _ (by decide) rfl rfl
    obtain ⟨b9, e9, hb9, q9⟩ := d9
    have k9 := hb9.bk
    have nw9 := Nw.of q9
    have a1 := hag.at 1 KR
    simp only [S5, ↓reduceIte, Nat.reduceEqDiff, initF, *] at a1
    have dis37 := hDis 3 7 _ _ _ _ (by decide) (by decide) (by decide) rfl rfl rfl rfl rfl rfl
    have dis38 := hDis 3 8 _ _ _ _ (by decide) (by decide) (by decide) rfl rfl rfl rfl rfl rfl
    have dis39 := hDis 3 9 _ _ _ _ (by decide) (by decide) (by decide) rfl rfl rfl rfl rfl rfl
    have dis73 := hDis 7 3 _ _ _ _ (by decide) (by decide) (by decide) rfl rfl rfl rfl rfl rfl
    have dis78 := hDis 7 8 _ _ _ _ (by decide) (by decide) (by decide) rfl rfl rfl rfl rfl rfl
    have dis79 := hDis 7 9 _ _ _ _ (by decide) (by decide) (by decide) rfl rfl rfl rfl rfl rfl
    have dis83 := hDis 8 3 _ _ _ _ (by decide) (by decide) (by decide) rfl rfl rfl rfl rfl rfl
    have dis87 := hDis 8 7 _ _ _ _ (by decide) (by decide) (by decide) rfl rfl rfl rfl rfl rfl
    have dis89 := hDis 8 9 _ _ _ _ (by decide) (by decide) (by decide) rfl rfl rfl rfl rfl rfl
    have dis93 := hDis 9 3 _ _ _ _ (by decide) (by decide) (by decide) rfl rfl rfl rfl rfl rfl
    have dis97 := hDis 9 7 _ _ _ _ (by decide) (by decide) (by decide) rfl rfl rfl rfl rfl rfl
    have dis98 := hDis 9 8 _ _ _ _ (by decide) (by decide) (by decide) rfl rfl rfl rfl rfl rfl
    clear hag hR hDis
    simp only [List.drop_succ_cons, List.drop_zero]
    have d37 : ¬ b3 = b7 := fun e => dis37 b3 (by rw [e3]; rfl) (by rw [e7, e]; rfl)
    have d89 : ¬ b8 = b9 := fun e => dis89 b8 (by rw [e8]; rfl) (by rw [e9, e]; rfl)
    have d83 := blk_ne hb8 hb3 (by decide)
    have d87 := blk_ne hb8 hb7 (by decide)
    have d93 := blk_ne hb9 hb3 (by decide)
    have d97 := blk_ne hb9 hb7 (by decide)
    have d38 : ¬ b3 = b8 := fun e => d83 e.symm
    have d39 : ¬ b3 = b9 := fun e => d93 e.symm
    have d78 : ¬ b7 = b8 := fun e => d87 e.symm
    have d79 : ¬ b7 = b9 := fun e => d97 e.symm
    clear dis37 dis38 dis39 dis73 dis78 dis79 dis83 dis87 dis89 dis93 dis97 dis98
    have hw8 : w.heap.size ≤ b8 := Nat.le_trans FR q8
    have hw9 : w.heap.size ≤ b9 := Nat.le_trans FR q9
    have hw3 : w.heap.size ≤ b3 := Nat.le_trans FR q3
    have hw7 : w.heap.size ≤ b7 := Nat.le_trans FR q7
    have hn9 : ¬ b9 = b8 := fun e => d89 e.symm
    have d18 : ¬ b1 = b8 := FR
    have d19 : ¬ b1 = b9 := FR
    clear nw3 nw7 nw8 nw9
    (repeat' first
    | ((with_reducible refine at_row ?_); refine row1_a fun _ _ _ _ _ _ _ => ?_)
    | with_reducible first | (first | apply alloc_k | apply row_k); intro _ _ _ _ _ _ | (first | apply fork | apply forkp) <;> intro _ | refine forke (fun _ => ?_) fun _ _ => ?_ | refine tail_k fun _ _ _ => ?_ | refine ext_k fun _ _ _ => ?_ | refine need_a ?_ | refine st_agg KR rfl ON fun _ _ _ _ => ?_ | refine wpd_q_a ?_
    | simp (maxDischargeDepth := 3) only [↓X, ↓Y, ↓Q, S1, ↓reduceIte, Nat.reduceEqDiff, Nat.reduceAdd, Int.reduceLT, Int.reduceLE, Int.reduceNeg, Int.reduceBEq, Int.reduceBNe, Int.reduceEq, Nat.reduceLeDiff, Nat.reduceMul, Nat.reduceLT, *]
    | simp (singlePass := true) (maxDischargeDepth := 99) only [*, S2, Nat.reduceLT])
    refine st_one KR Nat.one_pos rfl fun w11 n11 k11 s11 => ?_
    (repeat' first
    | ((with_reducible refine at_row ?_); refine row1_a fun _ _ _ _ _ _ _ => ?_)
    | with_reducible first | (first | apply alloc_k | apply row_k); intro _ _ _ _ _ _ | (first | apply fork | apply forkp) <;> intro _ | refine forke (fun _ => ?_) fun _ _ => ?_ | refine tail_k fun _ _ _ => ?_ | refine ext_k fun _ _ _ => ?_ | refine need_a ?_ | refine st_agg KR rfl ON fun _ _ _ _ => ?_ | refine wpd_q_a ?_
    | simp (maxDischargeDepth := 3) only [↓X, ↓Y, ↓Q, S1, ↓reduceIte, Nat.reduceEqDiff, Nat.reduceAdd, Int.reduceLT, Int.reduceLE, Int.reduceNeg, Int.reduceBEq, Int.reduceBNe, Int.reduceEq, Nat.reduceLeDiff, Nat.reduceMul, Nat.reduceLT, *]
    | simp (singlePass := true) (maxDischargeDepth := 99) only [*, S2, Nat.reduceLT])
    refine st_one KR Nat.one_pos rfl fun w12 n12 k12 s12 => ?_
    (repeat' first
    | ((with_reducible refine at_row ?_); refine row1_a fun _ _ _ _ _ _ _ => ?_)
    | with_reducible first | (first | apply alloc_k | apply row_k); intro _ _ _ _ _ _ | (first | apply fork | apply forkp) <;> intro _ | refine forke (fun _ => ?_) fun _ _ => ?_ | refine tail_k fun _ _ _ => ?_ | refine ext_k fun _ _ _ => ?_ | refine need_a ?_ | refine st_agg KR rfl ON fun _ _ _ _ => ?_ | refine wpd_q_a ?_
    | simp (maxDischargeDepth := 3) only [↓X, ↓Y, ↓Q, S1, ↓reduceIte, Nat.reduceEqDiff, Nat.reduceAdd, Int.reduceLT, Int.reduceLE, Int.reduceNeg, Int.reduceBEq, Int.reduceBNe, Int.reduceEq, Nat.reduceLeDiff, Nat.reduceMul, Nat.reduceLT, *]
    | simp (singlePass := true) (maxDischargeDepth := 99) only [*, S2, Nat.reduceLT])
    rename_i bs w13 n13 k13 s13 q13 bj w14 n14 k14 s14 q14
    refine st_one KR Nat.one_pos rfl fun w15 n15 k15 s15 => ?_
    have hx15 : Ext w w15 := FR
    have hbs : w.heap.size ≤ bs := FR
    have e3s : ¬ bs = b3 := FR
    have e7s : ¬ bs = b7 := FR
    have hrep : ∀ x, x < n → -1 ≤ (List.replicate n (-1 : Int)).getD x 0 ∧ (List.replicate n (-1 : Int)).getD x 0 < n := fun x hxn => by
      simp only [List.getD_eq_getElem?_getD, List.getElem?_replicate, if_pos hxn, Option.getD_some]
      omega
    have hN : NxB B b1 bs b9 bj b8 b7 b3 n vd va al ⟨0, List.replicate n (-1), List.replicate n (-1)⟩ w15 :=
      ⟨FR, k1.2.1 _ FR, k13.2.1 _ FR, k12.2.1 _ FR, k15.2.1 _ FR, k11.2.1 _ FR, by rw [List.map_replicate]; exact k7.2.1 _ FR, by rw [List.map_replicate]; exact k3.2.1 _ FR, hA.out _ (hbw.ext hx15), by simp, by simp, by omega, by omega, by omega, Nat.zero_lt_succ _, fun x hxn => hrep x hxn, fun x hxn => hrep x hxn⟩
    obtain ⟨fin, hfin⟩ : ∃ fin, nextL al n ((List.range n).drop 0) ⟨0, List.replicate n (-1), List.replicate n (-1)⟩ = some fin := by
      unfold nextN at hso
      cases h : nextL al n (List.range n) ⟨0, List.replicate n (-1), List.replicate n (-1)⟩ with
      | none => rw [h] at hso; cases hso
      | some y => exact ⟨y, h⟩
    have hres : nextN al n = some fin.nx := by
      unfold nextN
      rw [List.drop_zero] at hfin
      rw [hfin]; rfl
    have I0 : Hid (Ext w w15 ∧ ∃ s, NxB B b1 bs b9 bj b8 b7 b3 n vd va al s w15 ∧ nextL al n ((List.range n).drop 0) s = some fin) := ⟨hx15, _, hN, hfin⟩
    have hal4' : Hid (∀ x, al.getD x 0 < 4096) := hal4
    have kp15 := hN.kp.bk
    have hcal : callable Tryd.prog 70 = true := by kernel_rfl
    clear hso hfin hN hal4 k3 k7 k8 k9 k1 k12 k13 k14 k15
    clear s11 s12 s13 s14 s15 q13 q14
    (repeat' first
    | ((with_reducible refine at_row ?_); refine row1_a fun _ _ _ _ _ _ _ => ?_)
    | with_reducible first | (first | apply alloc_k | apply row_k); intro _ _ _ _ _ _ | (first | apply fork | apply forkp) <;> intro _ | refine forke (fun _ => ?_) fun _ _ => ?_ | refine tail_k fun _ _ _ => ?_ | refine ext_k fun _ _ _ => ?_ | refine need_a ?_ | refine st_agg KR rfl ON fun _ _ _ _ => ?_ | refine wpd_q_a ?_
    | simp (maxDischargeDepth := 3) only [↓X, ↓Y, ↓Q, S1, ↓reduceIte, Nat.reduceEqDiff, Nat.reduceAdd, Int.reduceLT, Int.reduceLE, Int.reduceNeg, Int.reduceBEq, Int.reduceBNe, Int.reduceEq, Nat.reduceLeDiff, Nat.reduceMul, Nat.reduceLT, *]
    | simp (singlePass := true) (maxDischargeDepth := 99) only [*, S2, Nat.reduceLT])
    refine loop_g n (fun g0 k g w' => g 19 = .int .i64 (k : Int) ∧ (g 3 = g0 3 ∧ g 5 = g0 5 ∧ g 6 = g0 6 ∧ g 18 = g0 18) ∧ Hid (Ext w w' ∧ ∃ s, NxB B b1 bs b9 bj b8 b7 b3 n vd va al s w' ∧ nextL al n ((List.range n).drop k) s = some fin)) KR ?_ ?_ ?_
    · (repeat' first
    | ((with_reducible refine at_row ?_); refine row1_a fun _ _ _ _ _ _ _ => ?_)
    | with_reducible first | (first | apply alloc_k | apply row_k); intro _ _ _ _ _ _ | (first | apply fork | apply forkp) <;> intro _ | refine forke (fun _ => ?_) fun _ _ => ?_ | refine tail_k fun _ _ _ => ?_ | refine ext_k fun _ _ _ => ?_ | refine need_a ?_ | refine st_agg KR rfl ON fun _ _ _ _ => ?_ | refine wpd_q_a ?_
    | simp (maxDischargeDepth := 3) only [↓X, ↓Y, ↓Q, S1, ↓reduceIte, Nat.reduceEqDiff, Nat.reduceAdd, Int.reduceLT, Int.reduceLE, Int.reduceNeg, Int.reduceBEq, Int.reduceBNe, Int.reduceEq, Nat.reduceLeDiff, Nat.reduceMul, Nat.reduceLT, *]
    | simp (singlePass := true) (maxDischargeDepth := 99) only [*, S2, Nat.reduceLT])
      exact I0.out.2
    · rintro k m g wk hk hlt nk ⟨hi, hf, hp⟩
      simp (maxDischargeDepth := 3) only [U, ↓reduceIte, Nat.reduceEqDiff, *] at hf
      obtain ⟨hxk, s, hN, hJ⟩ := hp.out
      rw [List.drop_eq_getElem_cons (by rw [List.length_range]; exact hlt), List.getElem_range, nextL] at hJ
      have ks := hN.ks.bk
      have ck : Cg bs wk wk := Chg.refl' wk bs
      have hw : IntKind.i64.wrap ((k : Int) + 1) = ((k + 1 : Nat) : Int) := by rw [wrap_i64_id] <;> omega
      have rk := Ext.refl wk
      clear s9 s1
      (repeat' first
    | ((with_reducible refine at_row ?_); refine row1_a fun _ _ _ _ _ _ _ => ?_)
    | with_reducible first | (first | apply alloc_k | apply row_k); intro _ _ _ _ _ _ | (first | apply fork | apply forkp) <;> intro _ | refine forke (fun _ => ?_) fun _ _ => ?_ | refine tail_k fun _ _ _ => ?_ | refine ext_k fun _ _ _ => ?_ | refine need_a ?_ | refine st_agg KR rfl ON fun _ _ _ _ => ?_ | refine wpd_q_a ?_
    | simp (maxDischargeDepth := 3) only [↓X, ↓Y, ↓Q, S1, ↓reduceIte, Nat.reduceEqDiff, Nat.reduceAdd, Int.reduceLT, Int.reduceLE, Int.reduceNeg, Int.reduceBEq, Int.reduceBNe, Int.reduceEq, Nat.reduceLeDiff, Nat.reduceMul, Nat.reduceLT, *]
    | simp (singlePass := true) (maxDischargeDepth := 99) only [*, S2, Nat.reduceLT])
      refine st_one KR Nat.one_pos rfl fun w5 n5 k5 s5 => ?_
      have hc5 : Cg bs wk w5 := FR
      have hN5 := hN.seen e7s e3s (fun e => d37 e.symm) (s := 0) hc5 (k5.2.1 _ k5.2.2.1) (Nat.zero_lt_succ _)
      have hx5 : Ext w w5 := hxk.trans' (hc5.below hbs hxk.size)
      have kj := hN5.kj.bk
      have r5 := Ext.refl w5
      clear ks ck k5 s5 hN hxk
      cases hK : joinN al n (n + 2) k ⟨0, s.nx, s.pv⟩ with
      | none =>
        rw [hK] at hJ
        cases hJ
      | some p =>
        obtain ⟨bb, s3⟩ := p
        rw [hK] at hJ
        simp only at hJ
        (repeat' first
    | ((with_reducible refine at_row ?_); refine row1_a fun _ _ _ _ _ _ _ => ?_)
    | with_reducible first | (first | apply alloc_k | apply row_k); intro _ _ _ _ _ _ | (first | apply fork | apply forkp) <;> intro _ | refine forke (fun _ => ?_) fun _ _ => ?_ | refine tail_k fun _ _ _ => ?_ | refine ext_k fun _ _ _ => ?_ | refine need_a ?_ | refine st_agg KR rfl ON fun _ _ _ _ => ?_ | refine wpd_q_a ?_
    | simp (maxDischargeDepth := 3) only [↓X, ↓Y, ↓Q, S1, ↓reduceIte, Nat.reduceEqDiff, Nat.reduceAdd, Int.reduceLT, Int.reduceLE, Int.reduceNeg, Int.reduceBEq, Int.reduceBNe, Int.reduceEq, Nat.reduceLeDiff, Nat.reduceMul, Nat.reduceLT, *, joinV]
    | simp (singlePass := true) (maxDischargeDepth := 99) only [*, S2, Nat.reduceLT, joinV])
        have hcall := joinCall e7s e3s (fun e => d37 e.symm) h12 hal hal4'.out (n + 2) hN5 hlt (by rw [hK]; rfl)
        rw [hK] at hcall
        refine CallsV.mono hcall fun v6 w6 hj => ?_
        obtain ⟨hT6, r6, s6, he, rfl, hN6⟩ := hj
        obtain ⟨rfl, rfl⟩ := Prod.mk.inj (Option.some.inj he)
        have I6 : Hid (Ext w w6 ∧ ∃ s, NxB B b1 bs b9 bj b8 b7 b3 n vd va al s w6 ∧ nextL al n ((List.range n).drop (k + 1)) s = some fin) := ⟨Tn.toExt hx5 hT6 hbs hw7 hw3, s3, hN6, hJ⟩
        have n6 : Now w6 := trivial
        (repeat' first
    | ((with_reducible refine at_row ?_); refine row1_a fun _ _ _ _ _ _ _ => ?_)
    | with_reducible first | (first | apply alloc_k | apply row_k); intro _ _ _ _ _ _ | (first | apply fork | apply forkp) <;> intro _ | refine forke (fun _ => ?_) fun _ _ => ?_ | refine tail_k fun _ _ _ => ?_ | refine ext_k fun _ _ _ => ?_ | refine need_a ?_ | refine st_agg KR rfl ON fun _ _ _ _ => ?_ | refine wpd_q_a ?_
    | simp (maxDischargeDepth := 3) only [↓X, ↓Y, ↓Q, S1, ↓reduceIte, Nat.reduceEqDiff, Nat.reduceAdd, Int.reduceLT, Int.reduceLE, Int.reduceNeg, Int.reduceBEq, Int.reduceBNe, Int.reduceEq, Nat.reduceLeDiff, Nat.reduceMul, Nat.reduceLT, *]
    | simp (singlePass := true) (maxDischargeDepth := 99) only [*, S2, Nat.reduceLT])
        refine next_g hk hlt ?_
        (repeat' first
    | ((with_reducible refine at_row ?_); refine row1_a fun _ _ _ _ _ _ _ => ?_)
    | with_reducible first | (first | apply alloc_k | apply row_k); intro _ _ _ _ _ _ | (first | apply fork | apply forkp) <;> intro _ | refine forke (fun _ => ?_) fun _ _ => ?_ | refine tail_k fun _ _ _ => ?_ | refine ext_k fun _ _ _ => ?_ | refine need_a ?_ | refine st_agg KR rfl ON fun _ _ _ _ => ?_ | refine wpd_q_a ?_
    | simp (maxDischargeDepth := 3) only [↓X, ↓Y, ↓Q, S1, ↓reduceIte, Nat.reduceEqDiff, Nat.reduceAdd, Int.reduceLT, Int.reduceLE, Int.reduceNeg, Int.reduceBEq, Int.reduceBNe, Int.reduceEq, Nat.reduceLeDiff, Nat.reduceMul, Nat.reduceLT, *]
    | simp (singlePass := true) (maxDischargeDepth := 99) only [*, S2, Nat.reduceLT])
        all_goals done
    · rintro g wk nk ⟨hi, hf, hp⟩
      simp (maxDischargeDepth := 3) only [U, ↓reduceIte, Nat.reduceEqDiff, *] at hf
      obtain ⟨hxk, s, hN, hJ⟩ := hp.out
      rw [List.drop_eq_nil_of_le (by rw [List.length_range]; exact Nat.le_refl _), nextL] at hJ
      obtain rfl := Option.some.inj hJ
      have kn := hN.kn.bk
      have rk := Ext.refl wk
      clear s9 s1
      (repeat' first
    | ((with_reducible refine at_row ?_); refine row1_a fun _ _ _ _ _ _ _ => ?_)
    | with_reducible first | (first | apply alloc_k | apply row_k); intro _ _ _ _ _ _ | (first | apply fork | apply forkp) <;> intro _ | refine forke (fun _ => ?_) fun _ _ => ?_ | refine tail_k fun _ _ _ => ?_ | refine ext_k fun _ _ _ => ?_ | refine need_a ?_ | refine st_agg KR rfl ON fun _ _ _ _ => ?_ | refine wpd_q_a ?_
    | simp (maxDischargeDepth := 3) only [↓X, ↓Y, ↓Q, S1, ↓reduceIte, Nat.reduceEqDiff, Nat.reduceAdd, Int.reduceLT, Int.reduceLE, Int.reduceNeg, Int.reduceBEq, Int.reduceBNe, Int.reduceEq, Nat.reduceLeDiff, Nat.reduceMul, Nat.reduceLT, *]
    | simp (singlePass := true) (maxDischargeDepth := 99) only [*, S2, Nat.reduceLT])
      exact ⟨_, _, rfl, rfl, hN.hn, hw3, hN.l2, hN.hx⟩
variable {v : Value} {vs : List Value} {after : List (List Int)}
theorem chainN_len {nx : List Int} : ∀ {f : Nat} {x : Int} {c : List Nat}, chainN nx f x = some c → c.length ≤ f
  | 0, _, _, h => by cases h
  | f + 1, x, c, h => by
    unfold chainN at h
    split at h
    · obtain rfl := Option.some.inj h; exact Nat.zero_le _
    · obtain ⟨c', h', rfl⟩ := Option.map_eq_some_iff.1 h
      have := chainN_len h'
      simp only [List.length_cons]; omega
theorem chainN_step {nx : List Int} {f : Nat} {x : Int} {y : Nat} {c : List Nat} (h : chainN nx f x = some (y :: c)) : 0 ≤ x ∧ ∃ f', chainN nx f' (nx.getD x.toNat 0) = some c ∧ y = x.toNat := by
  cases f with
  | zero => cases h
  | succ f =>
    unfold chainN at h
    split at h
    · cases h
    · obtain ⟨c', h', e⟩ := Option.map_eq_some_iff.1 h
      obtain ⟨rfl, rfl⟩ := List.cons.inj e
      exact ⟨by omega, f, h', rfl⟩
theorem chainN_end {nx : List Int} {f : Nat} {x : Int} (h : chainN nx f x = some []) : x < 0 := by
  cases f with
  | zero => cases h
  | succ f =>
    unfold chainN at h
    split at h
    · assumption
    · obtain ⟨c', _, e⟩ := Option.map_eq_some_iff.1 h
      cases e
theorem orderChains (hT : TabW w) (hB : B ≤ w.heap.size) (hv : LLR w B v vs after) (hso : (ofS after).1 = 0 → (chainsN (ofS after).2.2 after.length).isSome) : CallsV Tryd.prog 22 #[v] w fun r w' => Ext w w' ∧ ∃ o, r = .tuple #[o, intV (ofS after).1] ∧ OwnLL w' w.heap.size o (if (ofS after).1 = 0 then (chainsN (ofS after).2.2 after.length).getD [] else []) := by
  have hn : Now w := trivial
  have hx : Ext w w := Ext.refl w
  have hT' := fun w' (h : Ext w w') => hT.ext h
  have hV := fun w' (h : Bl B w w') => hv.blz h
  have hbw : Bl B w w := Bl.refl hB
  have hok : (ofS after).1 = 0 → Hid (after.length ≤ 12 ∧ (ofS after).2.1.length = after.length ∧ (ofS after).2.2.length = after.length ∧ (∀ x, (ofS after).2.1.getD x 0 < 4096) ∧ ∀ x, (ofS after).2.2.getD x 0 < 4096) := fun h => by
    obtain ⟨h1, _, h3, _, h5, _, _, _, h9, h10⟩ := ord_ok h
    exact ⟨h1, h3, h5, h9, h10⟩
  replace hV : Hid _ := hV
  have hof := fun w' (h1 : Bl B w w') (h2 : Ext w w') (h3 : B ≤ w'.heap.size) => orderOf (hT' w' h2) h3 (hV.out w' h1)
  unfold OfR at hof
  replace hof : Hid _ := hof
  generalize ofS after = S at *
  obtain ⟨e, ds, al⟩ := S
  simp only at hok hof hso ⊢
  (refine callsV_of Tryd.func22 rfl KR KR ?_; rw [Tryd.results22])
  (repeat' first
    | ((with_reducible refine at_row ?_); refine row1_a fun _ _ _ _ _ _ _ => ?_)
    | with_reducible first | (first | apply alloc_k | apply row_k); intro _ _ _ _ _ _ | (first | apply fork | apply forkp) <;> intro _ | refine forke (fun _ => ?_) fun _ _ => ?_ | refine tail_k fun _ _ _ => ?_ | refine ext_k fun _ _ _ => ?_ | refine need_a ?_ | refine st_agg KR rfl ON fun _ _ _ _ => ?_ | refine wpd_q_a ?_
    | simp (maxDischargeDepth := 3) only [↓X, ↓Y, ↓Q, S1, ↓reduceIte, Nat.reduceEqDiff, Nat.reduceAdd, Int.reduceLT, Int.reduceLE, Int.reduceNeg, Int.reduceBEq, Int.reduceBNe, Int.reduceEq, Nat.reduceLeDiff, Nat.reduceMul, Nat.reduceLT, *]
    | simp (singlePass := true) (maxDischargeDepth := 99) only [*, S2, Nat.reduceLT])
  refine call_k (hof.out _ FR FR FR) ?_
  rintro _ w1 n1 s1 ⟨nv, vd, va, rfl, hone, hrow⟩
  obtain ⟨o1, o2, o3⟩ := hone
  by_cases h0 : e = 0
  rotate_left
  · have e1 : (e == 0) = false := by simpa using h0
    have e2 : (e != 0) = true := by simpa using h0
    clear hok hrow
    (repeat' first
    | ((with_reducible refine at_row ?_); refine row1_a fun _ _ _ _ _ _ _ => ?_)
    | with_reducible first | (first | apply alloc_k | apply row_k); intro _ _ _ _ _ _ | (first | apply fork | apply forkp) <;> intro _ | refine forke (fun _ => ?_) fun _ _ => ?_ | refine tail_k fun _ _ _ => ?_ | refine ext_k fun _ _ _ => ?_ | refine need_a ?_ | refine st_agg KR rfl ON fun _ _ _ _ => ?_ | refine wpd_q_a ?_
    | simp (maxDischargeDepth := 3) only [↓X, ↓Y, ↓Q, S1, ↓reduceIte, Nat.reduceEqDiff, Nat.reduceAdd, Int.reduceLT, Int.reduceLE, Int.reduceNeg, Int.reduceBEq, Int.reduceBNe, Int.reduceEq, Nat.reduceLeDiff, Nat.reduceMul, Nat.reduceLT, *]
    | simp (singlePass := true) (maxDischargeDepth := 99) only [*, S2, Nat.reduceLT])
    exact ⟨_, rfl, OwnLL.nil _ _⟩
  subst h0
  obtain ⟨h12, hdn, han, hdl, hbl⟩ := (hok rfl).out
  obtain ⟨rfl, hvd, hva⟩ := hrow rfl
  have KD := hvd.k (Nat.le_refl _)
  have KA := hva.k (Nat.le_refl _)
  have hpow := two_pow_le h12
  clear hok hrow
  rw [if_pos rfl]
  have hso := hso rfl
  have hA := fun w' (h : Bl w1.heap.size w1 w') => hva.bl h
  replace hA : Hid _ := hA
  have bb1 : Bl w1.heap.size w1 w1 := Bl.refl (Nat.le_refl _)
  have hbl' : Hid (∀ x, al.getD x 0 < 4096) := hbl
  have hsn : (nextN al after.length).isSome := by
    unfold chainsN at hso
    cases h : nextN al after.length with
    | none => rw [h] at hso; cases hso
    | some _ => rfl
  clear hvd hva KD hdl hbl
  (repeat' first
    | ((with_reducible refine at_row ?_); refine row1_a fun _ _ _ _ _ _ _ => ?_)
    | with_reducible first | (first | apply alloc_k | apply row_k); intro _ _ _ _ _ _ | (first | apply fork | apply forkp) <;> intro _ | refine forke (fun _ => ?_) fun _ _ => ?_ | refine tail_k fun _ _ _ => ?_ | refine ext_k fun _ _ _ => ?_ | refine need_a ?_ | refine st_agg KR rfl ON fun _ _ _ _ => ?_ | refine wpd_q_a ?_
    | simp (maxDischargeDepth := 3) only [↓X, ↓Y, ↓Q, S1, ↓reduceIte, Nat.reduceEqDiff, Nat.reduceAdd, Int.reduceLT, Int.reduceLE, Int.reduceNeg, Int.reduceBEq, Int.reduceBNe, Int.reduceEq, Nat.reduceLeDiff, Nat.reduceMul, Nat.reduceLT, *]
    | simp (singlePass := true) (maxDischargeDepth := 99) only [*, S2, Nat.reduceLT])
  refine call_k (orderNext (B := w1.heap.size) h12 han hbl'.out FR (hA.out _ FR) o2 o3 hsn) ?_
  rintro _ w5 n5 s5 ⟨nx, bx, hnx, rfl, hbx, hlx, hnl, hnr⟩
  obtain ⟨all, hall⟩ : ∃ all, chainsL nx after.length ((List.range after.length).drop 0) = some all := by
    unfold chainsN at hso
    rw [hnx] at hso
    cases h : chainsL nx after.length (List.range after.length) with
    | none => rw [show (some nx).bind (fun nx => chainsL nx after.length (List.range after.length)) = chainsL nx after.length (List.range after.length) from rfl, h] at hso; cases hso
    | some y => exact ⟨y, h⟩
  have hres : chainsN al after.length = some all := by
    unfold chainsN
    rw [hnx]
    exact hall
  rw [hres, Option.getD_some]
  have hN5 : Sl w5 w5.heap.size none 1 (.slice (some ⟨bx, 0, none⟩) after.length after.length) (nx.map intV) := row_sl hbx (by rw [List.length_map]; exact hnl.symm) (by rw [List.length_map]; omega)
  have KN := hN5.k (Nat.le_refl _)
  have hSN := fun w' (h : Bl w5.heap.size w5 w') => hN5.bl h
  replace hSN : Hid _ := hSN
  replace hnr : Hid _ := hnr
  have I0 : Hid (chainsL nx after.length ((List.range after.length).drop 0) = some all ∧ [] ++ all = all) := ⟨hall, rfl⟩
  generalize hvn : Value.slice (some ⟨bx, 0, none⟩) after.length after.length = vn at *
  clear hso hall hres hnx hbx hlx hN5 hsn KA
  (repeat' first
    | ((with_reducible refine at_row ?_); refine row1_a fun _ _ _ _ _ _ _ => ?_)
    | with_reducible first | (first | apply alloc_k | apply row_k); intro _ _ _ _ _ _ | (first | apply fork | apply forkp) <;> intro _ | refine forke (fun _ => ?_) fun _ _ => ?_ | refine tail_k fun _ _ _ => ?_ | refine ext_k fun _ _ _ => ?_ | refine need_a ?_ | refine st_agg KR rfl ON fun _ _ _ _ => ?_ | refine wpd_q_a ?_
    | simp (maxDischargeDepth := 3) only [↓X, ↓Y, ↓Q, S1, ↓reduceIte, Nat.reduceEqDiff, Nat.reduceAdd, Int.reduceLT, Int.reduceLE, Int.reduceNeg, Int.reduceBEq, Int.reduceBNe, Int.reduceEq, Nat.reduceLeDiff, Nat.reduceMul, Nat.reduceLT, *]
    | simp (singlePass := true) (maxDischargeDepth := 99) only [*, S2, Nat.reduceLT])
  refine loop_o after.length (fun w0 g0 k g w' => g 23 = .int .i64 k ∧ (g 6 = g0 6 ∧ g 22 = g0 22) ∧ ∃ o, g 7 = o ∧ ∃ out, OwnLL w' w0.heap.size o out ∧ Hid (out.length ≤ k ∧ ∃ rest, chainsL nx after.length ((List.range after.length).drop k) = some rest ∧ out ++ rest = all)) KR (by omega) ?_ ?_ ?_
  · (repeat' first
    | ((with_reducible refine at_row ?_); refine row1_a fun _ _ _ _ _ _ _ => ?_)
    | with_reducible first | (first | apply alloc_k | apply row_k); intro _ _ _ _ _ _ | (first | apply fork | apply forkp) <;> intro _ | refine forke (fun _ => ?_) fun _ _ => ?_ | refine tail_k fun _ _ _ => ?_ | refine ext_k fun _ _ _ => ?_ | refine need_a ?_ | refine st_agg KR rfl ON fun _ _ _ _ => ?_ | refine wpd_q_a ?_
    | simp (maxDischargeDepth := 3) only [↓X, ↓Y, ↓Q, S1, ↓reduceIte, Nat.reduceEqDiff, Nat.reduceAdd, Int.reduceLT, Int.reduceLE, Int.reduceNeg, Int.reduceBEq, Int.reduceBNe, Int.reduceEq, Nat.reduceLeDiff, Nat.reduceMul, Nat.reduceLT, *]
    | simp (singlePass := true) (maxDischargeDepth := 99) only [*, S2, Nat.reduceLT])
    exact ⟨_, rfl, [], OwnLL.nil _ _, Nat.le_refl _, all, I0.out⟩
  · rintro k m g wk hk hlt nk sk bk hw ⟨hi, hf, o, ho6, out, hown, hp⟩
    simp (maxDischargeDepth := 3) only [U, ↓reduceIte, Nat.reduceEqDiff, *] at hf
    obtain ⟨hol, rest, hr, hout⟩ := hp.out
    rw [List.drop_eq_getElem_cons (by rw [List.length_range]; exact hlt), List.getElem_range, chainsL] at hr
    have bw : Bl wk.heap.size wk wk := Bl.refl (Nat.le_refl _)
    have oo := hown.one
    have hOx := fun w' (h : Ext wk w') => hown.ext h
    replace hOx : Hid _ := hOx
    have hxk := Ext.refl wk
    clear hown hp
    cases hcon : nx.contains (k : Int)
    · rw [hcon] at hr
      simp only [Bool.false_eq_true, if_false] at hr
      cases hch : chainN nx (after.length + 1) k with
      | none => rw [hch] at hr; cases hr
      | some c =>
        rw [hch] at hr
        obtain ⟨r2, hr2, rfl⟩ := Option.map_eq_some_iff.1 hr
        have hcl := chainN_len hch
        have J0 : Hid (∃ f, chainN nx f (k : Int) = some (c.drop 0) ∧ -1 ≤ (k : Int) ∧ (k : Int) < after.length) := ⟨_, hch, by omega, by omega⟩
        clear hch hr
        (repeat' first
    | ((with_reducible refine at_row ?_); refine row1_a fun _ _ _ _ _ _ _ => ?_)
    | with_reducible first | (first | apply alloc_k | apply row_k); intro _ _ _ _ _ _ | (first | apply fork | apply forkp) <;> intro _ | refine forke (fun _ => ?_) fun _ _ => ?_ | refine tail_k fun _ _ _ => ?_ | refine ext_k fun _ _ _ => ?_ | refine need_a ?_ | refine st_agg KR rfl ON fun _ _ _ _ => ?_ | refine wpd_q_a ?_
    | ((with_reducible refine at_f 43 ?_); refine ret_k (slicesContainsI (B := w5.heap.size) FR (hSN.out _ FR)) fun _ _ _ => ?_)
    | simp (maxDischargeDepth := 3) only [↓X, ↓Y, ↓Q, S1, ↓reduceIte, Nat.reduceEqDiff, Nat.reduceAdd, Int.reduceLT, Int.reduceLE, Int.reduceNeg, Int.reduceBEq, Int.reduceBNe, Int.reduceEq, Nat.reduceLeDiff, Nat.reduceMul, Nat.reduceLT, *, hcon]
    | simp (singlePass := true) (maxDischargeDepth := 99) only [*, S2, Nat.reduceLT, hcon])
        rename_i wl nl sl
        have hlk : wk.heap.size ≤ wl.heap.size := FR
        have hl5 : w5.heap.size ≤ wl.heap.size := FR
        refine loop_o c.length (fun w0 g0 j g w' => (∃ x : Int, g 10 = .int .i64 x ∧ Hid (∃ f, chainN nx f x = some (c.drop j) ∧ -1 ≤ x ∧ x < after.length)) ∧ (g 6 = g0 6 ∧ g 7 = g0 7 ∧ g 22 = g0 22 ∧ g 23 = g0 23) ∧ ∃ u, g 9 = u ∧ Own w' w0.heap.size 3 1 u ((c.take j).map natC)) KR (by omega) ?_ ?_ ?_
        · (repeat' first
    | ((with_reducible refine at_row ?_); refine row1_a fun _ _ _ _ _ _ _ => ?_)
    | with_reducible first | (first | apply alloc_k | apply row_k); intro _ _ _ _ _ _ | (first | apply fork | apply forkp) <;> intro _ | refine forke (fun _ => ?_) fun _ _ => ?_ | refine tail_k fun _ _ _ => ?_ | refine ext_k fun _ _ _ => ?_ | refine need_a ?_ | refine st_agg KR rfl ON fun _ _ _ _ => ?_ | refine wpd_q_a ?_
    | simp (maxDischargeDepth := 3) only [↓X, ↓Y, ↓Q, S1, ↓reduceIte, Nat.reduceEqDiff, Nat.reduceAdd, Int.reduceLT, Int.reduceLE, Int.reduceNeg, Int.reduceBEq, Int.reduceBNe, Int.reduceEq, Nat.reduceLeDiff, Nat.reduceMul, Nat.reduceLT, *]
    | simp (singlePass := true) (maxDischargeDepth := 99) only [*, S2, Nat.reduceLT])
          exact ⟨⟨_, rfl, J0.out⟩, _, rfl, Own.nil _ _ _ _⟩
        · rintro j m2 g2 w2 hk2 hlt2 n2 s2 b2 hw2 ⟨⟨x, h10, hj⟩, hf2, u, h9, hu⟩
          simp (maxDischargeDepth := 3) only [U, ↓reduceIte, Nat.reduceEqDiff, *] at hf2
          obtain ⟨f, hcf, hx1, hx2⟩ := hj.out
          rw [List.drop_eq_getElem_cons hlt2] at hcf
          obtain ⟨hx0, f', hc2, hcj⟩ := chainN_step hcf
          obtain ⟨y, rfl⟩ : ∃ y : Nat, x = y := ⟨x.toNat, by omega⟩
          rw [Int.toNat_natCast] at hc2 hcj
          have hyl : y < nx.length := by omega
          have hyn : y < after.length := by omega
          have hgy : nx[y] = nx.getD y 0 := by rw [List.getD_eq_getElem?_getD, List.getElem?_eq_getElem hyl]; rfl
          have hry := hnr.out y (by omega)
          have bw2 : Bl w2.heap.size w2 w2 := Bl.refl (Nat.le_refl _)
          have O := hu.o
          have htk : c.take (j + 1) = c.take j ++ [y] := by rw [appLL_take hlt2, hcj]
          have hlen : (c.take j).length < 1000000000000 := by rw [List.length_take]; omega
          have hx2k := Ext.refl w2
          replace htk : Hid _ := htk
          clear hu hj hcf
          (repeat' first
    | ((with_reducible refine at_row ?_); refine row1_a fun _ _ _ _ _ _ _ => ?_)
    | with_reducible first | (first | apply alloc_k | apply row_k); intro _ _ _ _ _ _ | (first | apply fork | apply forkp) <;> intro _ | refine forke (fun _ => ?_) fun _ _ => ?_ | refine tail_k fun _ _ _ => ?_ | refine ext_k fun _ _ _ => ?_ | refine need_a ?_ | refine st_agg KR rfl ON fun _ _ _ _ => ?_ | refine wpd_q_a ?_
    | simp (maxDischargeDepth := 3) only [↓X, ↓Y, ↓Q, S1, ↓reduceIte, Nat.reduceEqDiff, Nat.reduceAdd, Int.reduceLT, Int.reduceLE, Int.reduceNeg, Int.reduceBEq, Int.reduceBNe, Int.reduceEq, Nat.reduceLeDiff, Nat.reduceMul, Nat.reduceLT, *, hgy]
    | simp (singlePass := true) (maxDischargeDepth := 99) only [*, S2, Nat.reduceLT, hgy])
          rename_i b10 w10 n10 k10 s10 q10 l10
          refine appN y (O.1 _ FR) (k10.2.1 _ k10.2.2.1) hlen FR fun v' w9 n9 s9 hown9 => ?_
          rw [← htk.out] at hown9
          have hO9 : Hid _ := hown9
          clear hown9
          (repeat' first
    | ((with_reducible refine at_row ?_); refine row1_a fun _ _ _ _ _ _ _ => ?_)
    | with_reducible first | (first | apply alloc_k | apply row_k); intro _ _ _ _ _ _ | (first | apply fork | apply forkp) <;> intro _ | refine forke (fun _ => ?_) fun _ _ => ?_ | refine tail_k fun _ _ _ => ?_ | refine ext_k fun _ _ _ => ?_ | refine need_a ?_ | refine st_agg KR rfl ON fun _ _ _ _ => ?_ | refine wpd_q_a ?_
    | simp (maxDischargeDepth := 3) only [↓X, ↓Y, ↓Q, S1, ↓reduceIte, Nat.reduceEqDiff, Nat.reduceAdd, Int.reduceLT, Int.reduceLE, Int.reduceNeg, Int.reduceBEq, Int.reduceBNe, Int.reduceEq, Nat.reduceLeDiff, Nat.reduceMul, Nat.reduceLT, *, hgy]
    | simp (singlePass := true) (maxDischargeDepth := 99) only [*, S2, Nat.reduceLT, hgy])
          refine next_k hk2 hlt2 ?_ FR
          (repeat' first
    | ((with_reducible refine at_row ?_); refine row1_a fun _ _ _ _ _ _ _ => ?_)
    | with_reducible first | (first | apply alloc_k | apply row_k); intro _ _ _ _ _ _ | (first | apply fork | apply forkp) <;> intro _ | refine forke (fun _ => ?_) fun _ _ => ?_ | refine tail_k fun _ _ _ => ?_ | refine ext_k fun _ _ _ => ?_ | refine need_a ?_ | refine st_agg KR rfl ON fun _ _ _ _ => ?_ | refine wpd_q_a ?_
    | simp (maxDischargeDepth := 3) only [↓X, ↓Y, ↓Q, S1, ↓reduceIte, Nat.reduceEqDiff, Nat.reduceAdd, Int.reduceLT, Int.reduceLE, Int.reduceNeg, Int.reduceBEq, Int.reduceBNe, Int.reduceEq, Nat.reduceLeDiff, Nat.reduceMul, Nat.reduceLT, *]
    | simp (singlePass := true) (maxDischargeDepth := 99) only [*, S2, Nat.reduceLT])
          exact ⟨⟨_, rfl, f', hc2, hry⟩, _, rfl, hO9.out⟩
        · rintro g2 w2 n2 s2 b2 ⟨⟨x, h10, hj⟩, hf2, u, h9, hu⟩
          simp (maxDischargeDepth := 3) only [U, ↓reduceIte, Nat.reduceEqDiff, *] at hf2
          obtain ⟨f, hcf, hx1, hx2⟩ := hj.out
          rw [List.drop_length] at hcf
          have hx0 := chainN_end hcf
          have hx0' : ¬ (0 ≤ x) := by omega
          rw [List.take_length] at hu
          have O2 := hu.o
          have hol2 : out.length < 1000000000000 := by omega
          clear hu hj hcf
          (repeat' first
    | ((with_reducible refine at_row ?_); refine row1_a fun _ _ _ _ _ _ _ => ?_)
    | with_reducible first | (first | apply alloc_k | apply row_k); intro _ _ _ _ _ _ | (first | apply fork | apply forkp) <;> intro _ | refine forke (fun _ => ?_) fun _ _ => ?_ | refine tail_k fun _ _ _ => ?_ | refine ext_k fun _ _ _ => ?_ | refine need_a ?_ | refine st_agg KR rfl ON fun _ _ _ _ => ?_ | refine wpd_q_a ?_
    | simp (maxDischargeDepth := 3) only [↓X, ↓Y, ↓Q, S1, ↓reduceIte, Nat.reduceEqDiff, Nat.reduceAdd, Int.reduceLT, Int.reduceLE, Int.reduceNeg, Int.reduceBEq, Int.reduceBNe, Int.reduceEq, Nat.reduceLeDiff, Nat.reduceMul, Nat.reduceLT, *]
    | simp (singlePass := true) (maxDischargeDepth := 99) only [*, S2, Nat.reduceLT])
          rename_i b10 w10 n10 k10 s10 q10 l10
          refine appLL (hOx.out _ FR) ((O2.1 _ FR).more FR) (k10.2.1 _ FR) hol2 FR fun v' w9 n9 s9 hown9 => ?_
          have hO9 : Hid _ := hown9
          clear hown9
          (repeat' first
    | ((with_reducible refine at_row ?_); refine row1_a fun _ _ _ _ _ _ _ => ?_)
    | with_reducible first | (first | apply alloc_k | apply row_k); intro _ _ _ _ _ _ | (first | apply fork | apply forkp) <;> intro _ | refine forke (fun _ => ?_) fun _ _ => ?_ | refine tail_k fun _ _ _ => ?_ | refine ext_k fun _ _ _ => ?_ | refine need_a ?_ | refine st_agg KR rfl ON fun _ _ _ _ => ?_ | refine wpd_q_a ?_
    | simp (maxDischargeDepth := 3) only [↓X, ↓Y, ↓Q, S1, ↓reduceIte, Nat.reduceEqDiff, Nat.reduceAdd, Int.reduceLT, Int.reduceLE, Int.reduceNeg, Int.reduceBEq, Int.reduceBNe, Int.reduceEq, Nat.reduceLeDiff, Nat.reduceMul, Nat.reduceLT, *]
    | simp (singlePass := true) (maxDischargeDepth := 99) only [*, S2, Nat.reduceLT])
          refine next_k hk hlt ?_ FR
          (repeat' first
    | ((with_reducible refine at_row ?_); refine row1_a fun _ _ _ _ _ _ _ => ?_)
    | with_reducible first | (first | apply alloc_k | apply row_k); intro _ _ _ _ _ _ | (first | apply fork | apply forkp) <;> intro _ | refine forke (fun _ => ?_) fun _ _ => ?_ | refine tail_k fun _ _ _ => ?_ | refine ext_k fun _ _ _ => ?_ | refine need_a ?_ | refine st_agg KR rfl ON fun _ _ _ _ => ?_ | refine wpd_q_a ?_
    | simp (maxDischargeDepth := 3) only [↓X, ↓Y, ↓Q, S1, ↓reduceIte, Nat.reduceEqDiff, Nat.reduceAdd, Int.reduceLT, Int.reduceLE, Int.reduceNeg, Int.reduceBEq, Int.reduceBNe, Int.reduceEq, Nat.reduceLeDiff, Nat.reduceMul, Nat.reduceLT, *]
    | simp (singlePass := true) (maxDischargeDepth := 99) only [*, S2, Nat.reduceLT])
          exact ⟨_, rfl, out ++ [c], hO9.out, by rw [List.length_append]; simp; omega, r2, rfl, by rw [List.append_assoc]; exact hout⟩
    · rw [hcon] at hr
      simp only [if_true] at hr
      (repeat' first
    | ((with_reducible refine at_row ?_); refine row1_a fun _ _ _ _ _ _ _ => ?_)
    | with_reducible first | (first | apply alloc_k | apply row_k); intro _ _ _ _ _ _ | (first | apply fork | apply forkp) <;> intro _ | refine forke (fun _ => ?_) fun _ _ => ?_ | refine tail_k fun _ _ _ => ?_ | refine ext_k fun _ _ _ => ?_ | refine need_a ?_ | refine st_agg KR rfl ON fun _ _ _ _ => ?_ | refine wpd_q_a ?_
    | ((with_reducible refine at_f 43 ?_); refine ret_k (slicesContainsI (B := w5.heap.size) FR (hSN.out _ FR)) fun _ _ _ => ?_)
    | simp (maxDischargeDepth := 3) only [↓X, ↓Y, ↓Q, S1, ↓reduceIte, Nat.reduceEqDiff, Nat.reduceAdd, Int.reduceLT, Int.reduceLE, Int.reduceNeg, Int.reduceBEq, Int.reduceBNe, Int.reduceEq, Nat.reduceLeDiff, Nat.reduceMul, Nat.reduceLT, *, hcon]
    | simp (singlePass := true) (maxDischargeDepth := 99) only [*, S2, Nat.reduceLT, hcon])
      refine next_k hk hlt ?_ FR
      (repeat' first
    | ((with_reducible refine at_row ?_); refine row1_a fun _ _ _ _ _ _ _ => ?_)
    | with_reducible first | (first | apply alloc_k | apply row_k); intro _ _ _ _ _ _ | (first | apply fork | apply forkp) <;> intro _ | refine forke (fun _ => ?_) fun _ _ => ?_ | refine tail_k fun _ _ _ => ?_ | refine ext_k fun _ _ _ => ?_ | refine need_a ?_ | refine st_agg KR rfl ON fun _ _ _ _ => ?_ | refine wpd_q_a ?_
    | simp (maxDischargeDepth := 3) only [↓X, ↓Y, ↓Q, S1, ↓reduceIte, Nat.reduceEqDiff, Nat.reduceAdd, Int.reduceLT, Int.reduceLE, Int.reduceNeg, Int.reduceBEq, Int.reduceBNe, Int.reduceEq, Nat.reduceLeDiff, Nat.reduceMul, Nat.reduceLT, *]
    | simp (singlePass := true) (maxDischargeDepth := 99) only [*, S2, Nat.reduceLT])
      exact ⟨_, rfl, out, hOx.out _ FR, by omega, rest, rfl, hout⟩
  · rintro g wk nk sk bk ⟨hi, hf, o, ho6, out, hown, hp⟩
    simp (maxDischargeDepth := 3) only [U, ↓reduceIte, Nat.reduceEqDiff, *] at hf
    obtain ⟨hol, rest, hr, hout⟩ := hp.out
    rw [List.drop_eq_nil_of_le (by rw [List.length_range]; exact Nat.le_refl _), chainsL] at hr
    obtain rfl := Option.some.inj hr
    rw [List.append_nil] at hout
    subst hout
    have hO := fun w' (h : Ext wk w') => hown.ext h
    have oo := hown.one
    have hxk := Ext.refl wk
    replace hO : Hid _ := hO
    clear hown
    (repeat' first
    | ((with_reducible refine at_row ?_); refine row1_a fun _ _ _ _ _ _ _ => ?_)
    | with_reducible first | (first | apply alloc_k | apply row_k); intro _ _ _ _ _ _ | (first | apply fork | apply forkp) <;> intro _ | refine forke (fun _ => ?_) fun _ _ => ?_ | refine tail_k fun _ _ _ => ?_ | refine ext_k fun _ _ _ => ?_ | refine need_a ?_ | refine st_agg KR rfl ON fun _ _ _ _ => ?_ | refine wpd_q_a ?_
    | simp (maxDischargeDepth := 3) only [↓X, ↓Y, ↓Q, S1, ↓reduceIte, Nat.reduceEqDiff, Nat.reduceAdd, Int.reduceLT, Int.reduceLE, Int.reduceNeg, Int.reduceBEq, Int.reduceBNe, Int.reduceEq, Nat.reduceLeDiff, Nat.reduceMul, Nat.reduceLT, *]
    | simp (singlePass := true) (maxDischargeDepth := 99) only [*, S2, Nat.reduceLT])
    refine ⟨_, rfl, ?_⟩
    exact (hO.out _ FR).more FR
theorem orderWidth (hT : TabW w) (hB : B ≤ w.heap.size) (hv : LLR w B v vs after) (hso : (ofS after).1 = 0 → (chainsN (ofS after).2.2 after.length).isSome) : Ret Tryd.prog 21 #[v] w (.tuple #[natV (if (ofS after).1 = 0 then (chainsN (ofS after).2.2 after.length).getD [] else []).length, intV (ofS after).1]) := by
  have hn : Now w := trivial
  have hx : Ext w w := Ext.refl w
  have hc := orderChains hT hB hv hso
  generalize (if (ofS after).1 = 0 then (chainsN (ofS after).2.2 after.length).getD [] else []) = L at *
  (refine callsV_of Tryd.func21 rfl KR KR ?_; rw [Tryd.results21])
  (repeat' first
    | ((with_reducible refine at_row ?_); refine row1_a fun _ _ _ _ _ _ _ => ?_)
    | with_reducible first | (first | apply alloc_k | apply row_k); intro _ _ _ _ _ _ | (first | apply fork | apply forkp) <;> intro _ | refine forke (fun _ => ?_) fun _ _ => ?_ | refine tail_k fun _ _ _ => ?_ | refine ext_k fun _ _ _ => ?_ | refine need_a ?_ | refine st_agg KR rfl ON fun _ _ _ _ => ?_ | refine wpd_q_a ?_
    | simp (maxDischargeDepth := 3) only [↓X, ↓Y, ↓Q, S1, ↓reduceIte, Nat.reduceEqDiff, Nat.reduceAdd, Int.reduceLT, Int.reduceLE, Int.reduceNeg, Int.reduceBEq, Int.reduceBNe, Int.reduceEq, Nat.reduceLeDiff, Nat.reduceMul, Nat.reduceLT, *]
    | simp (singlePass := true) (maxDischargeDepth := 99) only [*, S2, Nat.reduceLT])
  refine call_k hc ?_
  rintro _ w1 n1 s1 ⟨o, rfl, ho⟩
  obtain ⟨us, hr⟩ := ho.r
  have hl := hr.len_
  have hl1 := hl.1
  have hl2 := hl.2.1
  have hl3 : lenN o = L.length := by rw [hl.2.2, List.length_map]
  clear hl
  (repeat' first
    | ((with_reducible refine at_row ?_); refine row1_a fun _ _ _ _ _ _ _ => ?_)
    | with_reducible first | (first | apply alloc_k | apply row_k); intro _ _ _ _ _ _ | (first | apply fork | apply forkp) <;> intro _ | refine forke (fun _ => ?_) fun _ _ => ?_ | refine tail_k fun _ _ _ => ?_ | refine ext_k fun _ _ _ => ?_ | refine need_a ?_ | refine st_agg KR rfl ON fun _ _ _ _ => ?_ | refine wpd_q_a ?_
    | simp (maxDischargeDepth := 3) only [↓X, ↓Y, ↓Q, S1, ↓reduceIte, Nat.reduceEqDiff, Nat.reduceAdd, Int.reduceLT, Int.reduceLE, Int.reduceNeg, Int.reduceBEq, Int.reduceBNe, Int.reduceEq, Nat.reduceLeDiff, Nat.reduceMul, Nat.reduceLT, *]
    | simp (singlePass := true) (maxDischargeDepth := 99) only [*, S2, Nat.reduceLT])
end
end Go.Proofs.YteeaccnklkcchaaDoor
