
/- The laws of the layer drift: pair. -/
import Derived.Test.YtmcdgepfhpakiaaGreatRef30
namespace Go.Proofs.YtmcdgepfhpakiaaGreat
set_option linter.unusedSimpArgs false
set_option linter.unusedVariables false
open Go Go.RowKit
set_option maxRecDepth 100000
set_option linter.unusedSectionVars false
set_option maxHeartbeats 2000000
section
variable {w : World}
theorem own2H {b B : Nat} {s t : StateD} (h : Blk w b 76 [.int .u8 s.phase, intV s.firmware, .int .u8 t.phase, intV t.firmware]) (hB : B ≤ b) : OwnH w B (.slice (some ⟨b, 0, none⟩) 2 2) [s, t] :=
  Own.ofBlkN (by simp) h (by intro c hc; simp only [List.map_cons, List.map_nil, List.mem_cons, List.not_mem_nil, or_false] at hc; rcases hc with rfl | rfl <;> rfl) hB (by simp)
theorem own2P {b B : Nat} {s t : ReplicaD} (h : Blk w b 78 [intV s.service, intV s.host, intV t.service, intV t.host]) (hB : B ≤ b) : OwnP w B (.slice (some ⟨b, 0, none⟩) 2 2) [s, t] :=
  Own.ofBlkN (by simp) h (by intro c hc; simp only [List.map_cons, List.map_nil, List.mem_cons, List.not_mem_nil, or_false] at hc; rcases hc with rfl | rfl <;> rfl) hB (by simp)
theorem pair30 : CallsV Tryz.prog 13 #[] w fun v w' => Ext w w' ∧ ∃ h1 r1 h2 r2, v = .tuple #[.agg #[h1, r1], .agg #[h2, r2]] ∧ (OwnH w' w.heap.size h1 [⟨0, 1⟩, ⟨0, 1⟩] ∧ OwnP w' w.heap.size r1 [⟨0, 0⟩, ⟨1, 1⟩]) ∧ (OwnH w' w.heap.size h2 [⟨0, 1⟩, ⟨1, 1⟩] ∧ OwnP w' w.heap.size r2 [⟨0, 1⟩, ⟨1, 1⟩]) := by
  have hn : Now w := trivial
  have hx : Ext w w := Ext.refl w
  (refine callsV_of Tryz.func13 rfl KR KR ?_; rw [Tryz.results13])
  (repeat' first
    | ((with_reducible refine wpd_at 3 ?_); refine wpd_hold ?_)
    | ((with_reducible refine at_row ?_); refine row1_a fun _ _ _ _ _ _ _ => ?_)
    | with_reducible first | (first | apply alloc_k | apply row_k); intro _ _ _ _ _ _ | (first | apply fork | apply forkp) <;> intro _ | refine forke (fun _ => ?_) fun _ _ => ?_ | refine tail_k fun _ _ _ => ?_ | refine ext_k fun _ _ _ => ?_ | refine need_a ?_ | refine st_agg KR rfl ON fun _ _ _ _ => ?_ | refine wpd_q_a ?_
    | simp (maxDischargeDepth := 3) only [↓X, ↓Y, ↓Q, S1, ↓reduceIte, Nat.reduceEqDiff, Nat.reduceAdd, Int.reduceLT, Int.reduceLE, Int.reduceNeg, Int.reduceBEq, Int.reduceBNe, Int.reduceEq, Nat.reduceLeDiff, Nat.reduceMul, Nat.reduceLT, *]
    | simp (singlePass := true) (maxDischargeDepth := 99) only [*, S2, Nat.reduceLT])
  rename_i b0 w0 n0 k0 s0 q0 b1 w1 n1 k1 s1 q1 b6 w6 n6 k6 s6 q6 b9 w9 n9 k9 s9 q9 b2 w2 n2 k2 s2 q2 wA nA kA sA b13 w13 n13 k13 s13 q13 b16 w16 n16 k16 s16 q16 b3 w3 n3 k3 s3 q3 wB nB kB sB
  have hRB : ∀ b ∈ [b0], b < wB.heap.size := by simp only [List.mem_cons, List.not_mem_nil, or_false, forall_eq_or_imp, forall_eq]; exact FR
  unfold wpdH
  refine wpd_relL 3 [b0] [(2, b0)] rfl (fun iI v w9 => match iI with
    | 0 => v = .agg #[.slice (some ⟨b6, 0, none⟩) 2 2, .slice (some ⟨b9, 0, none⟩) 2 2]
    | 1 => v = .agg #[.slice (some ⟨b13, 0, none⟩) 2 2, .slice (some ⟨b16, 0, none⟩) 2 2]
    | 2 => Blk w9 b0 36 [.slice (some ⟨b6, 0, none⟩) 2 2, .slice (some ⟨b9, 0, none⟩) 2 2]
    | _ => False) KR KR KR hRB (by simp only [List.nodup_cons, List.mem_cons, List.not_mem_nil, or_false, not_or, List.nodup_nil, not_false_eq_true, and_true] <;> exact FR) ?_ ?_ ?_
  · intro iI v w1 w2 hR hx9
    match iI, hR with
    | 0, h => exact h
    | 1, h => exact h
    | 2, h => exact h.tb hx9 (fun hX => hX.2 rfl)
  · intro iI oO hi ho gF w9 hx9 hdep hag hun
    have s9 := hx9.sb
    simp only [Sb, List.mem_cons, List.not_mem_nil, or_false, forall_eq_or_imp, forall_eq] at s9
    have n9 : Now w9 := trivial
    have r9 := Ext.refl w9
    have z9 := hx9.size
    rcases iI with _|_|_|iI
    have e := Option.some.inj ho
    subst e
    have a2 := hag.at 2 KR
    simp only [S5, ↓reduceIte, Nat.reduceEqDiff, initF, *] at a2
    have un2 : Kp b0 wB w9 := ⟨hRB _ (by simp), hun 2 _ (by decide) rfl KR⟩
    clear hag hdep ho hun
    refine ⟨fun _ => ?_, fun b hb => by simp [bkL] at hb⟩
    refine relStep_off rfl ?_
    rotate_left
    have e := Option.some.inj ho
    subst e
    have a3 := hag.at 3 KR
    simp only [S5, ↓reduceIte, Nat.reduceEqDiff, initF, *] at a3
    clear hag hdep ho hun
    refine ⟨fun _ => ?_, fun b hb => by simp [bkL] at hb⟩
    refine relStep_off rfl ?_
    rotate_left
    have e := Option.some.inj ho
    subst e
    have a0 := hag.at 0 KR
    simp only [S5, ↓reduceIte, Nat.reduceEqDiff, initF, *] at a0
    have d0 : (gF 18) = .agg #[.slice (some ⟨b6, 0, none⟩) 2 2, .slice (some ⟨b9, 0, none⟩) 2 2] := hdep ⟨0, .data⟩ (by simp) rfl _ _ rfl rfl
    clear hag hdep ho hun
    refine ⟨fun h => by simp [bkL] at h, fun b hb hU => ?_⟩
    obtain rfl : b0 = b := by simpa [bkL] using hb
    refine relStep_off rfl ?_
    rotate_left
    · omega
    all_goals (repeat' first
    | ((with_reducible refine at_row ?_); refine row1_a fun _ _ _ _ _ _ _ => ?_)
    | with_reducible first | (first | apply alloc_k | apply row_k); intro _ _ _ _ _ _ | (first | apply fork | apply forkp) <;> intro _ | refine forke (fun _ => ?_) fun _ _ => ?_ | refine tail_k fun _ _ _ => ?_ | refine ext_k fun _ _ _ => ?_ | refine need_a ?_ | refine st_agg KR rfl ON fun _ _ _ _ => ?_ | refine wpd_q_a ?_
    | simp (maxDischargeDepth := 3) only [↓X, ↓Y, ↓Q, S1, ↓reduceIte, Nat.reduceEqDiff, Nat.reduceAdd, Int.reduceLT, Int.reduceLE, Int.reduceNeg, Int.reduceBEq, Int.reduceBNe, Int.reduceEq, Nat.reduceLeDiff, Nat.reduceMul, Nat.reduceLT, *]
    | simp (singlePass := true) (maxDischargeDepth := 99) only [*, S2, Nat.reduceLT])
    all_goals first
      | (exact stT_agg (vs := [.slice (some ⟨b6, 0, none⟩) 2 2, .slice (some ⟨b9, 0, none⟩) 2 2]) (k0.2.1 wB FR) hU KR rfl (by simp [one_slice]) fun w' hb' hc' => ⟨hc', hb'⟩)
  · intro g9 w9 hx9 hR hS9 hag
    have s9 := hx9.sb
    simp only [Sb, List.mem_cons, List.not_mem_nil, or_false, forall_eq_or_imp, forall_eq] at s9
    have n9 : Now w9 := trivial
    have r9 := Ext.refl w9
    have z9 := hx9.size
    have d1 : (g9 19) = .agg #[.slice (some ⟨b13, 0, none⟩) 2 2, .slice (some ⟨b16, 0, none⟩) 2 2] := hR 1 _ _ (by decide) rfl rfl
    obtain ⟨vs2, d2⟩ := hS9 2 _ (by decide) rfl
    replace d2 : Blk w9 b0 36 [.slice (some ⟨b6, 0, none⟩) 2 2, .slice (some ⟨b9, 0, none⟩) 2 2] := d2
    have a0 := hag.at 0 KR
    have a1 := hag.at 1 KR
    have a36 := hag.at 36 KR
    simp only [S5, ↓reduceIte, Nat.reduceEqDiff, initF, *] at a0 a1 a36
    clear hag hR hS9
    simp only [List.drop_succ_cons, List.drop_zero]
    have kk0 := d2.bk
    (repeat' first
    | ((with_reducible refine at_row ?_); refine row1_a fun _ _ _ _ _ _ _ => ?_)
    | with_reducible first | (first | apply alloc_k | apply row_k); intro _ _ _ _ _ _ | (first | apply fork | apply forkp) <;> intro _ | refine forke (fun _ => ?_) fun _ _ => ?_ | refine tail_k fun _ _ _ => ?_ | refine ext_k fun _ _ _ => ?_ | refine need_a ?_ | refine st_agg KR rfl ON fun _ _ _ _ => ?_ | refine wpd_q_a ?_
    | simp (maxDischargeDepth := 3) only [↓X, ↓Y, ↓Q, S1, ↓reduceIte, Nat.reduceEqDiff, Nat.reduceAdd, Int.reduceLT, Int.reduceLE, Int.reduceNeg, Int.reduceBEq, Int.reduceBNe, Int.reduceEq, Nat.reduceLeDiff, Nat.reduceMul, Nat.reduceLT, *]
    | simp (singlePass := true) (maxDischargeDepth := 99) only [*, S2, Nat.reduceLT])
    exact ⟨_, _, _, _, rfl, ⟨own2H (k6.2.1 _ FR) FR, own2P (k9.2.1 _ FR) FR⟩, own2H (k13.2.1 _ FR) FR, own2P (k16.2.1 _ FR) FR⟩
end
end Go.Proofs.YtmcdgepfhpakiaaGreat
