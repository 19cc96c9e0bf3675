
/- The layer drift: Patch. -/
import Derived.Test.YtmcdgepfhpakiaaGreatDrift5
import Derived.Test.YtmcdgepfhpakiaaGreatClone30
namespace Go.Proofs.YtmcdgepfhpakiaaGreat
set_option linter.unusedSimpArgs false
set_option linter.unusedVariables false
open Go Go.RowKit
set_option maxRecDepth 100000
set_option linter.unusedSectionVars false
set_option maxHeartbeats 2000000
def kindB (k : Int) : Bool := decide (k = 3) || decide (k = 4) || decide (k = 1) || decide (k = 2)
/-- The function of a kind of difference. -/
def EffV (w : World) (k : Int) (v : Value) : Prop := ∃ b1 b3, v = (getM (effM b1 b3) k).getD .nilFunc ∧ Blk w b1 tEff1 effC1 ∧ Blk w b3 tEff3 effC3
theorem EffV.ext {w w' : World} {k : Int} {v : Value} (h : EffV w k v) (hx : Ext w w') : EffV w' k v := by
  obtain ⟨b1, b3, e, k1, k3⟩ := h
  exact ⟨b1, b3, e, k1.ext hx, k3.ext hx⟩
theorem eff_some (b1 b3 : Nat) (k : Int) : (getM (effM b1 b3) k).isSome = kindB k := by
  unfold getM effM kindB
  by_cases h3 : k = 3
  · subst h3; rfl
  · by_cases h4 : k = 4
    · subst h4; rfl
    · by_cases h1 : k = 1
      · subst h1; rfl
      · by_cases h2 : k = 2
        · subst h2; rfl
        · have e3 : ((3 : Int) == k) = false := by simp; omega
          have e4 : ((4 : Int) == k) = false := by simp; omega
          have e1 : ((1 : Int) == k) = false := by simp; omega
          have e2 : ((2 : Int) == k) = false := by simp; omega
          simp [List.find?, e1, e2, e3, e4, h1, h2, h3, h4]
theorem eff_zero (w : World) : (zeroValue 89).run Tryz.prog w = .ok .nilFunc w := by kernel_rfl
section
variable {w : World} {B : Nat} {hv rv : Value} {x : WorldD} {d : DriftD} {v : Value}
theorem eff_call {K : Value → World → Prop} (he : EffV w d.kind v) (hkd : kindB d.kind = true) (hB : B ≤ w.heap.size) (hx0 : WorldR w B hv rv x) (hl1 : x.hosts.length ≤ 1000000) (hl2 : x.replicas.length ≤ 1000000) (hp : ∀ s ∈ x.hosts, 0 ≤ s.phase ∧ s.phase ≤ 255)
    (h : ∀ u w', Now w' → St w w' → OwnW w.heap.size u w' (oneR x d) → K (.tuple #[u, intV (oneE x d)]) w') : callX Tryz.prog v [.agg #[hv, rv], driftV d] w K := by
  obtain ⟨b1, b3, rfl, k1, k3⟩ := he
  have hc3 : callable Tryz.prog 65 = true := by kernel_rfl
  have hc4 : callable Tryz.prog 67 = true := by kernel_rfl
  have hc5 : callable Tryz.prog 69 = true := by kernel_rfl
  have hc6 : callable Tryz.prog 70 = true := by kernel_rfl
  have hK : ∀ {f : FuncId} {args : Array Value}, (CallsV Tryz.prog f args w fun v w' => Ext w w' ∧ ∃ u, v = .tuple #[u, intV (oneE x d)] ∧ OwnW w.heap.size u w' (oneR x d)) → CallsV Tryz.prog f args w K := fun hh => call_k hh fun _ w' n' s' ⟨u, e, o⟩ => by rw [e]; exact h u w' n' s' o
  simp only [kindB, Bool.or_eq_true, decide_eq_true_eq] at hkd
  rcases hkd with ((hk | hk) | hk) | hk
  · have e : getM (effM b1 b3) d.kind = some (.func (.func 65) #[] #[.pointer (some ⟨b1, 0, none⟩)]) := by rw [hk]; rfl
    rw [e]
    simp only [Option.getD_some, callX, hc3, callY]
    exact hK (driftEff3 hB hx0 hl1 hl2 hp k1 hk)
  · have e : getM (effM b1 b3) d.kind = some (.func (.func 67) #[] #[.pointer (some ⟨b1, 0, none⟩)]) := by rw [hk]; rfl
    rw [e]
    simp only [Option.getD_some, callX, hc4, callY]
    exact hK (driftEff4 hB hx0 hl1 hl2 k1 hk)
  · have e : getM (effM b1 b3) d.kind = some (.func (.func 69) #[] #[.pointer (some ⟨b3, 0, none⟩)]) := by rw [hk]; rfl
    rw [e]
    simp only [Option.getD_some, callX, hc5, callY]
    exact hK (driftEff5 hB hx0 hl1 hl2 k3 hk)
  · have e : getM (effM b1 b3) d.kind = some (.func (.func 70) #[] #[.pointer (some ⟨b3, 0, none⟩)]) := by rw [hk]; rfl
    rw [e]
    simp only [Option.getD_some, callX, hc6, callY]
    exact hK (driftEff6 hB hx0 hl1 hl2 k3 hk)
end
def GoodP (y : WorldD) : Prop := y.hosts.length ≤ 1000000 ∧ y.replicas.length ≤ 1000000 ∧ ∀ s ∈ y.hosts, 0 ≤ s.phase ∧ s.phase ≤ 255
theorem GoodP.one {y : WorldD} {d : DriftD} (h : GoodP y) (he : oneE y d = 0) : GoodP (oneW y d) := by
  obtain ⟨h1, h2, h3⟩ := h
  by_cases k3 : d.kind = 3
  · rw [oneE, if_pos k3] at he
    have hr : ¬ (d.is < 0 ∨ 255 < d.is) := fun h9 => by rw [if_pos h9] at he; cases he
    rw [oneW, if_pos k3]
    refine ⟨by simpa using h1, h2, fun s hs => ?_⟩
    rcases List.mem_or_eq_of_mem_set hs with h9 | rfl
    · exact h3 s h9
    · simp only; omega
  · by_cases k4 : d.kind = 4
    · rw [oneW, if_neg k3, if_pos k4]
      refine ⟨by simpa using h1, h2, fun s hs => ?_⟩
      rcases List.mem_or_eq_of_mem_set hs with h9 | rfl
      · exact h3 s h9
      · exact stAt_phase h3 _
    · by_cases k1 : d.kind = 1
      · rw [oneE, if_neg k3, if_neg k4, if_pos k1] at he
        rw [oneW, if_neg k3, if_neg k4, if_pos k1, stopW_eq he]
        exact ⟨h1, Nat.le_trans (stop_len _ _) h2, h3⟩
      · by_cases k2 : d.kind = 2
        · rw [oneE, if_neg k3, if_neg k4, if_neg k1, if_pos k2] at he
          rw [oneW, if_neg k3, if_neg k4, if_neg k1, startW_eq he]
          obtain ⟨_, _, _, _, h24⟩ := startE_iff.1 he
          refine ⟨h1, ?_, h3⟩
          have := len_startL (r := ⟨d.service, d.host⟩) (l := y.replicas)
          simp only at h24 ⊢
          omega
        · rw [oneE, if_neg k3, if_neg k4, if_neg k1, if_neg k2] at he
          cases he
theorem oneE_kind {y : WorldD} {d : DriftD} (h : kindB d.kind = false) : oneE y d = 1 := by
  simp only [kindB, Bool.or_eq_false_iff, decide_eq_false_iff_not] at h
  rw [oneE, if_neg h.1.1.1, if_neg h.1.1.2, if_neg h.1.2, if_neg h.2]
theorem patch_at {x y : WorldD} {l : List DriftD} {k : Nat} (hk : k < l.length) (h : patchG y (l.drop k) = patchG x l) : patchG x l = if oneE y l[k] = 0 then patchG (oneW y l[k]) (l.drop (k + 1)) else (oneE y l[k], noW) := by
  rw [← h, List.drop_eq_getElem_cons hk, patchG]
section
variable {w : World} {B : Nat} {hv rv lv : Value} {x : WorldD} {l : List DriftD}
theorem driftPatch (hB : B ≤ w.heap.size) (hx0 : WorldR w B hv rv x) (hl0 : Sl w B (some 5) 5 lv (l.map driftV)) (hl1 : x.hosts.length ≤ 1000000) (hl2 : x.replicas.length ≤ 1000000) (hp : ∀ s ∈ x.hosts, 0 ≤ s.phase ∧ s.phase ≤ 255) (hk : ∀ d ∈ l, 0 ≤ d.kind ∧ d.kind ≤ 255) :
    CallsV Tryz.prog 15 #[.agg #[hv, rv], lv] w fun v w' => Ext w w' ∧ ∃ u, v = .tuple #[u, intV (patchR x l).1] ∧ OwnW w.heap.size u w' (patchR x l).2 := by
  have hn : Now w := trivial
  have hx : Ext w w := Ext.refl w
  have hx' := hx0.sk hB
  have hX := hx'.2.2.2.2
  have hl' := hl0.k hB
  have hmax := hl0.max_
  have hl1 : Hid _ := hl1
  have hl2 : Hid _ := hl2
  by_cases hs : sortedB x.replicas = true
  · have eP : patchR x l = patchG x l := by rw [patchR, if_pos hs]
    rw [eP]
    (refine callsV_of Tryz.func15 rfl KR KR ?_; rw [Tryz.results15])
    (repeat' first
    | ((with_reducible refine wpd_at 3 ?_); refine wpd_hold ?_)
    | ((with_reducible refine at_row ?_); refine row1_a fun _ _ _ _ _ _ _ => ?_)
    | with_reducible first | (first | apply alloc_k | apply row_k); intro _ _ _ _ _ _ | (first | apply fork | apply forkp) <;> intro _ | refine forke (fun _ => ?_) fun _ _ => ?_ | refine tail_k fun _ _ _ => ?_ | refine ext_k fun _ _ _ => ?_ | refine need_a ?_ | refine st_agg KR rfl ON fun _ _ _ _ => ?_ | refine wpd_q_a ?_
    | ((with_reducible refine at_f 33 ?_); refine ret_k (driftAscending (B := B) (x := x) FR (hX _ FR)) fun _ _ _ => ?_)
    | simp (maxDischargeDepth := 3) only [↓X, ↓Y, ↓Q, S1, ↓reduceIte, Nat.reduceEqDiff, Nat.reduceAdd, Int.reduceLT, Int.reduceLE, Int.reduceNeg, Int.reduceBEq, Int.reduceBNe, Int.reduceEq, Nat.reduceLeDiff, Nat.reduceMul, Nat.reduceLT, *]
    | simp (singlePass := true) (maxDischargeDepth := 99) only [*, S2, Nat.reduceLT])
    rename_i b2 w2 n2 k2 s2 q2 b4 w4 n4 k4 s4 q4 wS nS sS
    have rS := Ext.refl wS
    have B2 : b2 < wS.heap.size := FR
    have B4 : b4 < wS.heap.size := FR
    have hBS : B ≤ wS.heap.size := FR
    have hwb2 : w.heap.size ≤ b2 := FR
    have hwb4 : w.heap.size ≤ b4 := FR
    have hwS : w.heap.size ≤ wS.heap.size := FR
    have h24 : ¬ b2 = b4 ∧ ¬ b4 = b2 := by have h1 : b2 < w2.heap.size := FR; have h2 : w2.heap.size ≤ b4 := FR; omega
    unfold wpdH
    refine wpd_rel 7 (fun iI v w9 => match iI with
      | 0 => v = .pointer (some ⟨b2, 0, none⟩)
      | 1 => v = hv
      | 2 => OwnH w9 wS.heap.size v x.hosts
      | 3 => v = .pointer (some ⟨b2, 1, none⟩)
      | 4 => v = rv
      | 5 => OwnP w9 wS.heap.size v x.replicas
      | 6 => ∃ h r, v = .agg #[h, r] ∧ OwnH w9 wS.heap.size h x.hosts ∧ OwnP w9 wS.heap.size r x.replicas
      | _ => False) KR KR KR ?_ ?_ ?_
    · intro iI v w1 w2 hR hx9
      match iI, hR with
      | 0, h => exact h
      | 1, h => exact h
      | 2, h => exact Own.ext h hx9
      | 3, h => exact h
      | 4, h => exact h
      | 5, h => exact Own.ext h hx9
      | 6, h => exact (let ⟨a, b, e, o1, o2⟩ := h; ⟨a, b, e, Own.ext o1 hx9, Own.ext o2 hx9⟩)
    · intro iI oO hi ho gF w9 hx9 hdep hag
      have s9 := hx9.st
      have n9 : Now w9 := trivial
      have r9 := Ext.refl w9
      have z9 := hx9.size
      rcases iI with _|_|_|_|_|_|_|iI
      · have e := Option.some.inj ho
        subst e
        have a2 := hag.at 2 KR
        simp only [S5, ↓reduceIte, Nat.reduceEqDiff, initF, *] at a2
        clear hag hdep ho
        refine relStep_off rfl ?_
        (repeat' first
    | ((with_reducible refine at_row ?_); refine row1_a fun _ _ _ _ _ _ _ => ?_)
    | with_reducible first | (first | apply alloc_k | apply row_k); intro _ _ _ _ _ _ | (first | apply fork | apply forkp) <;> intro _ | refine forke (fun _ => ?_) fun _ _ => ?_ | refine tail_k fun _ _ _ => ?_ | refine ext_k fun _ _ _ => ?_ | refine need_a ?_ | refine st_agg KR rfl ON fun _ _ _ _ => ?_ | refine wpd_q_a ?_
    | simp (maxDischargeDepth := 3) only [↓X, ↓Y, ↓Q, S1, ↓reduceIte, Nat.reduceEqDiff, Nat.reduceAdd, Int.reduceLT, Int.reduceLE, Int.reduceNeg, Int.reduceBEq, Int.reduceBNe, Int.reduceEq, Nat.reduceLeDiff, Nat.reduceMul, Nat.reduceLT, *]
    | simp (singlePass := true) (maxDischargeDepth := 99) only [*, S2, Nat.reduceLT])
      · have e := Option.some.inj ho
        subst e
        have d0 : (gF 16) = .pointer (some ⟨b2, 0, none⟩) := hdep ⟨0, .data⟩ (by simp) rfl _ _ rfl rfl
        clear hag hdep ho
        refine relStep_off rfl ?_
        (repeat' first
    | ((with_reducible refine at_row ?_); refine row1_a fun _ _ _ _ _ _ _ => ?_)
    | with_reducible first | (first | apply alloc_k | apply row_k); intro _ _ _ _ _ _ | (first | apply fork | apply forkp) <;> intro _ | refine forke (fun _ => ?_) fun _ _ => ?_ | refine tail_k fun _ _ _ => ?_ | refine ext_k fun _ _ _ => ?_ | refine need_a ?_ | refine st_agg KR rfl ON fun _ _ _ _ => ?_ | refine wpd_q_a ?_
    | simp (maxDischargeDepth := 3) only [↓X, ↓Y, ↓Q, S1, ↓reduceIte, Nat.reduceEqDiff, Nat.reduceAdd, Int.reduceLT, Int.reduceLE, Int.reduceNeg, Int.reduceBEq, Int.reduceBNe, Int.reduceEq, Nat.reduceLeDiff, Nat.reduceMul, Nat.reduceLT, *]
    | simp (singlePass := true) (maxDischargeDepth := 99) only [*, S2, Nat.reduceLT])
      · have e := Option.some.inj ho
        subst e
        have d1 : (gF 17) = hv := hdep ⟨1, .data⟩ (by simp) rfl _ _ rfl rfl
        clear hag hdep ho
        refine relStep_off rfl ?_
        (repeat' first
    | ((with_reducible refine at_row ?_); refine row1_a fun _ _ _ _ _ _ _ => ?_)
    | with_reducible first | (first | apply alloc_k | apply row_k); intro _ _ _ _ _ _ | (first | apply fork | apply forkp) <;> intro _ | refine forke (fun _ => ?_) fun _ _ => ?_ | refine tail_k fun _ _ _ => ?_ | refine ext_k fun _ _ _ => ?_ | refine need_a ?_ | refine st_agg KR rfl ON fun _ _ _ _ => ?_ | refine wpd_q_a ?_
    | simp (maxDischargeDepth := 3) only [↓X, ↓Y, ↓Q, S1, ↓reduceIte, Nat.reduceEqDiff, Nat.reduceAdd, Int.reduceLT, Int.reduceLE, Int.reduceNeg, Int.reduceBEq, Int.reduceBNe, Int.reduceEq, Nat.reduceLeDiff, Nat.reduceMul, Nat.reduceLT, *]
    | simp (singlePass := true) (maxDischargeDepth := 99) only [*, S2, Nat.reduceLT])
        refine CallsV.mono (slicesCloneH (B := B) FR (WorldR.h (hX _ FR)) hl1.out) fun v w10 hh => ⟨hh.1, Own.more hh.2 z9⟩
      · have e := Option.some.inj ho
        subst e
        have a2 := hag.at 2 KR
        simp only [S5, ↓reduceIte, Nat.reduceEqDiff, initF, *] at a2
        clear hag hdep ho
        refine relStep_off rfl ?_
        (repeat' first
    | ((with_reducible refine at_row ?_); refine row1_a fun _ _ _ _ _ _ _ => ?_)
    | with_reducible first | (first | apply alloc_k | apply row_k); intro _ _ _ _ _ _ | (first | apply fork | apply forkp) <;> intro _ | refine forke (fun _ => ?_) fun _ _ => ?_ | refine tail_k fun _ _ _ => ?_ | refine ext_k fun _ _ _ => ?_ | refine need_a ?_ | refine st_agg KR rfl ON fun _ _ _ _ => ?_ | refine wpd_q_a ?_
    | simp (maxDischargeDepth := 3) only [↓X, ↓Y, ↓Q, S1, ↓reduceIte, Nat.reduceEqDiff, Nat.reduceAdd, Int.reduceLT, Int.reduceLE, Int.reduceNeg, Int.reduceBEq, Int.reduceBNe, Int.reduceEq, Nat.reduceLeDiff, Nat.reduceMul, Nat.reduceLT, *]
    | simp (singlePass := true) (maxDischargeDepth := 99) only [*, S2, Nat.reduceLT])
      · have e := Option.some.inj ho
        subst e
        have d3 : (gF 19) = .pointer (some ⟨b2, 1, none⟩) := hdep ⟨3, .data⟩ (by simp) rfl _ _ rfl rfl
        clear hag hdep ho
        refine relStep_off rfl ?_
        (repeat' first
    | ((with_reducible refine at_row ?_); refine row1_a fun _ _ _ _ _ _ _ => ?_)
    | with_reducible first | (first | apply alloc_k | apply row_k); intro _ _ _ _ _ _ | (first | apply fork | apply forkp) <;> intro _ | refine forke (fun _ => ?_) fun _ _ => ?_ | refine tail_k fun _ _ _ => ?_ | refine ext_k fun _ _ _ => ?_ | refine need_a ?_ | refine st_agg KR rfl ON fun _ _ _ _ => ?_ | refine wpd_q_a ?_
    | simp (maxDischargeDepth := 3) only [↓X, ↓Y, ↓Q, S1, ↓reduceIte, Nat.reduceEqDiff, Nat.reduceAdd, Int.reduceLT, Int.reduceLE, Int.reduceNeg, Int.reduceBEq, Int.reduceBNe, Int.reduceEq, Nat.reduceLeDiff, Nat.reduceMul, Nat.reduceLT, *]
    | simp (singlePass := true) (maxDischargeDepth := 99) only [*, S2, Nat.reduceLT])
      · have e := Option.some.inj ho
        subst e
        have d4 : (gF 20) = rv := hdep ⟨4, .data⟩ (by simp) rfl _ _ rfl rfl
        clear hag hdep ho
        refine relStep_off rfl ?_
        (repeat' first
    | ((with_reducible refine at_row ?_); refine row1_a fun _ _ _ _ _ _ _ => ?_)
    | with_reducible first | (first | apply alloc_k | apply row_k); intro _ _ _ _ _ _ | (first | apply fork | apply forkp) <;> intro _ | refine forke (fun _ => ?_) fun _ _ => ?_ | refine tail_k fun _ _ _ => ?_ | refine ext_k fun _ _ _ => ?_ | refine need_a ?_ | refine st_agg KR rfl ON fun _ _ _ _ => ?_ | refine wpd_q_a ?_
    | simp (maxDischargeDepth := 3) only [↓X, ↓Y, ↓Q, S1, ↓reduceIte, Nat.reduceEqDiff, Nat.reduceAdd, Int.reduceLT, Int.reduceLE, Int.reduceNeg, Int.reduceBEq, Int.reduceBNe, Int.reduceEq, Nat.reduceLeDiff, Nat.reduceMul, Nat.reduceLT, *]
    | simp (singlePass := true) (maxDischargeDepth := 99) only [*, S2, Nat.reduceLT])
        refine CallsV.mono (slicesCloneP (B := B) FR (WorldR.r (hX _ FR)) hl2.out) fun v w10 hh => ⟨hh.1, Own.more hh.2 z9⟩
      · have e := Option.some.inj ho
        subst e
        have d2 : OwnH w9 wS.heap.size (gF 18) x.hosts := hdep ⟨2, .data⟩ (by simp) rfl _ _ rfl rfl
        have O2 := d2.o
        have d5 : OwnP w9 wS.heap.size (gF 21) x.replicas := hdep ⟨5, .data⟩ (by simp) rfl _ _ rfl rfl
        have O5 := d5.o
        clear hag hdep ho
        refine relStep_off rfl ?_
        (repeat' first
    | ((with_reducible refine at_row ?_); refine row1_a fun _ _ _ _ _ _ _ => ?_)
    | with_reducible first | (first | apply alloc_k | apply row_k); intro _ _ _ _ _ _ | (first | apply fork | apply forkp) <;> intro _ | refine forke (fun _ => ?_) fun _ _ => ?_ | refine tail_k fun _ _ _ => ?_ | refine ext_k fun _ _ _ => ?_ | refine need_a ?_ | refine st_agg KR rfl ON fun _ _ _ _ => ?_ | refine wpd_q_a ?_
    | simp (maxDischargeDepth := 3) only [↓X, ↓Y, ↓Q, S1, ↓reduceIte, Nat.reduceEqDiff, Nat.reduceAdd, Int.reduceLT, Int.reduceLE, Int.reduceNeg, Int.reduceBEq, Int.reduceBNe, Int.reduceEq, Nat.reduceLeDiff, Nat.reduceMul, Nat.reduceLT, *]
    | simp (singlePass := true) (maxDischargeDepth := 99) only [*, S2, Nat.reduceLT])
        exact ⟨_, _, rfl, d2, d5⟩
      · omega
    · intro g9 w9 hx9 hR hag
      have s9 := hx9.st
      have n9 : Now w9 := trivial
      have r9 := Ext.refl w9
      have z9 := hx9.size
      have d6 : ∃ h r, (g9 22) = .agg #[h, r] ∧ OwnH w9 wS.heap.size h x.hosts ∧ OwnP w9 wS.heap.size r x.replicas := hR 6 _ _ (by decide) rfl rfl
      obtain ⟨h6, r6, e6, oh6, or6⟩ := d6
      have H6 := oh6.o
      have R6 := or6.o
      have a61 := oh6.one
      have a62 := or6.one
      clear oh6 or6
      have a1 := hag.at 1 KR
      have a2 := hag.at 2 KR
      have a4 := hag.at 4 KR
      have a36 := hag.at 36 KR
      simp only [S5, ↓reduceIte, Nat.reduceEqDiff, initF, *] at a1 a2 a4 a36
      clear hag hR
      simp only [List.drop_succ_cons, List.drop_zero]
      (repeat' first
    | ((with_reducible refine at_row ?_); refine row1_a fun _ _ _ _ _ _ _ => ?_)
    | with_reducible first | (first | apply alloc_k | apply row_k); intro _ _ _ _ _ _ | (first | apply fork | apply forkp) <;> intro _ | refine forke (fun _ => ?_) fun _ _ => ?_ | refine tail_k fun _ _ _ => ?_ | refine ext_k fun _ _ _ => ?_ | refine need_a ?_ | refine st_agg KR rfl ON fun _ _ _ _ => ?_ | refine wpd_q_a ?_
    | simp (maxDischargeDepth := 3) only [↓X, ↓Y, ↓Q, S1, ↓reduceIte, Nat.reduceEqDiff, Nat.reduceAdd, Int.reduceLT, Int.reduceLE, Int.reduceNeg, Int.reduceBEq, Int.reduceBNe, Int.reduceEq, Nat.reduceLeDiff, Nat.reduceMul, Nat.reduceLT, *]
    | simp (singlePass := true) (maxDischargeDepth := 99) only [*, S2, Nat.reduceLT])
      rename_i wL nL kL sL
      have hoL : OwnH wL wS.heap.size h6 x.hosts := H6.1 _ FR
      have roL : OwnP wL wS.heap.size r6 x.replicas := R6.1 _ FR
      have KL := kL.2.1 wL FR
      have K4 := k4.2.1 wL FR
      have hxL : Ext w wL := FR
      have hBL : Bl B w wL := FR
      have hSL : wS.heap.size ≤ wL.heap.size := FR
      clear H6 R6 a61 a62 kL k2 k4 sL e6
      have k4 := K4.bk
      have hb2 : b2 < wL.heap.size := Nat.lt_of_lt_of_le B2 hSL
      have hBb2 : B ≤ b2 := FR
      refine loop_b b2 l.length (fun g0 k g w' => g 25 = .int .i64 (k : Int) ∧ (g 2 = g0 2 ∧ g 4 = g0 4 ∧ g 23 = g0 23 ∧ g 24 = g0 24) ∧ Hid (∃ y h r, Blk w' b2 36 [h, r] ∧ OwnH w' wS.heap.size h y.hosts ∧ OwnP w' wS.heap.size r y.replicas ∧ GoodP y ∧ patchG y (l.drop k) = patchG x l)) KR hmax hb2 ?_ ?_ ?_
      · (repeat' first
    | ((with_reducible refine at_row ?_); refine row1_a fun _ _ _ _ _ _ _ => ?_)
    | with_reducible first | (first | apply alloc_k | apply row_k); intro _ _ _ _ _ _ | (first | apply fork | apply forkp) <;> intro _ | refine forke (fun _ => ?_) fun _ _ => ?_ | refine tail_k fun _ _ _ => ?_ | refine ext_k fun _ _ _ => ?_ | refine need_a ?_ | refine st_agg KR rfl ON fun _ _ _ _ => ?_ | refine wpd_q_a ?_
    | simp (maxDischargeDepth := 3) only [↓X, ↓Y, ↓Q, S1, ↓reduceIte, Nat.reduceEqDiff, Nat.reduceAdd, Int.reduceLT, Int.reduceLE, Int.reduceNeg, Int.reduceBEq, Int.reduceBNe, Int.reduceEq, Nat.reduceLeDiff, Nat.reduceMul, Nat.reduceLT, *]
    | simp (singlePass := true) (maxDischargeDepth := 99) only [*, S2, Nat.reduceLT])
        exact ⟨x, h6, r6, KL, hoL, roL, ⟨hl1.out, hl2.out, hp⟩, rfl⟩
      · rintro k m g wk hk' hlt nk sk ck hbk hw ⟨hi, hf, hq⟩
        simp (maxDischargeDepth := 3) only [U, ↓reduceIte, Nat.reduceEqDiff, *] at hf
        obtain ⟨y, h, r, kb, oh, or, hg, hpat⟩ := hq.out
        have k2 := kb.bk
        have oH := oh.o
        have oR := or.o
        have hpk := patch_at hlt hpat
        replace hpk : Hid _ := hpk
        have rk := Ext.refl wk
        have hxk : Ext w wk := FR
        clear hq kb hpat
        (repeat' first
    | ((with_reducible refine wpd_at 7 ?_); refine wpd_hold ?_)
    | ((with_reducible refine at_row ?_); refine row1_a fun _ _ _ _ _ _ _ => ?_)
    | with_reducible first | (first | apply alloc_k | apply row_k); intro _ _ _ _ _ _ | (first | apply fork | apply forkp) <;> intro _ | refine forke (fun _ => ?_) fun _ _ => ?_ | refine tail_k fun _ _ _ => ?_ | refine ext_k fun _ _ _ => ?_ | refine need_a ?_ | refine st_agg KR rfl ON fun _ _ _ _ => ?_ | refine wpd_q_a ?_
    | simp (maxDischargeDepth := 3) only [↓X, ↓Y, ↓Q, S1, ↓reduceIte, Nat.reduceEqDiff, Nat.reduceAdd, Int.reduceLT, Int.reduceLE, Int.reduceNeg, Int.reduceBEq, Int.reduceBNe, Int.reduceEq, Nat.reduceLeDiff, Nat.reduceMul, Nat.reduceLT, *, driftV, driftC]
    | simp (singlePass := true) (maxDischargeDepth := 99) only [*, S2, Nat.reduceLT, driftV, driftC])
        rename_i bd wd nd kd sd qd wE nE kE sE
        have rE := Ext.refl wE
        have hkw : (Lit.int .u8 l[k].kind).wf = true := by
          have := hk _ (List.getElem_mem hlt)
          have h1 : IntKind.u8.min = 0 := rfl
          have h2 : IntKind.u8.max = 255 := rfl
          simp [Lit.wf, h1, h2]
          omega
        have hxE : Ext wk wE := FR
        have hkB : Hid (kindB l[k].kind = kindB l[k].kind) := rfl
        generalize hkB0 : kindB l[k].kind = kb at hkB
        replace hkB0 : Hid _ := hkB0
        clear hkB
        have hxwE : Ext w wE := hxk.trans hxE
        unfold wpdH
        refine wpd_rel 8 (fun iI v w9 => match iI with
          | 0 => ∃ bm b1 b3, v = .map (some bm) ∧ MapB w9 bm .u8 (effM b1 b3) ∧ Blk w9 b1 tEff1 effC1 ∧ Blk w9 b3 tEff3 effC3
          | 1 => v = .pointer (some ⟨bd, 0, none⟩)
          | 2 => v = .int .u8 l[k].kind
          | 3 => ∃ u, v = .tuple #[u, .bool kb] ∧ EffV w9 l[k].kind u
          | 4 => ∃ u, v = .tuple #[u, .bool kb] ∧ EffV w9 l[k].kind u
          | 5 => EffV w9 l[k].kind v
          | 6 => v = .bool kb
          | 7 => EffV w9 l[k].kind v
          | _ => False) KR KR KR ?_ ?_ ?_
        · intro iI v w1 w2 hR hx9
          match iI, hR with
          | 0, h => exact (let ⟨a, b, c, e, m1, o1, o2⟩ := h; ⟨a, b, c, e, m1.ext hx9, o1.ext hx9, o2.ext hx9⟩)
          | 1, h => exact h
          | 2, h => exact h
          | 3, h => exact (let ⟨u, e, o⟩ := h; ⟨u, e, o.ext hx9⟩)
          | 4, h => exact (let ⟨u, e, o⟩ := h; ⟨u, e, o.ext hx9⟩)
          | 5, h => exact EffV.ext h hx9
          | 6, h => exact h
          | 7, h => exact EffV.ext h hx9
        · intro iI oO hi ho gF w9 hx9 hdep hag
          have s9 := hx9.st
          have n9 : Now w9 := trivial
          have r9 := Ext.refl w9
          have z9 := hx9.size
          rcases iI with _|_|_|_|_|_|_|_|iI
          · have e := Option.some.inj ho
            subst e
            clear hag hdep ho
            refine relStep_off rfl ?_
            (repeat' first
    | ((with_reducible refine at_row ?_); refine row1_a fun _ _ _ _ _ _ _ => ?_)
    | with_reducible first | (first | apply alloc_k | apply row_k); intro _ _ _ _ _ _ | (first | apply fork | apply forkp) <;> intro _ | refine forke (fun _ => ?_) fun _ _ => ?_ | refine tail_k fun _ _ _ => ?_ | refine ext_k fun _ _ _ => ?_ | refine need_a ?_ | refine st_agg KR rfl ON fun _ _ _ _ => ?_ | refine wpd_q_a ?_
    | simp (maxDischargeDepth := 3) only [↓X, ↓Y, ↓Q, S1, ↓reduceIte, Nat.reduceEqDiff, Nat.reduceAdd, Int.reduceLT, Int.reduceLE, Int.reduceNeg, Int.reduceBEq, Int.reduceBNe, Int.reduceEq, Nat.reduceLeDiff, Nat.reduceMul, Nat.reduceLT, *]
    | simp (singlePass := true) (maxDischargeDepth := 99) only [*, S2, Nat.reduceLT])
            refine CallsV.mono driftEffects fun v w10 hh => ⟨hh.1, ?_⟩
            obtain ⟨_, bm, b1, b3, e, m1, o1, o2, _, _⟩ := hh
            exact ⟨bm, b1, b3, e, m1, o1, o2⟩
          · have e := Option.some.inj ho
            subst e
            have a7 := hag.at 7 KR
            simp only [S5, ↓reduceIte, Nat.reduceEqDiff, initF, *] at a7
            clear hag hdep ho
            refine relStep_off rfl ?_
            (repeat' first
    | ((with_reducible refine at_row ?_); refine row1_a fun _ _ _ _ _ _ _ => ?_)
    | with_reducible first | (first | apply alloc_k | apply row_k); intro _ _ _ _ _ _ | (first | apply fork | apply forkp) <;> intro _ | refine forke (fun _ => ?_) fun _ _ => ?_ | refine tail_k fun _ _ _ => ?_ | refine ext_k fun _ _ _ => ?_ | refine need_a ?_ | refine st_agg KR rfl ON fun _ _ _ _ => ?_ | refine wpd_q_a ?_
    | simp (maxDischargeDepth := 3) only [↓X, ↓Y, ↓Q, S1, ↓reduceIte, Nat.reduceEqDiff, Nat.reduceAdd, Int.reduceLT, Int.reduceLE, Int.reduceNeg, Int.reduceBEq, Int.reduceBNe, Int.reduceEq, Nat.reduceLeDiff, Nat.reduceMul, Nat.reduceLT, *]
    | simp (singlePass := true) (maxDischargeDepth := 99) only [*, S2, Nat.reduceLT])
          · have e := Option.some.inj ho
            subst e
            have d1 : (gF 31) = .pointer (some ⟨bd, 0, none⟩) := hdep ⟨1, .data⟩ (by simp) rfl _ _ rfl rfl
            clear hag hdep ho
            refine relStep_off rfl ?_
            (repeat' first
    | ((with_reducible refine at_row ?_); refine row1_a fun _ _ _ _ _ _ _ => ?_)
    | with_reducible first | (first | apply alloc_k | apply row_k); intro _ _ _ _ _ _ | (first | apply fork | apply forkp) <;> intro _ | refine forke (fun _ => ?_) fun _ _ => ?_ | refine tail_k fun _ _ _ => ?_ | refine ext_k fun _ _ _ => ?_ | refine need_a ?_ | refine st_agg KR rfl ON fun _ _ _ _ => ?_ | refine wpd_q_a ?_
    | simp (maxDischargeDepth := 3) only [↓X, ↓Y, ↓Q, S1, ↓reduceIte, Nat.reduceEqDiff, Nat.reduceAdd, Int.reduceLT, Int.reduceLE, Int.reduceNeg, Int.reduceBEq, Int.reduceBNe, Int.reduceEq, Nat.reduceLeDiff, Nat.reduceMul, Nat.reduceLT, *]
    | simp (singlePass := true) (maxDischargeDepth := 99) only [*, S2, Nat.reduceLT])
          · have e := Option.some.inj ho
            subst e
            have d0 : ∃ bm b1 b3, (gF 30) = .map (some bm) ∧ MapB w9 bm .u8 (effM b1 b3) ∧ Blk w9 b1 tEff1 effC1 ∧ Blk w9 b3 tEff3 effC3 := hdep ⟨0, .data⟩ (by simp) rfl _ _ rfl rfl
            obtain ⟨bm0, b10, b30, e0, m0, o10, o30⟩ := d0
            have d2 : (gF 32) = .int .u8 l[k].kind := hdep ⟨2, .data⟩ (by simp) rfl _ _ rfl rfl
            clear hag hdep ho
            refine relStep_off rfl ?_
            (repeat' first
    | ((with_reducible refine at_row ?_); refine row1_a fun _ _ _ _ _ _ _ => ?_)
    | with_reducible first | (first | apply alloc_k | apply row_k); intro _ _ _ _ _ _ | (first | apply fork | apply forkp) <;> intro _ | refine forke (fun _ => ?_) fun _ _ => ?_ | refine tail_k fun _ _ _ => ?_ | refine ext_k fun _ _ _ => ?_ | refine need_a ?_ | refine st_agg KR rfl ON fun _ _ _ _ => ?_ | refine wpd_q_a ?_
    | simp (maxDischargeDepth := 3) only [↓X, ↓Y, ↓Q, S1, ↓reduceIte, Nat.reduceEqDiff, Nat.reduceAdd, Int.reduceLT, Int.reduceLE, Int.reduceNeg, Int.reduceBEq, Int.reduceBNe, Int.reduceEq, Nat.reduceLeDiff, Nat.reduceMul, Nat.reduceLT, *]
    | simp (singlePass := true) (maxDischargeDepth := 99) only [*, S2, Nat.reduceLT])
            refine lookup_k e0 d2 m0 kind_under eff_under hkw (eff_zero _) ?_
            exact ⟨Ext.refl _, _, (by rw [eff_some, hkB0.out]; rfl), b10, b30, rfl, o10, o30⟩
          · have e := Option.some.inj ho
            subst e
            have d3 : ∃ u, (gF 33) = .tuple #[u, .bool kb] ∧ EffV w9 l[k].kind u := hdep ⟨3, .data⟩ (by simp) rfl _ _ rfl rfl
            obtain ⟨u3, e3, o3⟩ := d3
            clear hag hdep ho
            refine relStep_off rfl ?_
            (repeat' first
    | ((with_reducible refine at_row ?_); refine row1_a fun _ _ _ _ _ _ _ => ?_)
    | with_reducible first | (first | apply alloc_k | apply row_k); intro _ _ _ _ _ _ | (first | apply fork | apply forkp) <;> intro _ | refine forke (fun _ => ?_) fun _ _ => ?_ | refine tail_k fun _ _ _ => ?_ | refine ext_k fun _ _ _ => ?_ | refine need_a ?_ | refine st_agg KR rfl ON fun _ _ _ _ => ?_ | refine wpd_q_a ?_
    | simp (maxDischargeDepth := 3) only [↓X, ↓Y, ↓Q, S1, ↓reduceIte, Nat.reduceEqDiff, Nat.reduceAdd, Int.reduceLT, Int.reduceLE, Int.reduceNeg, Int.reduceBEq, Int.reduceBNe, Int.reduceEq, Nat.reduceLeDiff, Nat.reduceMul, Nat.reduceLT, *]
    | simp (singlePass := true) (maxDischargeDepth := 99) only [*, S2, Nat.reduceLT])
            exact ⟨u3, rfl, o3⟩
          · have e := Option.some.inj ho
            subst e
            have d4 : ∃ u, (gF 29) = .tuple #[u, .bool kb] ∧ EffV w9 l[k].kind u := hdep ⟨4, .data⟩ (by simp) rfl _ _ rfl rfl
            obtain ⟨u4, e4, o4⟩ := d4
            clear hag hdep ho
            refine relStep_off rfl ?_
            (repeat' first
    | ((with_reducible refine at_row ?_); refine row1_a fun _ _ _ _ _ _ _ => ?_)
    | with_reducible first | (first | apply alloc_k | apply row_k); intro _ _ _ _ _ _ | (first | apply fork | apply forkp) <;> intro _ | refine forke (fun _ => ?_) fun _ _ => ?_ | refine tail_k fun _ _ _ => ?_ | refine ext_k fun _ _ _ => ?_ | refine need_a ?_ | refine st_agg KR rfl ON fun _ _ _ _ => ?_ | refine wpd_q_a ?_
    | simp (maxDischargeDepth := 3) only [↓X, ↓Y, ↓Q, S1, ↓reduceIte, Nat.reduceEqDiff, Nat.reduceAdd, Int.reduceLT, Int.reduceLE, Int.reduceNeg, Int.reduceBEq, Int.reduceBNe, Int.reduceEq, Nat.reduceLeDiff, Nat.reduceMul, Nat.reduceLT, *]
    | simp (singlePass := true) (maxDischargeDepth := 99) only [*, S2, Nat.reduceLT])
            all_goals exact o4
          · have e := Option.some.inj ho
            subst e
            have d4 : ∃ u, (gF 29) = .tuple #[u, .bool kb] ∧ EffV w9 l[k].kind u := hdep ⟨4, .data⟩ (by simp) rfl _ _ rfl rfl
            obtain ⟨u4, e4, o4⟩ := d4
            clear hag hdep ho
            refine relStep_off rfl ?_
            (repeat' first
    | ((with_reducible refine at_row ?_); refine row1_a fun _ _ _ _ _ _ _ => ?_)
    | with_reducible first | (first | apply alloc_k | apply row_k); intro _ _ _ _ _ _ | (first | apply fork | apply forkp) <;> intro _ | refine forke (fun _ => ?_) fun _ _ => ?_ | refine tail_k fun _ _ _ => ?_ | refine ext_k fun _ _ _ => ?_ | refine need_a ?_ | refine st_agg KR rfl ON fun _ _ _ _ => ?_ | refine wpd_q_a ?_
    | simp (maxDischargeDepth := 3) only [↓X, ↓Y, ↓Q, S1, ↓reduceIte, Nat.reduceEqDiff, Nat.reduceAdd, Int.reduceLT, Int.reduceLE, Int.reduceNeg, Int.reduceBEq, Int.reduceBNe, Int.reduceEq, Nat.reduceLeDiff, Nat.reduceMul, Nat.reduceLT, *]
    | simp (singlePass := true) (maxDischargeDepth := 99) only [*, S2, Nat.reduceLT])
          · have e := Option.some.inj ho
            subst e
            have d5 : EffV w9 l[k].kind (gF 34) := hdep ⟨5, .data⟩ (by simp) rfl _ _ rfl rfl
            have E5 := d5
            clear hag hdep ho
            refine relStep_off rfl ?_
            (repeat' first
    | ((with_reducible refine at_row ?_); refine row1_a fun _ _ _ _ _ _ _ => ?_)
    | with_reducible first | (first | apply alloc_k | apply row_k); intro _ _ _ _ _ _ | (first | apply fork | apply forkp) <;> intro _ | refine forke (fun _ => ?_) fun _ _ => ?_ | refine tail_k fun _ _ _ => ?_ | refine ext_k fun _ _ _ => ?_ | refine need_a ?_ | refine st_agg KR rfl ON fun _ _ _ _ => ?_ | refine wpd_q_a ?_
    | simp (maxDischargeDepth := 3) only [↓X, ↓Y, ↓Q, S1, ↓reduceIte, Nat.reduceEqDiff, Nat.reduceAdd, Int.reduceLT, Int.reduceLE, Int.reduceNeg, Int.reduceBEq, Int.reduceBNe, Int.reduceEq, Nat.reduceLeDiff, Nat.reduceMul, Nat.reduceLT, *]
    | simp (singlePass := true) (maxDischargeDepth := 99) only [*, S2, Nat.reduceLT])
            all_goals exact E5
          · omega
        · intro g9 w9 hx9 hR hag
          have s9 := hx9.st
          have n9 : Now w9 := trivial
          have r9 := Ext.refl w9
          have z9 := hx9.size
          have d6 : (g9 35) = .bool kb := hR 6 _ _ (by decide) rfl rfl
          have d7 : EffV w9 l[k].kind (g9 8) := hR 7 _ _ (by decide) rfl rfl
          have E7 := d7
          have a2 := hag.at 2 KR
          have a4 := hag.at 4 KR
          have a7 := hag.at 7 KR
          have a23 := hag.at 23 KR
          have a24 := hag.at 24 KR
          have a25 := hag.at 25 KR
          simp only [S5, ↓reduceIte, Nat.reduceEqDiff, initF, *] at a2 a4 a7 a23 a24 a25
          clear hag hR
          simp only [List.drop_succ_cons, List.drop_zero]
          (repeat' first
    | ((with_reducible refine at_row ?_); refine row1_a fun _ _ _ _ _ _ _ => ?_)
    | with_reducible first | (first | apply alloc_k | apply row_k); intro _ _ _ _ _ _ | (first | apply fork | apply forkp) <;> intro _ | refine forke (fun _ => ?_) fun _ _ => ?_ | refine tail_k fun _ _ _ => ?_ | refine ext_k fun _ _ _ => ?_ | refine need_a ?_ | refine st_agg KR rfl ON fun _ _ _ _ => ?_ | refine wpd_q_a ?_
    | simp (maxDischargeDepth := 3) only [↓X, ↓Y, ↓Q, S1, ↓reduceIte, Nat.reduceEqDiff, Nat.reduceAdd, Int.reduceLT, Int.reduceLE, Int.reduceNeg, Int.reduceBEq, Int.reduceBNe, Int.reduceEq, Nat.reduceLeDiff, Nat.reduceMul, Nat.reduceLT, *]
    | simp (singlePass := true) (maxDischargeDepth := 99) only [*, S2, Nat.reduceLT])
          · rename_i hkb
            have hxk9 : Ext wk w9 := hxE.trans hx9
            have hS9 : wS.heap.size ≤ w9.heap.size := FR
            have ck9 : Cg b2 wL w9 := FR
            have hxw9 : Ext w w9 := hxk.trans hxk9
            refine eff_call (B := w9.heap.size) (x := y) (d := l[k]) E7 (by rw [hkB0.out]; exact hkb) (Nat.le_refl _) ⟨(oh.ext hxk9).slN (f := stateC), (or.ext hxk9).slN (f := replC)⟩ hg.1 hg.2.1 hg.2.2 fun u wc nc sc hu => ?_
            have hk9 := hpk.out
            by_cases he : oneE y l[k] = 0
            · rw [if_pos he] at hk9
              rw [oneR, if_pos he] at hu
              obtain ⟨hc, rc, rfl, ohc, orc⟩ := hu
              have hgo := hg.one he
              have ac1 := ohc.one
              have ac2 := orc.one
              have hcO := (ohc.more hS9).o
              have rcO := (orc.more hS9).o
              rw [he]
              replace hk9 : Hid _ := hk9
              replace hgo : Hid _ := hgo
              clear hpk he oh or hg oH oR
              (repeat' first
    | ((with_reducible refine at_row ?_); refine row1_a fun _ _ _ _ _ _ _ => ?_)
    | with_reducible first | (first | apply alloc_k | apply row_k); intro _ _ _ _ _ _ | (first | apply fork | apply forkp) <;> intro _ | refine forke (fun _ => ?_) fun _ _ => ?_ | refine tail_k fun _ _ _ => ?_ | refine ext_k fun _ _ _ => ?_ | refine need_a ?_ | refine st_agg KR rfl ON fun _ _ _ _ => ?_ | refine wpd_q_a ?_
    | simp (maxDischargeDepth := 3) only [↓X, ↓Y, ↓Q, S1, ↓reduceIte, Nat.reduceEqDiff, Nat.reduceAdd, Int.reduceLT, Int.reduceLE, Int.reduceNeg, Int.reduceBEq, Int.reduceBNe, Int.reduceEq, Nat.reduceLeDiff, Nat.reduceMul, Nat.reduceLT, *]
    | simp (singlePass := true) (maxDischargeDepth := 99) only [*, S2, Nat.reduceLT])
              rename_i bT wT nT kT sT qT wU nU kU sU wV nV kV sV
              refine next_b hk' hlt ?_ FR
              (repeat' first
    | ((with_reducible refine at_row ?_); refine row1_a fun _ _ _ _ _ _ _ => ?_)
    | with_reducible first | (first | apply alloc_k | apply row_k); intro _ _ _ _ _ _ | (first | apply fork | apply forkp) <;> intro _ | refine forke (fun _ => ?_) fun _ _ => ?_ | refine tail_k fun _ _ _ => ?_ | refine ext_k fun _ _ _ => ?_ | refine need_a ?_ | refine st_agg KR rfl ON fun _ _ _ _ => ?_ | refine wpd_q_a ?_
    | simp (maxDischargeDepth := 3) only [↓X, ↓Y, ↓Q, S1, ↓reduceIte, Nat.reduceEqDiff, Nat.reduceAdd, Int.reduceLT, Int.reduceLE, Int.reduceNeg, Int.reduceBEq, Int.reduceBNe, Int.reduceEq, Nat.reduceLeDiff, Nat.reduceMul, Nat.reduceLT, *]
    | simp (singlePass := true) (maxDischargeDepth := 99) only [*, S2, Nat.reduceLT])
              exact ⟨oneW y l[k], hc, rc, kV.2.1 _ FR, hcO.1 _ FR, rcO.1 _ FR, hgo.out, hk9.out.symm⟩
            · have he2 : (oneE y l[k] == 0) = false := by simpa using he
              rw [if_neg he] at hk9
              rw [oneR, if_neg he] at hu
              obtain ⟨hc, rc, rfl, ohc, orc⟩ := hu
              have ac1 := ohc.one
              have ac2 := orc.one
              rw [hk9]
              clear hpk oh or hg oH oR hk9 ohc orc
              have hxwc : Ext w wc := FR
              have hwcs : w.heap.size ≤ wc.heap.size := hxwc.size
              (repeat' first
    | ((with_reducible refine at_row ?_); refine row1_a fun _ _ _ _ _ _ _ => ?_)
    | with_reducible first | (first | apply alloc_k | apply row_k); intro _ _ _ _ _ _ | (first | apply fork | apply forkp) <;> intro _ | refine forke (fun _ => ?_) fun _ _ => ?_ | refine tail_k fun _ _ _ => ?_ | refine ext_k fun _ _ _ => ?_ | refine need_a ?_ | refine st_agg KR rfl ON fun _ _ _ _ => ?_ | refine wpd_q_a ?_
    | simp (maxDischargeDepth := 3) only [↓X, ↓Y, ↓Q, S1, ↓reduceIte, Nat.reduceEqDiff, Nat.reduceAdd, Int.reduceLT, Int.reduceLE, Int.reduceNeg, Int.reduceBEq, Int.reduceBNe, Int.reduceEq, Nat.reduceLeDiff, Nat.reduceMul, Nat.reduceLT, *]
    | simp (singlePass := true) (maxDischargeDepth := 99) only [*, S2, Nat.reduceLT])
              exact ⟨_, rfl, OwnW.none _ _⟩
          · rename_i hkb _ _ _ _
            have he : oneE y l[k] = 1 := oneE_kind (by rw [hkB0.out]; exact hkb)
            have hk9 := hpk.out
            rw [he, if_neg (by decide)] at hk9
            rw [hk9]
            have hxw9 : Ext w w9 := hxwE.trans hx9
            exact ⟨_, rfl, OwnW.none _ _⟩
      · rintro g wk nk sk ck hbk ⟨hi, hf, hq⟩
        simp (maxDischargeDepth := 3) only [U, ↓reduceIte, Nat.reduceEqDiff, *] at hf
        obtain ⟨y, h, r, kb, oh, or, hg, hpat⟩ := hq.out
        have k2 := kb.bk
        have oH := oh.o
        have oR := or.o
        have a61 := oh.one
        have a62 := or.one
        have hxk : Ext w wk := FR
        rw [List.drop_length, patchG] at hpat
        rw [← hpat]
        clear hq kb hpat
        (repeat' first
    | ((with_reducible refine at_row ?_); refine row1_a fun _ _ _ _ _ _ _ => ?_)
    | with_reducible first | (first | apply alloc_k | apply row_k); intro _ _ _ _ _ _ | (first | apply fork | apply forkp) <;> intro _ | refine forke (fun _ => ?_) fun _ _ => ?_ | refine tail_k fun _ _ _ => ?_ | refine ext_k fun _ _ _ => ?_ | refine need_a ?_ | refine st_agg KR rfl ON fun _ _ _ _ => ?_ | refine wpd_q_a ?_
    | simp (maxDischargeDepth := 3) only [↓X, ↓Y, ↓Q, S1, ↓reduceIte, Nat.reduceEqDiff, Nat.reduceAdd, Int.reduceLT, Int.reduceLE, Int.reduceNeg, Int.reduceBEq, Int.reduceBNe, Int.reduceEq, Nat.reduceLeDiff, Nat.reduceMul, Nat.reduceLT, *]
    | simp (singlePass := true) (maxDischargeDepth := 99) only [*, S2, Nat.reduceLT])
        exact ⟨_, rfl, _, _, rfl, (oH.1 _ FR).more hwS, (oR.1 _ FR).more hwS⟩
  · have eP : patchR x l = (1, noW) := by rw [patchR, if_neg hs]
    rw [eP]
    (refine callsV_of Tryz.func15 rfl KR KR ?_; rw [Tryz.results15])
    (repeat' first
    | ((with_reducible refine wpd_at 3 ?_); refine wpd_hold ?_)
    | ((with_reducible refine at_row ?_); refine row1_a fun _ _ _ _ _ _ _ => ?_)
    | with_reducible first | (first | apply alloc_k | apply row_k); intro _ _ _ _ _ _ | (first | apply fork | apply forkp) <;> intro _ | refine forke (fun _ => ?_) fun _ _ => ?_ | refine tail_k fun _ _ _ => ?_ | refine ext_k fun _ _ _ => ?_ | refine need_a ?_ | refine st_agg KR rfl ON fun _ _ _ _ => ?_ | refine wpd_q_a ?_
    | ((with_reducible refine at_f 33 ?_); refine ret_k (driftAscending (B := B) (x := x) FR (hX _ FR)) fun _ _ _ => ?_)
    | simp (maxDischargeDepth := 3) only [↓X, ↓Y, ↓Q, S1, ↓reduceIte, Nat.reduceEqDiff, Nat.reduceAdd, Int.reduceLT, Int.reduceLE, Int.reduceNeg, Int.reduceBEq, Int.reduceBNe, Int.reduceEq, Nat.reduceLeDiff, Nat.reduceMul, Nat.reduceLT, *]
    | simp (singlePass := true) (maxDischargeDepth := 99) only [*, S2, Nat.reduceLT])
    exact ⟨_, rfl, OwnW.none _ _⟩
end
end Go.Proofs.YtmcdgepfhpakiaaGreat
