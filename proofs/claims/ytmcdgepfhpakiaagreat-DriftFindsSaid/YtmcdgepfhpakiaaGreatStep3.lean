
/- The layer step: Ready, Apply. -/
import Derived.Test.YtmcdgepfhpakiaaGreatStep2
import Derived.Test.YtmcdgepfhpakiaaGreatStart13b
namespace Go.Proofs.YtmcdgepfhpakiaaGreat
set_option linter.unusedSimpArgs false
set_option linter.unusedVariables false
open Go Go.RowKit
set_option maxRecDepth 100000
set_option linter.unusedSectionVars false
set_option maxHeartbeats 2000000
section
variable {w : World} {B : Nat} {u : SiteVs} {s : SiteD} {wv hv rv : Value} {l : List SrvV} {x : WorldD} {st : StepD} {wl : List ServiceD}
theorem one_func (f : Fn) (a b : Array Value) : (Value.func f a b).oneCell' = true := rfl
/-- The rule of a step: how it answers. -/
theorem stepRule (hk : 1 ≤ st.kind ∧ st.kind ≤ 7) (hh : 0 ≤ st.host ∧ st.host < x.hosts.length) : ∃ r, ruleD st.kind = some r ∧ callable Tryz.prog r.fn = true ∧ ∀ w' B hv rv, B ≤ w'.heap.size → WorldR w' B hv rv x → Ret Tryz.prog r.fn #[.agg #[hv, rv], stepV st] w' (.bool (readyK x st)) := by
  have key : ∀ k : Int, st.kind = k → (k = 1 ∨ k = 2 ∨ k = 3 ∨ k = 4 ∨ k = 5 ∨ k = 6 ∨ k = 7) → ∃ r, ruleD k = some r ∧ callable Tryz.prog r.fn = true ∧ ∀ w' B hv rv, B ≤ w'.heap.size → WorldR w' B hv rv x → Ret Tryz.prog r.fn #[.agg #[hv, rv], stepV st] w' (.bool (readyK x st)) := by
    intro k he hk
    rcases hk with rfl | rfl | rfl | rfl | rfl | rfl | rfl
    · refine ⟨⟨1, true, false, 110⟩, rfl, by kernel_rfl, fun w' B hv rv hB hX => ?_⟩
      rw [show readyK x st = _ from by unfold readyK; rw [if_pos he]]
      exact rules1 hB hX hh
    · refine ⟨⟨2, true, false, 112⟩, rfl, by kernel_rfl, fun w' B hv rv hB hX => ?_⟩
      have e : readyK x st = hasB x.replicas (replOf st) := by simp [readyK, he]
      rw [e]; exact rules2 hB hX
    · refine ⟨⟨3, false, false, 113⟩, rfl, by kernel_rfl, fun w' B hv rv hB hX => ?_⟩
      have e : readyK x st = ((hostAt x st.host).phase == 0) := by simp [readyK, he]
      rw [e]; exact rules3 hB hX hh
    · refine ⟨⟨4, false, false, 114⟩, rfl, by kernel_rfl, fun w' B hv rv hB hX => ?_⟩
      have e : readyK x st = ((hostAt x st.host).phase == 1 && !runsB x st.host) := by simp [readyK, he]
      rw [e]; exact rules4 hB hX hh
    · refine ⟨⟨5, false, false, 116⟩, rfl, by kernel_rfl, fun w' B hv rv hB hX => ?_⟩
      have e : readyK x st = ((hostAt x st.host).phase == 2 && !runsB x st.host) := by simp [readyK, he]
      rw [e]; exact rules5 hB hX hh
    · refine ⟨⟨6, false, false, 117⟩, rfl, by kernel_rfl, fun w' B hv rv hB hX => ?_⟩
      have e : readyK x st = ((hostAt x st.host).phase == 1 || (hostAt x st.host).phase == 2 || (hostAt x st.host).phase == 3) := by simp [readyK, he]
      rw [e]; exact rules6 hB hX hh
    · refine ⟨⟨7, false, true, 118⟩, rfl, by kernel_rfl, fun w' B hv rv hB hX => ?_⟩
      have e : readyK x st = ((hostAt x st.host).phase == 2) := by simp [readyK, he]
      rw [e]; exact rules7 hB hX hh
  exact key st.kind rfl (by omega)
theorem stepReady (hB : B ≤ w.heap.size) (hs : SiteR w B u s) (hl : WishR w B wv l) (hx0 : WorldR w B hv rv x) : Ret Tryz.prog 52 #[.agg (siteC u s).toArray, .agg #[wv], .agg #[hv, rv], stepV st] w (.bool (readyB s (l.map (·.x)) x st)) := by
  have hn : Now w := trivial
  have hx : Ext w w := Ext.refl w
  have hs' := hs.sk hB
  have hl' := hl.sk hB
  have hx' := hx0.sk hB
  have hS := hs'.2.2.2.2.2.2
  have hW := hl'.2.2
  have hX := hx'.2.2.2.2
  have hv1 := fun w' (h1 : Bl B w w') (h3 : B ≤ w'.heap.size) => stepValid (st := st) h3 (hS w' h1) (hW w' h1)
  simp only [stepB_eq] at hv1
  have hv2 := fun w' (h1 : Bl B w w') (h3 : B ≤ w'.heap.size) => worldValid h3 (hS w' h1) (hW w' h1) (hX w' h1)
  have hr : readyB s (l.map (·.x)) x st = (stepB2 s (l.map (·.x)) st && validB s (l.map (·.x)) x && readyK x st) := rfl
  have hp : stepB2 s (l.map (·.x)) st = true → validB s (l.map (·.x)) x = true → Hid ((1 ≤ st.kind ∧ st.kind ≤ 7) ∧ (0 ≤ st.host ∧ st.host < x.hosts.length)) := fun h1 h2 => by
    have a := step_parts h1
    have b := valid_parts h2
    exact ⟨a.1, a.2.2.2.1, by omega⟩
  rw [hr]
  clear hr
  generalize stepB2 s (l.map (·.x)) st = sb at *
  generalize validB s (l.map (·.x)) x = vb at *
  (refine callsV_of Tryz.func52 rfl KR KR ?_; rw [Tryz.results52])
  cases sb
  · clear hv2 hp
    (repeat' first
    | ((with_reducible refine at_row ?_); refine row1_a fun _ _ _ _ _ _ _ => ?_)
    | with_reducible first | (first | apply alloc_k | apply row_k); intro _ _ _ _ _ _ | (first | apply fork | apply forkp) <;> intro _ | refine forke (fun _ => ?_) fun _ _ => ?_ | refine tail_k fun _ _ _ => ?_ | refine ext_k fun _ _ _ => ?_ | refine need_a ?_ | refine st_agg KR rfl ON fun _ _ _ _ => ?_ | refine wpd_q_a ?_
    | ((with_reducible refine at_f 19 ?_); refine ret_k (hv1 _ FR FR) fun _ _ _ => ?_)
    | simp (maxDischargeDepth := 3) only [↓X, ↓Y, ↓Q, S1, ↓reduceIte, Nat.reduceEqDiff, Nat.reduceAdd, Int.reduceLT, Int.reduceLE, Int.reduceNeg, Int.reduceBEq, Int.reduceBNe, Int.reduceEq, Nat.reduceLeDiff, Nat.reduceMul, Nat.reduceLT, *, siteC, stepV, stepC]
    | simp (singlePass := true) (maxDischargeDepth := 99) only [*, S2, Nat.reduceLT, siteC, stepV, stepC])
  · cases vb
    · clear hp
      (repeat' first
    | ((with_reducible refine at_row ?_); refine row1_a fun _ _ _ _ _ _ _ => ?_)
    | with_reducible first | (first | apply alloc_k | apply row_k); intro _ _ _ _ _ _ | (first | apply fork | apply forkp) <;> intro _ | refine forke (fun _ => ?_) fun _ _ => ?_ | refine tail_k fun _ _ _ => ?_ | refine ext_k fun _ _ _ => ?_ | refine need_a ?_ | refine st_agg KR rfl ON fun _ _ _ _ => ?_ | refine wpd_q_a ?_
    | ((with_reducible refine at_f 19 ?_); refine ret_k (hv1 _ FR FR) fun _ _ _ => ?_)
    | ((with_reducible refine at_f 20 ?_); refine ret_k (hv2 _ FR FR) fun _ _ _ => ?_)
    | simp (maxDischargeDepth := 3) only [↓X, ↓Y, ↓Q, S1, ↓reduceIte, Nat.reduceEqDiff, Nat.reduceAdd, Int.reduceLT, Int.reduceLE, Int.reduceNeg, Int.reduceBEq, Int.reduceBNe, Int.reduceEq, Nat.reduceLeDiff, Nat.reduceMul, Nat.reduceLT, *, siteC, stepV, stepC]
    | simp (singlePass := true) (maxDischargeDepth := 99) only [*, S2, Nat.reduceLT, siteC, stepV, stepC])
    · have hq := hp rfl rfl
      clear hp
      obtain ⟨r, hr1, hr2, hr3⟩ := stepRule (x := x) (st := st) hq.out.1 hq.out.2
      replace hr3 : Hid _ := hr3
      replace hr1 : Hid _ := hr1
      (repeat' first
    | ((with_reducible refine at_row ?_); refine row1_a fun _ _ _ _ _ _ _ => ?_)
    | with_reducible first | (first | apply alloc_k | apply row_k); intro _ _ _ _ _ _ | (first | apply fork | apply forkp) <;> intro _ | refine forke (fun _ => ?_) fun _ _ => ?_ | refine tail_k fun _ _ _ => ?_ | refine ext_k fun _ _ _ => ?_ | refine need_a ?_ | refine st_agg KR rfl ON fun _ _ _ _ => ?_ | refine wpd_q_a ?_
    | ((with_reducible refine at_f 19 ?_); refine ret_k (hv1 _ FR FR) fun _ _ _ => ?_)
    | ((with_reducible refine at_f 20 ?_); refine ret_k (hv2 _ FR FR) fun _ _ _ => ?_)
    | simp (maxDischargeDepth := 3) only [↓X, ↓Y, ↓Q, S1, ↓reduceIte, Nat.reduceEqDiff, Nat.reduceAdd, Int.reduceLT, Int.reduceLE, Int.reduceNeg, Int.reduceBEq, Int.reduceBNe, Int.reduceEq, Nat.reduceLeDiff, Nat.reduceMul, Nat.reduceLT, *, siteC, stepV, stepC]
    | simp (singlePass := true) (maxDischargeDepth := 99) only [*, S2, Nat.reduceLT, siteC, stepV, stepC])
      refine call_k stepFind ?_
      intro v w5 n5 s5 hv
      rw [hr1.out] at hv
      dsimp only at hv
      subst hv
      clear hv1 hv2
      have hof := one_func
      (repeat' first
    | ((with_reducible refine at_row ?_); refine row1_a fun _ _ _ _ _ _ _ => ?_)
    | with_reducible first | (first | apply alloc_k | apply row_k); intro _ _ _ _ _ _ | (first | apply fork | apply forkp) <;> intro _ | refine forke (fun _ => ?_) fun _ _ => ?_ | refine tail_k fun _ _ _ => ?_ | refine ext_k fun _ _ _ => ?_ | refine need_a ?_ | refine st_agg KR rfl ON fun _ _ _ _ => ?_ | refine wpd_q_a ?_
    | simp (maxDischargeDepth := 3) only [↓X, ↓Y, ↓Q, S1, ↓reduceIte, Nat.reduceEqDiff, Nat.reduceAdd, Int.reduceLT, Int.reduceLE, Int.reduceNeg, Int.reduceBEq, Int.reduceBNe, Int.reduceEq, Nat.reduceLeDiff, Nat.reduceMul, Nat.reduceLT, *, ruleV, ruleC]
    | simp (singlePass := true) (maxDischargeDepth := 99) only [*, S2, Nat.reduceLT, ruleV, ruleC])
      refine ret_k (hr3.out _ B hv rv FR (hX _ FR)) fun w9 n9 s9 => ?_
      (repeat' first
    | ((with_reducible refine at_row ?_); refine row1_a fun _ _ _ _ _ _ _ => ?_)
    | with_reducible first | (first | apply alloc_k | apply row_k); intro _ _ _ _ _ _ | (first | apply fork | apply forkp) <;> intro _ | refine forke (fun _ => ?_) fun _ _ => ?_ | refine tail_k fun _ _ _ => ?_ | refine ext_k fun _ _ _ => ?_ | refine need_a ?_ | refine st_agg KR rfl ON fun _ _ _ _ => ?_ | refine wpd_q_a ?_
    | simp (maxDischargeDepth := 3) only [↓X, ↓Y, ↓Q, S1, ↓reduceIte, Nat.reduceEqDiff, Nat.reduceAdd, Int.reduceLT, Int.reduceLE, Int.reduceNeg, Int.reduceBEq, Int.reduceBNe, Int.reduceEq, Nat.reduceLeDiff, Nat.reduceMul, Nat.reduceLT, *]
    | simp (singlePass := true) (maxDischargeDepth := 99) only [*, S2, Nat.reduceLT])
theorem apply_parts (h : readyB s wl x st = true) : x.hosts.length ≤ 1000000 ∧ x.replicas.length ≤ 1000000 := by
  have o := rdy_ok h
  have b := valid_parts o.val
  have c := (step_parts o.ok).2.1
  have d : s.hosts.length ≤ 16 := by
    simp only [siteB, sizesB, btw, Bool.and_eq_true, decide_eq_true_eq] at c
    omega
  have := o.len
  omega
theorem stepApply (hB : B ≤ w.heap.size) (hs : SiteR w B u s) (hl : WishR w B wv l) (hx0 : WorldR w B hv rv x) : CallsV Tryz.prog 24 #[.agg (siteC u s).toArray, .agg #[wv], .agg #[hv, rv], stepV st] w fun v w' => Ext w w' ∧ ∃ v0, v = .tuple #[v0, intV (applyE s (l.map (·.x)) x st)] ∧ OwnW w.heap.size v0 w' (applyW s (l.map (·.x)) x st) := by
  have hn : Now w := trivial
  have hx : Ext w w := Ext.refl w
  have hs' := hs.sk hB
  have hl' := hl.sk hB
  have hx' := hx0.sk hB
  have hS := hs'.2.2.2.2.2.2
  have hW := hl'.2.2
  have hX := hx'.2.2.2.2
  have hv1 := fun w' (h1 : Bl B w w') (h3 : B ≤ w'.heap.size) => stepValid (st := st) h3 (hS w' h1) (hW w' h1)
  simp only [stepB_eq] at hv1
  have hv2 := fun w' (h1 : Bl B w w') (h3 : B ≤ w'.heap.size) => worldValid h3 (hS w' h1) (hW w' h1) (hX w' h1)
  have hv3 := fun w' (h1 : Bl B w w') (h3 : B ≤ w'.heap.size) => stepReady (st := st) h3 (hS w' h1) (hW w' h1) (hX w' h1)
  have hr : readyB s (l.map (·.x)) x st = (stepB2 s (l.map (·.x)) st && validB s (l.map (·.x)) x && readyK x st) := rfl
  have hp : readyB s (l.map (·.x)) x st = true → Hid (RdyOk s (l.map (·.x)) x st ∧ applyE s (l.map (·.x)) x st = 0 ∧ (x.hosts.length ≤ 1000000 ∧ x.replicas.length ≤ 1000000)
      ∧ (st.kind = 1 → startE x (replOf st) = 0 ∧ applyW s (l.map (·.x)) x st = startW x (replOf st)) ∧ (st.kind = 2 → stopE x (replOf st) = 0 ∧ applyW s (l.map (·.x)) x st = stopW x (replOf st))
      ∧ (st.kind ≠ 1 → st.kind ≠ 2 → setE x st.host = 0 ∧ applyW s (l.map (·.x)) x st = setW x st.host (newState (hostAt x st.host) st))) := fun h => by
    refine ⟨rdy_ok h, apply_zero h, apply_parts h, fun h1 => ?_, fun h2 => ?_, fun h1 h2 => ?_⟩
    · have := start_parts h h1
      exact ⟨this.2.2.2.1, by rw [applyW, if_pos h, if_pos h1]⟩
    · have := stop_parts h h2
      exact ⟨this.2.1, by rw [applyW, if_pos h, if_neg (by omega), if_pos h2]⟩
    · exact ⟨by simp [setE, set_ok (rdy_ok h)], by rw [applyW, if_pos h, if_neg h1, if_neg h2]⟩
  have hn1 : (stepB2 s (l.map (·.x)) st && validB s (l.map (·.x)) x) = false → Hid (applyE s (l.map (·.x)) x st = 1 ∧ applyW s (l.map (·.x)) x st = noW) := fun h => ⟨by unfold applyE; rw [if_neg (by simp [h])], by unfold applyW; rw [if_neg (by rw [hr, h]; simp)]⟩
  have hn2 : (stepB2 s (l.map (·.x)) st && validB s (l.map (·.x)) x) = true → readyK x st = false → Hid (applyE s (l.map (·.x)) x st = 8 ∧ applyW s (l.map (·.x)) x st = noW) := fun h h2 => ⟨by unfold applyE; rw [if_pos h, if_neg (by simp [h2])], by unfold applyW; rw [if_neg (by rw [hr, h, h2]; simp)]⟩
  rw [hr] at hp
  simp only [hr] at hv3
  clear hr
  generalize stepB2 s (l.map (·.x)) st = sb at *
  generalize validB s (l.map (·.x)) x = vb at *
  generalize readyK x st = rk at *
  generalize applyE s (l.map (·.x)) x st = E at *
  generalize applyW s (l.map (·.x)) x st = W at *
  (refine callsV_of Tryz.func24 rfl KR KR ?_; rw [Tryz.results24])
  cases sb
  · obtain ⟨rfl, rfl⟩ := (hn1 rfl).out
    clear hv2 hv3 hp hn1 hn2
    (repeat' first
    | ((with_reducible refine at_row ?_); refine row1_a fun _ _ _ _ _ _ _ => ?_)
    | with_reducible first | (first | apply alloc_k | apply row_k); intro _ _ _ _ _ _ | (first | apply fork | apply forkp) <;> intro _ | refine forke (fun _ => ?_) fun _ _ => ?_ | refine tail_k fun _ _ _ => ?_ | refine ext_k fun _ _ _ => ?_ | refine need_a ?_ | refine st_agg KR rfl ON fun _ _ _ _ => ?_ | refine wpd_q_a ?_
    | ((with_reducible refine at_f 19 ?_); refine ret_k (hv1 _ FR FR) fun _ _ _ => ?_)
    | simp (maxDischargeDepth := 3) only [↓X, ↓Y, ↓Q, S1, ↓reduceIte, Nat.reduceEqDiff, Nat.reduceAdd, Int.reduceLT, Int.reduceLE, Int.reduceNeg, Int.reduceBEq, Int.reduceBNe, Int.reduceEq, Nat.reduceLeDiff, Nat.reduceMul, Nat.reduceLT, *, siteC, stepV, stepC]
    | simp (singlePass := true) (maxDischargeDepth := 99) only [*, S2, Nat.reduceLT, siteC, stepV, stepC])
    exact ⟨_, rfl, OwnW.none _ _⟩
  · cases vb
    · obtain ⟨rfl, rfl⟩ := (hn1 rfl).out
      clear hv3 hp hn1 hn2
      (repeat' first
    | ((with_reducible refine at_row ?_); refine row1_a fun _ _ _ _ _ _ _ => ?_)
    | with_reducible first | (first | apply alloc_k | apply row_k); intro _ _ _ _ _ _ | (first | apply fork | apply forkp) <;> intro _ | refine forke (fun _ => ?_) fun _ _ => ?_ | refine tail_k fun _ _ _ => ?_ | refine ext_k fun _ _ _ => ?_ | refine need_a ?_ | refine st_agg KR rfl ON fun _ _ _ _ => ?_ | refine wpd_q_a ?_
    | ((with_reducible refine at_f 19 ?_); refine ret_k (hv1 _ FR FR) fun _ _ _ => ?_)
    | ((with_reducible refine at_f 20 ?_); refine ret_k (hv2 _ FR FR) fun _ _ _ => ?_)
    | simp (maxDischargeDepth := 3) only [↓X, ↓Y, ↓Q, S1, ↓reduceIte, Nat.reduceEqDiff, Nat.reduceAdd, Int.reduceLT, Int.reduceLE, Int.reduceNeg, Int.reduceBEq, Int.reduceBNe, Int.reduceEq, Nat.reduceLeDiff, Nat.reduceMul, Nat.reduceLT, *, siteC, stepV, stepC]
    | simp (singlePass := true) (maxDischargeDepth := 99) only [*, S2, Nat.reduceLT, siteC, stepV, stepC])
      exact ⟨_, rfl, OwnW.none _ _⟩
    · cases rk
      · obtain ⟨rfl, rfl⟩ := (hn2 rfl rfl).out
        clear hp hn1 hn2
        (repeat' first
    | ((with_reducible refine at_row ?_); refine row1_a fun _ _ _ _ _ _ _ => ?_)
    | with_reducible first | (first | apply alloc_k | apply row_k); intro _ _ _ _ _ _ | (first | apply fork | apply forkp) <;> intro _ | refine forke (fun _ => ?_) fun _ _ => ?_ | refine tail_k fun _ _ _ => ?_ | refine ext_k fun _ _ _ => ?_ | refine need_a ?_ | refine st_agg KR rfl ON fun _ _ _ _ => ?_ | refine wpd_q_a ?_
    | ((with_reducible refine at_f 19 ?_); refine ret_k (hv1 _ FR FR) fun _ _ _ => ?_)
    | ((with_reducible refine at_f 20 ?_); refine ret_k (hv2 _ FR FR) fun _ _ _ => ?_)
    | ((with_reducible refine at_f 52 ?_); refine ret_k (hv3 _ FR FR) fun _ _ _ => ?_)
    | simp (maxDischargeDepth := 3) only [↓X, ↓Y, ↓Q, S1, ↓reduceIte, Nat.reduceEqDiff, Nat.reduceAdd, Int.reduceLT, Int.reduceLE, Int.reduceNeg, Int.reduceBEq, Int.reduceBNe, Int.reduceEq, Nat.reduceLeDiff, Nat.reduceMul, Nat.reduceLT, *, siteC, stepV, stepC]
    | simp (singlePass := true) (maxDischargeDepth := 99) only [*, S2, Nat.reduceLT, siteC, stepV, stepC])
        exact ⟨_, rfl, OwnW.none _ _⟩
      · have hq := hp rfl
        clear hp hn1 hn2
        obtain ⟨kd, ho, sv, vr⟩ := st
        obtain ⟨k, rfl⟩ : ∃ k : Nat, ho = k := ⟨ho.toNat, by have := hq.out.1.host; simp only at this; omega⟩
        have hlt : k < x.hosts.length := by have := hq.out.1.host; simp only at this; omega
        have hat : Hid (hostAt x k = x.hosts[k]) := by show _ = _; simp [hostAt, hlt]
        have hlen : Hid (x.hosts.length ≤ 1000000 ∧ x.replicas.length ≤ 1000000) := hq.out.2.2.1
        have hkd : Hid (1 ≤ kd ∧ kd ≤ 7) := hq.out.1.kind
        have hst : Hid (kd = 1 → startE x ⟨sv, k⟩ = 0 ∧ W = startW x ⟨sv, k⟩) := hq.out.2.2.2.1
        have hsp : Hid (kd = 2 → stopE x ⟨sv, k⟩ = 0 ∧ W = stopW x ⟨sv, k⟩) := hq.out.2.2.2.2.1
        have hse : Hid (kd ≠ 1 → kd ≠ 2 → ∀ h, newState x.hosts[k] ⟨kd, k, sv, vr⟩ = h → setE x k = 0 ∧ W = setW x k h) := fun h1 h2 h e => by
          have := hq.out.2.2.2.2.2 h1 h2
          simp only [hat.out] at this
          rw [e] at this
          exact this
        obtain rfl := hq.out.2.1
        clear hq hat
        (repeat' first
    | ((with_reducible refine wpd_at 10 ?_); refine wpd_hold ?_)
    | ((with_reducible refine wpd_at 8 ?_); refine wpd_hold ?_)
    | ((with_reducible refine at_row ?_); refine row1_a fun _ _ _ _ _ _ _ => ?_)
    | with_reducible first | (first | apply alloc_k | apply row_k); intro _ _ _ _ _ _ | (first | apply fork | apply forkp) <;> intro _ | refine forke (fun _ => ?_) fun _ _ => ?_ | refine tail_k fun _ _ _ => ?_ | refine ext_k fun _ _ _ => ?_ | refine need_a ?_ | refine st_agg KR rfl ON fun _ _ _ _ => ?_ | refine wpd_q_a ?_
    | ((with_reducible refine at_f 19 ?_); refine ret_k (hv1 _ FR FR) fun _ _ _ => ?_)
    | ((with_reducible refine at_f 20 ?_); refine ret_k (hv2 _ FR FR) fun _ _ _ => ?_)
    | ((with_reducible refine at_f 52 ?_); refine ret_k (hv3 _ FR FR) fun _ _ _ => ?_)
    | simp (maxDischargeDepth := 3) only [↓X, ↓Y, ↓Q, S1, ↓reduceIte, Nat.reduceEqDiff, Nat.reduceAdd, Int.reduceLT, Int.reduceLE, Int.reduceNeg, Int.reduceBEq, Int.reduceBNe, Int.reduceEq, Nat.reduceLeDiff, Nat.reduceMul, Nat.reduceLT, *, siteC, stepV, stepC, stateV]
    | simp (singlePass := true) (maxDischargeDepth := 99) only [*, S2, Nat.reduceLT, siteC, stepV, stepC, stateV])
        · rename_i w3 n3 k3 s3 hk1
          obtain ⟨e1, e2⟩ := hst.out (by assumption)
          replace e1 : Hid _ := e1
          replace e2 : Hid _ := e2
          clear hst hsp hse hkd hv1 hv2 hv3 hk1
          have hrep : ∀ w', Ret Tryz.prog 54 #[stepV ⟨kd, k, sv, vr⟩] w' (replicaV ⟨sv, k⟩) := fun _ => stepReplica
          unfold wpdH
          refine wpd_rel 6 (fun iI v w9 => match iI with
            | 0 => v = .agg #[hv, rv]
            | 1 => v = stepV ⟨kd, k, sv, vr⟩
            | 2 => v = replicaV ⟨sv, k⟩
            | 3 => ∃ u0, v = .tuple #[u0, intV 0] ∧ OwnW w3.heap.size u0 w9 W
            | 4 => OwnW w3.heap.size v w9 W
            | 5 => v = intV 0
            | _ => False) KR KR KR ?_ ?_ ?_
          · intro iI v w1 w2 hR hx9
            match iI, hR with
            | 0, h => exact h
            | 1, h => exact h
            | 2, h => exact h
            | 3, h => exact (let ⟨u0, e, o⟩ := h; ⟨u0, e, o.ext hx9⟩)
            | 4, h => exact OwnW.ext h hx9
            | 5, h => exact h
          · intro iI oO hi ho gF w9 hx9 hdep hag
            have s9 := hx9.st
            have n9 : Now w9 := trivial
            have r9 := Ext.refl w9
            have z9 := hx9.size
            rcases iI with _|_|_|_|_|_|iI
            · have e := Option.some.inj ho
              subst e
              have a6 := hag.at 6 KR
              simp only [S5, ↓reduceIte, Nat.reduceEqDiff, initF, *] at a6
              clear hag hdep ho
              refine relStep_off rfl ?_
              (repeat' first
    | ((with_reducible refine at_row ?_); refine row1_a fun _ _ _ _ _ _ _ => ?_)
    | with_reducible first | (first | apply alloc_k | apply row_k); intro _ _ _ _ _ _ | (first | apply fork | apply forkp) <;> intro _ | refine forke (fun _ => ?_) fun _ _ => ?_ | refine tail_k fun _ _ _ => ?_ | refine ext_k fun _ _ _ => ?_ | refine need_a ?_ | refine st_agg KR rfl ON fun _ _ _ _ => ?_ | refine wpd_q_a ?_
    | ((with_reducible refine at_f 54 ?_); refine ret_k (hrep _) fun _ _ _ => ?_)
    | simp (maxDischargeDepth := 3) only [↓X, ↓Y, ↓Q, S1, ↓reduceIte, Nat.reduceEqDiff, Nat.reduceAdd, Int.reduceLT, Int.reduceLE, Int.reduceNeg, Int.reduceBEq, Int.reduceBNe, Int.reduceEq, Nat.reduceLeDiff, Nat.reduceMul, Nat.reduceLT, *, stepV, stepC]
    | simp (singlePass := true) (maxDischargeDepth := 99) only [*, S2, Nat.reduceLT, stepV, stepC])
            · have e := Option.some.inj ho
              subst e
              have a7 := hag.at 7 KR
              simp only [S5, ↓reduceIte, Nat.reduceEqDiff, initF, *] at a7
              clear hag hdep ho
              refine relStep_off rfl ?_
              (repeat' first
    | ((with_reducible refine at_row ?_); refine row1_a fun _ _ _ _ _ _ _ => ?_)
    | with_reducible first | (first | apply alloc_k | apply row_k); intro _ _ _ _ _ _ | (first | apply fork | apply forkp) <;> intro _ | refine forke (fun _ => ?_) fun _ _ => ?_ | refine tail_k fun _ _ _ => ?_ | refine ext_k fun _ _ _ => ?_ | refine need_a ?_ | refine st_agg KR rfl ON fun _ _ _ _ => ?_ | refine wpd_q_a ?_
    | ((with_reducible refine at_f 54 ?_); refine ret_k (hrep _) fun _ _ _ => ?_)
    | simp (maxDischargeDepth := 3) only [↓X, ↓Y, ↓Q, S1, ↓reduceIte, Nat.reduceEqDiff, Nat.reduceAdd, Int.reduceLT, Int.reduceLE, Int.reduceNeg, Int.reduceBEq, Int.reduceBNe, Int.reduceEq, Nat.reduceLeDiff, Nat.reduceMul, Nat.reduceLT, *, stepV, stepC]
    | simp (singlePass := true) (maxDischargeDepth := 99) only [*, S2, Nat.reduceLT, stepV, stepC])
            · have e := Option.some.inj ho
              subst e
              have d1 : (gF 42) = stepV ⟨kd, k, sv, vr⟩ := hdep ⟨1, .data⟩ (by simp) rfl _ _ rfl rfl
              clear hag hdep ho
              refine relStep_off rfl ?_
              (repeat' first
    | ((with_reducible refine at_row ?_); refine row1_a fun _ _ _ _ _ _ _ => ?_)
    | with_reducible first | (first | apply alloc_k | apply row_k); intro _ _ _ _ _ _ | (first | apply fork | apply forkp) <;> intro _ | refine forke (fun _ => ?_) fun _ _ => ?_ | refine tail_k fun _ _ _ => ?_ | refine ext_k fun _ _ _ => ?_ | refine need_a ?_ | refine st_agg KR rfl ON fun _ _ _ _ => ?_ | refine wpd_q_a ?_
    | ((with_reducible refine at_f 54 ?_); refine ret_k (hrep _) fun _ _ _ => ?_)
    | simp (maxDischargeDepth := 3) only [↓X, ↓Y, ↓Q, S1, ↓reduceIte, Nat.reduceEqDiff, Nat.reduceAdd, Int.reduceLT, Int.reduceLE, Int.reduceNeg, Int.reduceBEq, Int.reduceBNe, Int.reduceEq, Nat.reduceLeDiff, Nat.reduceMul, Nat.reduceLT, *, stepV, stepC]
    | simp (singlePass := true) (maxDischargeDepth := 99) only [*, S2, Nat.reduceLT, stepV, stepC])
            · have e := Option.some.inj ho
              subst e
              have d0 : (gF 41) = .agg #[hv, rv] := hdep ⟨0, .data⟩ (by simp) rfl _ _ rfl rfl
              have d2 : (gF 43) = replicaV ⟨sv, k⟩ := hdep ⟨2, .data⟩ (by simp) rfl _ _ rfl rfl
              clear hag hdep ho
              refine relStep_off rfl ?_
              (repeat' first
    | ((with_reducible refine at_row ?_); refine row1_a fun _ _ _ _ _ _ _ => ?_)
    | with_reducible first | (first | apply alloc_k | apply row_k); intro _ _ _ _ _ _ | (first | apply fork | apply forkp) <;> intro _ | refine forke (fun _ => ?_) fun _ _ => ?_ | refine tail_k fun _ _ _ => ?_ | refine ext_k fun _ _ _ => ?_ | refine need_a ?_ | refine st_agg KR rfl ON fun _ _ _ _ => ?_ | refine wpd_q_a ?_
    | ((with_reducible refine at_f 54 ?_); refine ret_k (hrep _) fun _ _ _ => ?_)
    | simp (maxDischargeDepth := 3) only [↓X, ↓Y, ↓Q, S1, ↓reduceIte, Nat.reduceEqDiff, Nat.reduceAdd, Int.reduceLT, Int.reduceLE, Int.reduceNeg, Int.reduceBEq, Int.reduceBNe, Int.reduceEq, Nat.reduceLeDiff, Nat.reduceMul, Nat.reduceLT, *, stepV, stepC]
    | simp (singlePass := true) (maxDischargeDepth := 99) only [*, S2, Nat.reduceLT, stepV, stepC])
              refine CallsV.mono (worldStart (r := ⟨sv, k⟩) (B := B) FR (hX _ FR) hlen.out.1 hlen.out.2) fun v w10 hh => ⟨hh.1, ?_⟩
              obtain ⟨_, u0, rfl, ho⟩ := hh
              exact ⟨u0, by rw [e1.out]; rfl, by rw [e2.out]; exact ho.more z9⟩
            · have e := Option.some.inj ho
              subst e
              have d3 : ∃ u0, (gF 44) = .tuple #[u0, intV 0] ∧ OwnW w3.heap.size u0 w9 W := hdep ⟨3, .data⟩ (by simp) rfl _ _ rfl rfl
              obtain ⟨u3, e3, o3⟩ := d3
              clear hag hdep ho
              refine relStep_off rfl ?_
              (repeat' first
    | ((with_reducible refine at_row ?_); refine row1_a fun _ _ _ _ _ _ _ => ?_)
    | with_reducible first | (first | apply alloc_k | apply row_k); intro _ _ _ _ _ _ | (first | apply fork | apply forkp) <;> intro _ | refine forke (fun _ => ?_) fun _ _ => ?_ | refine tail_k fun _ _ _ => ?_ | refine ext_k fun _ _ _ => ?_ | refine need_a ?_ | refine st_agg KR rfl ON fun _ _ _ _ => ?_ | refine wpd_q_a ?_
    | ((with_reducible refine at_f 54 ?_); refine ret_k (hrep _) fun _ _ _ => ?_)
    | simp (maxDischargeDepth := 3) only [↓X, ↓Y, ↓Q, S1, ↓reduceIte, Nat.reduceEqDiff, Nat.reduceAdd, Int.reduceLT, Int.reduceLE, Int.reduceNeg, Int.reduceBEq, Int.reduceBNe, Int.reduceEq, Nat.reduceLeDiff, Nat.reduceMul, Nat.reduceLT, *, stepV, stepC]
    | simp (singlePass := true) (maxDischargeDepth := 99) only [*, S2, Nat.reduceLT, stepV, stepC])
              all_goals exact o3
            · have e := Option.some.inj ho
              subst e
              have d3 : ∃ u0, (gF 44) = .tuple #[u0, intV 0] ∧ OwnW w3.heap.size u0 w9 W := hdep ⟨3, .data⟩ (by simp) rfl _ _ rfl rfl
              obtain ⟨u3, e3, o3⟩ := d3
              clear hag hdep ho
              refine relStep_off rfl ?_
              (repeat' first
    | ((with_reducible refine at_row ?_); refine row1_a fun _ _ _ _ _ _ _ => ?_)
    | with_reducible first | (first | apply alloc_k | apply row_k); intro _ _ _ _ _ _ | (first | apply fork | apply forkp) <;> intro _ | refine forke (fun _ => ?_) fun _ _ => ?_ | refine tail_k fun _ _ _ => ?_ | refine ext_k fun _ _ _ => ?_ | refine need_a ?_ | refine st_agg KR rfl ON fun _ _ _ _ => ?_ | refine wpd_q_a ?_
    | ((with_reducible refine at_f 54 ?_); refine ret_k (hrep _) fun _ _ _ => ?_)
    | simp (maxDischargeDepth := 3) only [↓X, ↓Y, ↓Q, S1, ↓reduceIte, Nat.reduceEqDiff, Nat.reduceAdd, Int.reduceLT, Int.reduceLE, Int.reduceNeg, Int.reduceBEq, Int.reduceBNe, Int.reduceEq, Nat.reduceLeDiff, Nat.reduceMul, Nat.reduceLT, *, stepV, stepC]
    | simp (singlePass := true) (maxDischargeDepth := 99) only [*, S2, Nat.reduceLT, stepV, stepC])
            · omega
          · intro g9 w9 hx9 hR hag
            have s9 := hx9.st
            have n9 : Now w9 := trivial
            have r9 := Ext.refl w9
            have z9 := hx9.size
            have d4 : OwnW w3.heap.size (g9 45) w9 W := hR 4 _ _ (by decide) rfl rfl
            obtain ⟨h4, r4, e4, oh4, or4⟩ := d4
            have H4 := oh4.o
            have R4 := or4.o
            clear oh4 or4
            have d5 : (g9 46) = intV 0 := hR 5 _ _ (by decide) rfl rfl
            have a8 := hag.at 8 KR
            have a36 := hag.at 36 KR
            simp only [S5, ↓reduceIte, Nat.reduceEqDiff, initF, *] at a8 a36
            clear hag hR
            simp only [List.drop_succ_cons, List.drop_zero]
            (repeat' first
    | ((with_reducible refine at_row ?_); refine row1_a fun _ _ _ _ _ _ _ => ?_)
    | with_reducible first | (first | apply alloc_k | apply row_k); intro _ _ _ _ _ _ | (first | apply fork | apply forkp) <;> intro _ | refine forke (fun _ => ?_) fun _ _ => ?_ | refine tail_k fun _ _ _ => ?_ | refine ext_k fun _ _ _ => ?_ | refine need_a ?_ | refine st_agg KR rfl ON fun _ _ _ _ => ?_ | refine wpd_q_a ?_
    | simp (maxDischargeDepth := 3) only [↓X, ↓Y, ↓Q, S1, ↓reduceIte, Nat.reduceEqDiff, Nat.reduceAdd, Int.reduceLT, Int.reduceLE, Int.reduceNeg, Int.reduceBEq, Int.reduceBNe, Int.reduceEq, Nat.reduceLeDiff, Nat.reduceMul, Nat.reduceLT, *]
    | simp (singlePass := true) (maxDischargeDepth := 99) only [*, S2, Nat.reduceLT])
            exact ⟨_, rfl, _, _, rfl, (H4.1 _ FR).more FR, (R4.1 _ FR).more FR⟩
        · rename_i w3 n3 k3 s3 ha1 ha2 hk1
          obtain ⟨e1, e2⟩ := hsp.out (by assumption)
          replace e1 : Hid _ := e1
          replace e2 : Hid _ := e2
          clear hst hsp hse hkd hv1 hv2 hv3 hk1
          have hrep : ∀ w', Ret Tryz.prog 54 #[stepV ⟨kd, k, sv, vr⟩] w' (replicaV ⟨sv, k⟩) := fun _ => stepReplica
          unfold wpdH
          refine wpd_rel 6 (fun iI v w9 => match iI with
            | 0 => v = .agg #[hv, rv]
            | 1 => v = stepV ⟨kd, k, sv, vr⟩
            | 2 => v = replicaV ⟨sv, k⟩
            | 3 => ∃ u0, v = .tuple #[u0, intV 0] ∧ OwnW w3.heap.size u0 w9 W
            | 4 => OwnW w3.heap.size v w9 W
            | 5 => v = intV 0
            | _ => False) KR KR KR ?_ ?_ ?_
          · intro iI v w1 w2 hR hx9
            match iI, hR with
            | 0, h => exact h
            | 1, h => exact h
            | 2, h => exact h
            | 3, h => exact (let ⟨u0, e, o⟩ := h; ⟨u0, e, o.ext hx9⟩)
            | 4, h => exact OwnW.ext h hx9
            | 5, h => exact h
          · intro iI oO hi ho gF w9 hx9 hdep hag
            have s9 := hx9.st
            have n9 : Now w9 := trivial
            have r9 := Ext.refl w9
            have z9 := hx9.size
            rcases iI with _|_|_|_|_|_|iI
            · have e := Option.some.inj ho
              subst e
              have a6 := hag.at 6 KR
              simp only [S5, ↓reduceIte, Nat.reduceEqDiff, initF, *] at a6
              clear hag hdep ho
              refine relStep_off rfl ?_
              (repeat' first
    | ((with_reducible refine at_row ?_); refine row1_a fun _ _ _ _ _ _ _ => ?_)
    | with_reducible first | (first | apply alloc_k | apply row_k); intro _ _ _ _ _ _ | (first | apply fork | apply forkp) <;> intro _ | refine forke (fun _ => ?_) fun _ _ => ?_ | refine tail_k fun _ _ _ => ?_ | refine ext_k fun _ _ _ => ?_ | refine need_a ?_ | refine st_agg KR rfl ON fun _ _ _ _ => ?_ | refine wpd_q_a ?_
    | ((with_reducible refine at_f 54 ?_); refine ret_k (hrep _) fun _ _ _ => ?_)
    | simp (maxDischargeDepth := 3) only [↓X, ↓Y, ↓Q, S1, ↓reduceIte, Nat.reduceEqDiff, Nat.reduceAdd, Int.reduceLT, Int.reduceLE, Int.reduceNeg, Int.reduceBEq, Int.reduceBNe, Int.reduceEq, Nat.reduceLeDiff, Nat.reduceMul, Nat.reduceLT, *, stepV, stepC]
    | simp (singlePass := true) (maxDischargeDepth := 99) only [*, S2, Nat.reduceLT, stepV, stepC])
            · have e := Option.some.inj ho
              subst e
              have a7 := hag.at 7 KR
              simp only [S5, ↓reduceIte, Nat.reduceEqDiff, initF, *] at a7
              clear hag hdep ho
              refine relStep_off rfl ?_
              (repeat' first
    | ((with_reducible refine at_row ?_); refine row1_a fun _ _ _ _ _ _ _ => ?_)
    | with_reducible first | (first | apply alloc_k | apply row_k); intro _ _ _ _ _ _ | (first | apply fork | apply forkp) <;> intro _ | refine forke (fun _ => ?_) fun _ _ => ?_ | refine tail_k fun _ _ _ => ?_ | refine ext_k fun _ _ _ => ?_ | refine need_a ?_ | refine st_agg KR rfl ON fun _ _ _ _ => ?_ | refine wpd_q_a ?_
    | ((with_reducible refine at_f 54 ?_); refine ret_k (hrep _) fun _ _ _ => ?_)
    | simp (maxDischargeDepth := 3) only [↓X, ↓Y, ↓Q, S1, ↓reduceIte, Nat.reduceEqDiff, Nat.reduceAdd, Int.reduceLT, Int.reduceLE, Int.reduceNeg, Int.reduceBEq, Int.reduceBNe, Int.reduceEq, Nat.reduceLeDiff, Nat.reduceMul, Nat.reduceLT, *, stepV, stepC]
    | simp (singlePass := true) (maxDischargeDepth := 99) only [*, S2, Nat.reduceLT, stepV, stepC])
            · have e := Option.some.inj ho
              subst e
              have d1 : (gF 50) = stepV ⟨kd, k, sv, vr⟩ := hdep ⟨1, .data⟩ (by simp) rfl _ _ rfl rfl
              clear hag hdep ho
              refine relStep_off rfl ?_
              (repeat' first
    | ((with_reducible refine at_row ?_); refine row1_a fun _ _ _ _ _ _ _ => ?_)
    | with_reducible first | (first | apply alloc_k | apply row_k); intro _ _ _ _ _ _ | (first | apply fork | apply forkp) <;> intro _ | refine forke (fun _ => ?_) fun _ _ => ?_ | refine tail_k fun _ _ _ => ?_ | refine ext_k fun _ _ _ => ?_ | refine need_a ?_ | refine st_agg KR rfl ON fun _ _ _ _ => ?_ | refine wpd_q_a ?_
    | ((with_reducible refine at_f 54 ?_); refine ret_k (hrep _) fun _ _ _ => ?_)
    | simp (maxDischargeDepth := 3) only [↓X, ↓Y, ↓Q, S1, ↓reduceIte, Nat.reduceEqDiff, Nat.reduceAdd, Int.reduceLT, Int.reduceLE, Int.reduceNeg, Int.reduceBEq, Int.reduceBNe, Int.reduceEq, Nat.reduceLeDiff, Nat.reduceMul, Nat.reduceLT, *, stepV, stepC]
    | simp (singlePass := true) (maxDischargeDepth := 99) only [*, S2, Nat.reduceLT, stepV, stepC])
            · have e := Option.some.inj ho
              subst e
              have d0 : (gF 49) = .agg #[hv, rv] := hdep ⟨0, .data⟩ (by simp) rfl _ _ rfl rfl
              have d2 : (gF 51) = replicaV ⟨sv, k⟩ := hdep ⟨2, .data⟩ (by simp) rfl _ _ rfl rfl
              clear hag hdep ho
              refine relStep_off rfl ?_
              (repeat' first
    | ((with_reducible refine at_row ?_); refine row1_a fun _ _ _ _ _ _ _ => ?_)
    | with_reducible first | (first | apply alloc_k | apply row_k); intro _ _ _ _ _ _ | (first | apply fork | apply forkp) <;> intro _ | refine forke (fun _ => ?_) fun _ _ => ?_ | refine tail_k fun _ _ _ => ?_ | refine ext_k fun _ _ _ => ?_ | refine need_a ?_ | refine st_agg KR rfl ON fun _ _ _ _ => ?_ | refine wpd_q_a ?_
    | ((with_reducible refine at_f 54 ?_); refine ret_k (hrep _) fun _ _ _ => ?_)
    | simp (maxDischargeDepth := 3) only [↓X, ↓Y, ↓Q, S1, ↓reduceIte, Nat.reduceEqDiff, Nat.reduceAdd, Int.reduceLT, Int.reduceLE, Int.reduceNeg, Int.reduceBEq, Int.reduceBNe, Int.reduceEq, Nat.reduceLeDiff, Nat.reduceMul, Nat.reduceLT, *, stepV, stepC]
    | simp (singlePass := true) (maxDischargeDepth := 99) only [*, S2, Nat.reduceLT, stepV, stepC])
              refine CallsV.mono (worldStop (r := ⟨sv, k⟩) (B := B) FR (hX _ FR) hlen.out.1 hlen.out.2) fun v w10 hh => ⟨hh.1, ?_⟩
              obtain ⟨_, u0, rfl, ho⟩ := hh
              exact ⟨u0, by rw [e1.out]; rfl, by rw [e2.out]; exact ho.more z9⟩
            · have e := Option.some.inj ho
              subst e
              have d3 : ∃ u0, (gF 52) = .tuple #[u0, intV 0] ∧ OwnW w3.heap.size u0 w9 W := hdep ⟨3, .data⟩ (by simp) rfl _ _ rfl rfl
              obtain ⟨u3, e3, o3⟩ := d3
              clear hag hdep ho
              refine relStep_off rfl ?_
              (repeat' first
    | ((with_reducible refine at_row ?_); refine row1_a fun _ _ _ _ _ _ _ => ?_)
    | with_reducible first | (first | apply alloc_k | apply row_k); intro _ _ _ _ _ _ | (first | apply fork | apply forkp) <;> intro _ | refine forke (fun _ => ?_) fun _ _ => ?_ | refine tail_k fun _ _ _ => ?_ | refine ext_k fun _ _ _ => ?_ | refine need_a ?_ | refine st_agg KR rfl ON fun _ _ _ _ => ?_ | refine wpd_q_a ?_
    | ((with_reducible refine at_f 54 ?_); refine ret_k (hrep _) fun _ _ _ => ?_)
    | simp (maxDischargeDepth := 3) only [↓X, ↓Y, ↓Q, S1, ↓reduceIte, Nat.reduceEqDiff, Nat.reduceAdd, Int.reduceLT, Int.reduceLE, Int.reduceNeg, Int.reduceBEq, Int.reduceBNe, Int.reduceEq, Nat.reduceLeDiff, Nat.reduceMul, Nat.reduceLT, *, stepV, stepC]
    | simp (singlePass := true) (maxDischargeDepth := 99) only [*, S2, Nat.reduceLT, stepV, stepC])
              all_goals exact o3
            · have e := Option.some.inj ho
              subst e
              have d3 : ∃ u0, (gF 52) = .tuple #[u0, intV 0] ∧ OwnW w3.heap.size u0 w9 W := hdep ⟨3, .data⟩ (by simp) rfl _ _ rfl rfl
              obtain ⟨u3, e3, o3⟩ := d3
              clear hag hdep ho
              refine relStep_off rfl ?_
              (repeat' first
    | ((with_reducible refine at_row ?_); refine row1_a fun _ _ _ _ _ _ _ => ?_)
    | with_reducible first | (first | apply alloc_k | apply row_k); intro _ _ _ _ _ _ | (first | apply fork | apply forkp) <;> intro _ | refine forke (fun _ => ?_) fun _ _ => ?_ | refine tail_k fun _ _ _ => ?_ | refine ext_k fun _ _ _ => ?_ | refine need_a ?_ | refine st_agg KR rfl ON fun _ _ _ _ => ?_ | refine wpd_q_a ?_
    | ((with_reducible refine at_f 54 ?_); refine ret_k (hrep _) fun _ _ _ => ?_)
    | simp (maxDischargeDepth := 3) only [↓X, ↓Y, ↓Q, S1, ↓reduceIte, Nat.reduceEqDiff, Nat.reduceAdd, Int.reduceLT, Int.reduceLE, Int.reduceNeg, Int.reduceBEq, Int.reduceBNe, Int.reduceEq, Nat.reduceLeDiff, Nat.reduceMul, Nat.reduceLT, *, stepV, stepC]
    | simp (singlePass := true) (maxDischargeDepth := 99) only [*, S2, Nat.reduceLT, stepV, stepC])
            · omega
          · intro g9 w9 hx9 hR hag
            have s9 := hx9.st
            have n9 : Now w9 := trivial
            have r9 := Ext.refl w9
            have z9 := hx9.size
            have d4 : OwnW w3.heap.size (g9 53) w9 W := hR 4 _ _ (by decide) rfl rfl
            obtain ⟨h4, r4, e4, oh4, or4⟩ := d4
            have H4 := oh4.o
            have R4 := or4.o
            clear oh4 or4
            have d5 : (g9 54) = intV 0 := hR 5 _ _ (by decide) rfl rfl
            have a8 := hag.at 8 KR
            have a36 := hag.at 36 KR
            simp only [S5, ↓reduceIte, Nat.reduceEqDiff, initF, *] at a8 a36
            clear hag hR
            simp only [List.drop_succ_cons, List.drop_zero]
            (repeat' first
    | ((with_reducible refine at_row ?_); refine row1_a fun _ _ _ _ _ _ _ => ?_)
    | with_reducible first | (first | apply alloc_k | apply row_k); intro _ _ _ _ _ _ | (first | apply fork | apply forkp) <;> intro _ | refine forke (fun _ => ?_) fun _ _ => ?_ | refine tail_k fun _ _ _ => ?_ | refine ext_k fun _ _ _ => ?_ | refine need_a ?_ | refine st_agg KR rfl ON fun _ _ _ _ => ?_ | refine wpd_q_a ?_
    | simp (maxDischargeDepth := 3) only [↓X, ↓Y, ↓Q, S1, ↓reduceIte, Nat.reduceEqDiff, Nat.reduceAdd, Int.reduceLT, Int.reduceLE, Int.reduceNeg, Int.reduceBEq, Int.reduceBNe, Int.reduceEq, Nat.reduceLeDiff, Nat.reduceMul, Nat.reduceLT, *]
    | simp (singlePass := true) (maxDischargeDepth := 99) only [*, S2, Nat.reduceLT])
            exact ⟨_, rfl, _, _, rfl, (H4.1 _ FR).more FR, (R4.1 _ FR).more FR⟩
        · obtain ⟨e1, e2⟩ := hse.out (by omega) (by omega) ⟨1, x.hosts[k].firmware⟩ (by have e : kd = 3 := (by assumption); subst e; rfl)
          replace e1 : Hid _ := e1
          replace e2 : Hid _ := e2
          clear hst hsp hse hkd hv1 hv2 hv3
          refine st_one KR (by simp) rfl fun w5 n5 k5 s5 => ?_
          simp only [List.set_cons_zero, List.set_cons_succ] at k5
          (repeat' first
    | ((with_reducible refine at_row ?_); refine row1_a fun _ _ _ _ _ _ _ => ?_)
    | with_reducible first | (first | apply alloc_k | apply row_k); intro _ _ _ _ _ _ | (first | apply fork | apply forkp) <;> intro _ | refine forke (fun _ => ?_) fun _ _ => ?_ | refine tail_k fun _ _ _ => ?_ | refine ext_k fun _ _ _ => ?_ | refine need_a ?_ | refine st_agg KR rfl ON fun _ _ _ _ => ?_ | refine wpd_q_a ?_
    | simp (maxDischargeDepth := 3) only [↓X, ↓Y, ↓Q, S1, ↓reduceIte, Nat.reduceEqDiff, Nat.reduceAdd, Int.reduceLT, Int.reduceLE, Int.reduceNeg, Int.reduceBEq, Int.reduceBNe, Int.reduceEq, Nat.reduceLeDiff, Nat.reduceMul, Nat.reduceLT, *, stateV]
    | simp (singlePass := true) (maxDischargeDepth := 99) only [*, S2, Nat.reduceLT, stateV])
          refine call_k (worldSet (host := k) (h := ⟨1, x.hosts[k].firmware⟩) (B := B) FR (hX _ FR) hlen.out.1 hlen.out.2) ?_
          rintro _ w6 n6 s6 ⟨u6, rfl, o6⟩
          rw [e1.out, ← e2.out] at *
          obtain ⟨h4, r4, rfl, oh4, or4⟩ := o6
          have H4 := oh4.o
          have R4 := or4.o
          clear oh4 or4
          (repeat' first
    | ((with_reducible refine at_row ?_); refine row1_a fun _ _ _ _ _ _ _ => ?_)
    | with_reducible first | (first | apply alloc_k | apply row_k); intro _ _ _ _ _ _ | (first | apply fork | apply forkp) <;> intro _ | refine forke (fun _ => ?_) fun _ _ => ?_ | refine tail_k fun _ _ _ => ?_ | refine ext_k fun _ _ _ => ?_ | refine need_a ?_ | refine st_agg KR rfl ON fun _ _ _ _ => ?_ | refine wpd_q_a ?_
    | simp (maxDischargeDepth := 3) only [↓X, ↓Y, ↓Q, S1, ↓reduceIte, Nat.reduceEqDiff, Nat.reduceAdd, Int.reduceLT, Int.reduceLE, Int.reduceNeg, Int.reduceBEq, Int.reduceBNe, Int.reduceEq, Nat.reduceLeDiff, Nat.reduceMul, Nat.reduceLT, *]
    | simp (singlePass := true) (maxDischargeDepth := 99) only [*, S2, Nat.reduceLT])
          exact ⟨_, rfl, _, _, rfl, (H4.1 _ FR).more FR, (R4.1 _ FR).more FR⟩
        · obtain ⟨e1, e2⟩ := hse.out (by omega) (by omega) ⟨2, x.hosts[k].firmware⟩ (by have e : kd = 4 := (by assumption); subst e; rfl)
          replace e1 : Hid _ := e1
          replace e2 : Hid _ := e2
          clear hst hsp hse hkd hv1 hv2 hv3
          refine st_one KR (by simp) rfl fun w5 n5 k5 s5 => ?_
          simp only [List.set_cons_zero, List.set_cons_succ] at k5
          (repeat' first
    | ((with_reducible refine at_row ?_); refine row1_a fun _ _ _ _ _ _ _ => ?_)
    | with_reducible first | (first | apply alloc_k | apply row_k); intro _ _ _ _ _ _ | (first | apply fork | apply forkp) <;> intro _ | refine forke (fun _ => ?_) fun _ _ => ?_ | refine tail_k fun _ _ _ => ?_ | refine ext_k fun _ _ _ => ?_ | refine need_a ?_ | refine st_agg KR rfl ON fun _ _ _ _ => ?_ | refine wpd_q_a ?_
    | simp (maxDischargeDepth := 3) only [↓X, ↓Y, ↓Q, S1, ↓reduceIte, Nat.reduceEqDiff, Nat.reduceAdd, Int.reduceLT, Int.reduceLE, Int.reduceNeg, Int.reduceBEq, Int.reduceBNe, Int.reduceEq, Nat.reduceLeDiff, Nat.reduceMul, Nat.reduceLT, *, stateV]
    | simp (singlePass := true) (maxDischargeDepth := 99) only [*, S2, Nat.reduceLT, stateV])
          refine call_k (worldSet (host := k) (h := ⟨2, x.hosts[k].firmware⟩) (B := B) FR (hX _ FR) hlen.out.1 hlen.out.2) ?_
          rintro _ w6 n6 s6 ⟨u6, rfl, o6⟩
          rw [e1.out, ← e2.out] at *
          obtain ⟨h4, r4, rfl, oh4, or4⟩ := o6
          have H4 := oh4.o
          have R4 := or4.o
          clear oh4 or4
          (repeat' first
    | ((with_reducible refine at_row ?_); refine row1_a fun _ _ _ _ _ _ _ => ?_)
    | with_reducible first | (first | apply alloc_k | apply row_k); intro _ _ _ _ _ _ | (first | apply fork | apply forkp) <;> intro _ | refine forke (fun _ => ?_) fun _ _ => ?_ | refine tail_k fun _ _ _ => ?_ | refine ext_k fun _ _ _ => ?_ | refine need_a ?_ | refine st_agg KR rfl ON fun _ _ _ _ => ?_ | refine wpd_q_a ?_
    | simp (maxDischargeDepth := 3) only [↓X, ↓Y, ↓Q, S1, ↓reduceIte, Nat.reduceEqDiff, Nat.reduceAdd, Int.reduceLT, Int.reduceLE, Int.reduceNeg, Int.reduceBEq, Int.reduceBNe, Int.reduceEq, Nat.reduceLeDiff, Nat.reduceMul, Nat.reduceLT, *]
    | simp (singlePass := true) (maxDischargeDepth := 99) only [*, S2, Nat.reduceLT])
          exact ⟨_, rfl, _, _, rfl, (H4.1 _ FR).more FR, (R4.1 _ FR).more FR⟩
        · obtain ⟨e1, e2⟩ := hse.out (by omega) (by omega) ⟨3, x.hosts[k].firmware⟩ (by have e : kd = 5 := (by assumption); subst e; rfl)
          replace e1 : Hid _ := e1
          replace e2 : Hid _ := e2
          clear hst hsp hse hkd hv1 hv2 hv3
          refine st_one KR (by simp) rfl fun w5 n5 k5 s5 => ?_
          simp only [List.set_cons_zero, List.set_cons_succ] at k5
          (repeat' first
    | ((with_reducible refine at_row ?_); refine row1_a fun _ _ _ _ _ _ _ => ?_)
    | with_reducible first | (first | apply alloc_k | apply row_k); intro _ _ _ _ _ _ | (first | apply fork | apply forkp) <;> intro _ | refine forke (fun _ => ?_) fun _ _ => ?_ | refine tail_k fun _ _ _ => ?_ | refine ext_k fun _ _ _ => ?_ | refine need_a ?_ | refine st_agg KR rfl ON fun _ _ _ _ => ?_ | refine wpd_q_a ?_
    | simp (maxDischargeDepth := 3) only [↓X, ↓Y, ↓Q, S1, ↓reduceIte, Nat.reduceEqDiff, Nat.reduceAdd, Int.reduceLT, Int.reduceLE, Int.reduceNeg, Int.reduceBEq, Int.reduceBNe, Int.reduceEq, Nat.reduceLeDiff, Nat.reduceMul, Nat.reduceLT, *, stateV]
    | simp (singlePass := true) (maxDischargeDepth := 99) only [*, S2, Nat.reduceLT, stateV])
          refine call_k (worldSet (host := k) (h := ⟨3, x.hosts[k].firmware⟩) (B := B) FR (hX _ FR) hlen.out.1 hlen.out.2) ?_
          rintro _ w6 n6 s6 ⟨u6, rfl, o6⟩
          rw [e1.out, ← e2.out] at *
          obtain ⟨h4, r4, rfl, oh4, or4⟩ := o6
          have H4 := oh4.o
          have R4 := or4.o
          clear oh4 or4
          (repeat' first
    | ((with_reducible refine at_row ?_); refine row1_a fun _ _ _ _ _ _ _ => ?_)
    | with_reducible first | (first | apply alloc_k | apply row_k); intro _ _ _ _ _ _ | (first | apply fork | apply forkp) <;> intro _ | refine forke (fun _ => ?_) fun _ _ => ?_ | refine tail_k fun _ _ _ => ?_ | refine ext_k fun _ _ _ => ?_ | refine need_a ?_ | refine st_agg KR rfl ON fun _ _ _ _ => ?_ | refine wpd_q_a ?_
    | simp (maxDischargeDepth := 3) only [↓X, ↓Y, ↓Q, S1, ↓reduceIte, Nat.reduceEqDiff, Nat.reduceAdd, Int.reduceLT, Int.reduceLE, Int.reduceNeg, Int.reduceBEq, Int.reduceBNe, Int.reduceEq, Nat.reduceLeDiff, Nat.reduceMul, Nat.reduceLT, *]
    | simp (singlePass := true) (maxDischargeDepth := 99) only [*, S2, Nat.reduceLT])
          exact ⟨_, rfl, _, _, rfl, (H4.1 _ FR).more FR, (R4.1 _ FR).more FR⟩
        · obtain ⟨e1, e2⟩ := hse.out (by omega) (by omega) ⟨0, x.hosts[k].firmware⟩ (by have e : kd = 6 := (by assumption); subst e; rfl)
          replace e1 : Hid _ := e1
          replace e2 : Hid _ := e2
          clear hst hsp hse hkd hv1 hv2 hv3
          refine st_one KR (by simp) rfl fun w5 n5 k5 s5 => ?_
          simp only [List.set_cons_zero, List.set_cons_succ] at k5
          (repeat' first
    | ((with_reducible refine at_row ?_); refine row1_a fun _ _ _ _ _ _ _ => ?_)
    | with_reducible first | (first | apply alloc_k | apply row_k); intro _ _ _ _ _ _ | (first | apply fork | apply forkp) <;> intro _ | refine forke (fun _ => ?_) fun _ _ => ?_ | refine tail_k fun _ _ _ => ?_ | refine ext_k fun _ _ _ => ?_ | refine need_a ?_ | refine st_agg KR rfl ON fun _ _ _ _ => ?_ | refine wpd_q_a ?_
    | simp (maxDischargeDepth := 3) only [↓X, ↓Y, ↓Q, S1, ↓reduceIte, Nat.reduceEqDiff, Nat.reduceAdd, Int.reduceLT, Int.reduceLE, Int.reduceNeg, Int.reduceBEq, Int.reduceBNe, Int.reduceEq, Nat.reduceLeDiff, Nat.reduceMul, Nat.reduceLT, *, stateV]
    | simp (singlePass := true) (maxDischargeDepth := 99) only [*, S2, Nat.reduceLT, stateV])
          refine call_k (worldSet (host := k) (h := ⟨0, x.hosts[k].firmware⟩) (B := B) FR (hX _ FR) hlen.out.1 hlen.out.2) ?_
          rintro _ w6 n6 s6 ⟨u6, rfl, o6⟩
          rw [e1.out, ← e2.out] at *
          obtain ⟨h4, r4, rfl, oh4, or4⟩ := o6
          have H4 := oh4.o
          have R4 := or4.o
          clear oh4 or4
          (repeat' first
    | ((with_reducible refine at_row ?_); refine row1_a fun _ _ _ _ _ _ _ => ?_)
    | with_reducible first | (first | apply alloc_k | apply row_k); intro _ _ _ _ _ _ | (first | apply fork | apply forkp) <;> intro _ | refine forke (fun _ => ?_) fun _ _ => ?_ | refine tail_k fun _ _ _ => ?_ | refine ext_k fun _ _ _ => ?_ | refine need_a ?_ | refine st_agg KR rfl ON fun _ _ _ _ => ?_ | refine wpd_q_a ?_
    | simp (maxDischargeDepth := 3) only [↓X, ↓Y, ↓Q, S1, ↓reduceIte, Nat.reduceEqDiff, Nat.reduceAdd, Int.reduceLT, Int.reduceLE, Int.reduceNeg, Int.reduceBEq, Int.reduceBNe, Int.reduceEq, Nat.reduceLeDiff, Nat.reduceMul, Nat.reduceLT, *]
    | simp (singlePass := true) (maxDischargeDepth := 99) only [*, S2, Nat.reduceLT])
          exact ⟨_, rfl, _, _, rfl, (H4.1 _ FR).more FR, (R4.1 _ FR).more FR⟩
        · obtain ⟨e1, e2⟩ := hse.out (by omega) (by omega) ⟨x.hosts[k].phase, vr⟩ (by have e : kd = 7 := (by assumption); subst e; rfl)
          replace e1 : Hid _ := e1
          replace e2 : Hid _ := e2
          clear hst hsp hse hkd hv1 hv2 hv3
          refine st_one KR (by simp) rfl fun w5 n5 k5 s5 => ?_
          simp only [List.set_cons_zero, List.set_cons_succ] at k5
          (repeat' first
    | ((with_reducible refine at_row ?_); refine row1_a fun _ _ _ _ _ _ _ => ?_)
    | with_reducible first | (first | apply alloc_k | apply row_k); intro _ _ _ _ _ _ | (first | apply fork | apply forkp) <;> intro _ | refine forke (fun _ => ?_) fun _ _ => ?_ | refine tail_k fun _ _ _ => ?_ | refine ext_k fun _ _ _ => ?_ | refine need_a ?_ | refine st_agg KR rfl ON fun _ _ _ _ => ?_ | refine wpd_q_a ?_
    | simp (maxDischargeDepth := 3) only [↓X, ↓Y, ↓Q, S1, ↓reduceIte, Nat.reduceEqDiff, Nat.reduceAdd, Int.reduceLT, Int.reduceLE, Int.reduceNeg, Int.reduceBEq, Int.reduceBNe, Int.reduceEq, Nat.reduceLeDiff, Nat.reduceMul, Nat.reduceLT, *, stateV]
    | simp (singlePass := true) (maxDischargeDepth := 99) only [*, S2, Nat.reduceLT, stateV])
          refine call_k (worldSet (host := k) (h := ⟨x.hosts[k].phase, vr⟩) (B := B) FR (hX _ FR) hlen.out.1 hlen.out.2) ?_
          rintro _ w6 n6 s6 ⟨u6, rfl, o6⟩
          rw [e1.out, ← e2.out] at *
          obtain ⟨h4, r4, rfl, oh4, or4⟩ := o6
          have H4 := oh4.o
          have R4 := or4.o
          clear oh4 or4
          (repeat' first
    | ((with_reducible refine at_row ?_); refine row1_a fun _ _ _ _ _ _ _ => ?_)
    | with_reducible first | (first | apply alloc_k | apply row_k); intro _ _ _ _ _ _ | (first | apply fork | apply forkp) <;> intro _ | refine forke (fun _ => ?_) fun _ _ => ?_ | refine tail_k fun _ _ _ => ?_ | refine ext_k fun _ _ _ => ?_ | refine need_a ?_ | refine st_agg KR rfl ON fun _ _ _ _ => ?_ | refine wpd_q_a ?_
    | simp (maxDischargeDepth := 3) only [↓X, ↓Y, ↓Q, S1, ↓reduceIte, Nat.reduceEqDiff, Nat.reduceAdd, Int.reduceLT, Int.reduceLE, Int.reduceNeg, Int.reduceBEq, Int.reduceBNe, Int.reduceEq, Nat.reduceLeDiff, Nat.reduceMul, Nat.reduceLT, *]
    | simp (singlePass := true) (maxDischargeDepth := 99) only [*, S2, Nat.reduceLT])
          exact ⟨_, rfl, _, _, rfl, (H4.1 _ FR).more FR, (R4.1 _ FR).more FR⟩
        · exfalso
          have := hkd.out
          omega
end
end Go.Proofs.YtmcdgepfhpakiaaGreat
