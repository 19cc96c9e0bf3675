/- The document's answer, layer 19: Valid, runs, Ready. -/
import Derived.Test.YtphciegaokdolaaGreatDoorStep2
import Derived.Test.YtphciegaokdolaaGreatDoorRef13
import Derived.Test.YtphciegaokdolaaGreatDoorStart13
import Derived.Test.YtphciegaokdolaaGreatDoorCopy13
namespace Go.Proofs.YtphciegaokdolaaGreatDoor
set_option linter.unusedSimpArgs false
set_option linter.unusedVariables false
open Go Go.RowKit
set_option maxRecDepth 100000
set_option linter.unusedSectionVars false
set_option maxHeartbeats 2000000
theorem sxRef190 {p q : Prop} (hq : q) (h : p = q := by first | (simp (maxDischargeDepth := 3) only [↓X, ↓Y, ↓Q, S1, ↓reduceIte, Nat.reduceEqDiff, Nat.reduceAdd, Int.reduceLT, Int.reduceLE, Int.reduceNeg, Int.reduceBEq, Int.reduceBNe, Int.reduceEq, Nat.reduceLeDiff, Nat.reduceMul, Nat.reduceLT, *, siteC, stepV, stepC]; try exact rfl) | (simp (singlePass := true) (maxDischargeDepth := 99) only [*, S2, Nat.reduceLT, siteC, stepV, stepC]; try exact rfl)) : p := h ▸ hq
theorem sxRef192 {p q : Prop} (hq : q) (h : p = q := by first | (simp (maxDischargeDepth := 3) only [↓X, ↓Y, ↓Q, S1, ↓reduceIte, Nat.reduceEqDiff, Nat.reduceAdd, Int.reduceLT, Int.reduceLE, Int.reduceNeg, Int.reduceBEq, Int.reduceBNe, Int.reduceEq, Nat.reduceLeDiff, Nat.reduceMul, Nat.reduceLT, *, siteC, stepV, stepC, stateV, replicaV]; try exact rfl) | (simp (singlePass := true) (maxDischargeDepth := 99) only [*, S2, Nat.reduceLT, siteC, stepV, stepC, stateV, replicaV]; try exact rfl)) : p := h ▸ hq
theorem sxRef193 {p q : Prop} (hq : q) (h : p = q := by first | (simp (maxDischargeDepth := 3) only [↓X, ↓Y, ↓Q, S1, ↓reduceIte, Nat.reduceEqDiff, Nat.reduceAdd, Int.reduceLT, Int.reduceLE, Int.reduceNeg, Int.reduceBEq, Int.reduceBNe, Int.reduceEq, Nat.reduceLeDiff, Nat.reduceMul, Nat.reduceLT, *, stateV]; try exact rfl) | (simp (singlePass := true) (maxDischargeDepth := 99) only [*, S2, Nat.reduceLT, stateV]; try exact rfl)) : p := h ▸ hq
theorem sxRef194 {p q : Prop} (hq : q) (h : p = q := by first | (simp (maxDischargeDepth := 3) only [↓X, ↓Y, ↓Q, S1, ↓reduceIte, Nat.reduceEqDiff, Nat.reduceAdd, Int.reduceLT, Int.reduceLE, Int.reduceNeg, Int.reduceBEq, Int.reduceBNe, Int.reduceEq, Nat.reduceLeDiff, Nat.reduceMul, Nat.reduceLT, *, phV]; try exact rfl) | (simp (singlePass := true) (maxDischargeDepth := 99) only [*, S2, Nat.reduceLT, phV]; try exact rfl)) : p := h ▸ hq
theorem sxRef195 {p q : Prop} (hq : q) (h : p = q := by first | (simp (maxDischargeDepth := 3) only [↓X, ↓Y, ↓Q, S1, ↓reduceIte, Nat.reduceEqDiff, Nat.reduceAdd, Int.reduceLT, Int.reduceLE, Int.reduceNeg, Int.reduceBEq, Int.reduceBNe, Int.reduceEq, Nat.reduceLeDiff, Nat.reduceMul, Nat.reduceLT, *, phV, stepC]; try exact rfl) | (simp (singlePass := true) (maxDischargeDepth := 99) only [*, S2, Nat.reduceLT, phV, stepC]; try exact rfl)) : p := h ▸ hq
section
variable {w : World} {B : Nat} {u : SiteVs} {s : SiteD} {wv hv rv : Value} {l : List SrvV} {x : WorldD} {st : StepD} {wl : List ServiceD}
/-- What a step must be like, the site and the wish being valid. -/
def StepP (nh nw : Int) (st : StepD) : Prop := 0 ≤ st.host ∧ st.host < nh ∧ (((st.kind = 1 ∨ st.kind = 2) ∧ 0 ≤ st.service ∧ st.service < nw ∧ st.version = 0) ∨ ((3 ≤ st.kind ∧ st.kind ≤ 6) ∧ st.service = 0 ∧ st.version = 0) ∨ (st.kind = 7 ∧ st.service = 0 ∧ 0 ≤ st.version ∧ st.version ≤ 1000000))
instance (nh nw : Int) (st : StepD) : Decidable (StepP nh nw st) := by unfold StepP; infer_instance
theorem stepB2_P (h1 : siteB s = true) (h2 : wishB wl = true) : stepB2 s wl st = decide (StepP s.hosts.length wl.length st) := by
 rw [Bool.eq_iff_iff, decide_eq_true_eq]
 unfold StepP
 simp only [stepB2, kindOk, stepOkB, h1, h2, Bool.and_eq_true, decide_eq_true_eq, Bool.or_eq_true, beq_iff_eq, Bool.true_and, true_and]
 by_cases hk : st.kind = 1 ∨ st.kind = 2
 ·rw [if_pos hk]
  by_cases h7 : st.kind = 7
  ·omega
  ·rw [if_neg h7]; constructor <;> intro h <;> omega
 ·rw [if_neg hk]
  by_cases h7 : st.kind = 7
  ·rw [if_pos h7]; constructor <;> intro h <;> omega
  ·rw [if_neg h7]; constructor <;> intro h <;> omega
theorem ref19Valid (hB : B ≤ w.heap.size) (hs : SiteR w B u s) (hl : WishR w B wv l) : Ret Tryz.prog 70 #[.agg (siteC u s).toArray, .agg #[wv], stepV st] w (.bool (stepB2 s (l.map (·.x)) st)) := by
 have hn : Now w := trivial
 have hx : Ext w w := Ext.refl w
 have hs' := hs.sk hB
 have hl' := hl.sk hB
 have hS := hs'.2.2.2.2.2.2
 have hW := hl'.2.2
 have hv1 := fun w' (h1 : Bl B w w') (h3 : B ≤ w'.heap.size) => ref12Valid h3 (hS w' h1)
 have hv2 := fun w' (h1 : Bl B w w') (h3 : B ≤ w'.heap.size) => ref13ValidWish h3 (hW w' h1)
 have hP : siteB s = true → wishB (l.map (·.x)) = true → Hid (stepB2 s (l.map (·.x)) st = decide (StepP s.hosts.length l.length st)) := fun h1 h2 => by
  have := stepB2_P (st := st) h1 h2
  rwa [List.length_map] at this
 have hN : siteB s = false ∨ wishB (l.map (·.x)) = false → Hid (stepB2 s (l.map (·.x)) st = false) := fun h => by
  show _ = _
  rcases h with h | h <;> simp [stepB2, stepOkB, h]
 generalize stepB2 s (l.map (·.x)) st = r at *
 generalize siteB s = sb at *
 generalize wishB (l.map (·.x)) = wb at *
 (refine callsV_of Tryz.func70 rfl KR KR ?_; rw [Tryz.results70])
 cases sb
 ·obtain rfl := (hN (.inl rfl)).out
  clear hN hP hv2
  (repeat' first
  | with_reducible first | exact ⟨⟩ | (refine Brg.mk ?_; intros) | refine Two.mk ?_ ?_
  | refine gs ?_
  | ((with_reducible refine at_f 83 ?_); refine ret_k (hv1 _ FR FR) fun _ _ _ => ?_)
  | refine sxRef190 ?_)
 cases wb
 ·obtain rfl := (hN (.inr rfl)).out
  clear hN hP
  (repeat' first
  | with_reducible first | exact ⟨⟩ | (refine Brg.mk ?_; intros) | refine Two.mk ?_ ?_
  | refine gs ?_
  | ((with_reducible refine at_f 83 ?_); refine ret_k (hv1 _ FR FR) fun _ _ _ => ?_)
  | ((with_reducible refine at_f 84 ?_); refine ret_k (hv2 _ FR FR) fun _ _ _ => ?_)
  | refine sxRef190 ?_)
 obtain hr := hP rfl rfl
 clear hN hP
 (repeat' first
  | with_reducible first | exact ⟨⟩ | (refine Brg.mk ?_; intros) | refine Two.mk ?_ ?_
  | refine gs ?_
  | ((with_reducible refine at_f 83 ?_); refine ret_k (hv1 _ FR FR) fun _ _ _ => ?_)
  | ((with_reducible refine at_f 84 ?_); refine ret_k (hv2 _ FR FR) fun _ _ _ => ?_)
  | refine sxRef190 ?_)
 all_goals (have hr := hr.out; subst hr; refine congrArg Value.bool ?_; rw [Bool.eq_iff_iff]; simp only [beq_iff_eq, decide_eq_true_eq, Bool.false_eq_true, false_iff, true_iff, iff_true]; unfold StepP; first | omega | (constructor <;> intro h <;> omega))
theorem ref19runs {h : Int} (hB : B ≤ w.heap.size) (hx0 : WorldR w B hv rv x) : Ret Tryz.prog 76 #[.agg #[hv, rv], intV h] w (.bool (runsB x h)) := by
 have hn : Now w := trivial
 have hx : Ext w w := Ext.refl w
 have hx' := hx0.sk hB
 (refine callsV_of Tryz.func76 rfl KR KR ?_; rw [Tryz.results76])
 (repeat' first
  | with_reducible first | exact ⟨⟩ | (refine Brg.mk ?_; intros) | refine Two.mk ?_ ?_
  | refine gs ?_
  | refine sx ?_)
 refine loop_k (x.replicas.length) (fun g0 k g _ => g 5 = .int .i64 k ∧ (g 1 = g0 1 ∧ g 2 = g0 2) ∧ Hid ((x.replicas.take k).any (fun r => r.host == h) = false)) KR (hx0.r.max_) ?_ ?_ ?_
 ·(repeat' first
  | with_reducible first | exact ⟨⟩ | (refine Brg.mk ?_; intros) | refine Two.mk ?_ ?_
  | refine gs ?_
  | simp (maxDischargeDepth := 3) only [↓X, ↓Y, ↓Q, S1, ↓reduceIte, Nat.reduceEqDiff, Nat.reduceAdd, Int.reduceLT, Int.reduceLE, Int.reduceNeg, Int.reduceBEq, Int.reduceBNe, Int.reduceEq, Nat.reduceLeDiff, Nat.reduceMul, Nat.reduceLT, *, List.take_zero, List.all_nil, List.any_nil]
  | simp (singlePass := true) (maxDischargeDepth := 99) only [*, S2, Nat.reduceLT, List.take_zero, List.all_nil, List.any_nil])
  trivial
 ·rintro k m g wk hk hlt _ _ _ hw ⟨hi, hf, hp⟩
  simp (maxDischargeDepth := 3) only [U, ↓reduceIte, Nat.reduceEqDiff, *] at hf
  have ha := any_take hlt (fun r => r.host == h)
  (repeat' first
  | with_reducible first | exact ⟨⟩ | (refine Brg.mk ?_; intros) | refine Two.mk ?_ ?_
  | refine gs ?_
  | simp (maxDischargeDepth := 3) only [↓X, ↓Y, ↓Q, S1, ↓reduceIte, Nat.reduceEqDiff, Nat.reduceAdd, Int.reduceLT, Int.reduceLE, Int.reduceNeg, Int.reduceBEq, Int.reduceBNe, Int.reduceEq, Nat.reduceLeDiff, Nat.reduceMul, Nat.reduceLT, *, replicaV]
  | simp (singlePass := true) (maxDischargeDepth := 99) only [*, S2, Nat.reduceLT, replicaV])
  ·rename_i e
   have : runsB x h = true := any_at hlt (by simpa using e)
   rw [this]
  ·rename_i e
   refine next_k hk hlt ?_ FR
   have hp' := hp.out
   have he : (x.replicas[k].host == h) = false := by simpa using e
   (repeat' first
  | with_reducible first | exact ⟨⟩ | (refine Brg.mk ?_; intros) | refine Two.mk ?_ ?_
  | refine gs ?_
  | simp (maxDischargeDepth := 3) only [↓X, ↓Y, ↓Q, S1, ↓reduceIte, Nat.reduceEqDiff, Nat.reduceAdd, Int.reduceLT, Int.reduceLE, Int.reduceNeg, Int.reduceBEq, Int.reduceBNe, Int.reduceEq, Nat.reduceLeDiff, Nat.reduceMul, Nat.reduceLT, *, ha, he, hp']
  | simp (singlePass := true) (maxDischargeDepth := 99) only [*, S2, Nat.reduceLT, ha, he, hp'])
   trivial
 ·rintro g wk _ _ _ ⟨hi, hf, hp⟩
  simp (maxDischargeDepth := 3) only [U, ↓reduceIte, Nat.reduceEqDiff, *] at hf
  rw [take_all'] at hp
  have hp' : runsB x h = false := hp.out
  (repeat' first
  | with_reducible first | exact ⟨⟩ | (refine Brg.mk ?_; intros) | refine Two.mk ?_ ?_
  | refine gs ?_
  | refine sx ?_)
theorem ref19Ready (hB : B ≤ w.heap.size) (hs : SiteR w B u s) (hl : WishR w B wv l) (hx0 : WorldR w B hv rv x) : Ret Tryz.prog 71 #[.agg (siteC u s).toArray, .agg #[wv], .agg #[hv, rv], stepV st] w (.bool (readyB s (l.map (·.x)) x st)) := by
 have hn : Now w := trivial
 have hx : Ext w w := Ext.refl w
 obtain ⟨kd, hst, sv, vr⟩ := st
 have hs' := hs.sk hB
 have hl' := hl.sk hB
 have hx' := hx0.sk hB
 have hS := hs'.2.2.2.2.2.2
 have hW := hl'.2.2
 have hX := hx'.2.2.2.2
 have hv1 := fun w' (h1 : Bl B w w') (h3 : B ≤ w'.heap.size) => ref19Valid (st := ⟨kd, hst, sv, vr⟩) h3 (hS w' h1) (hW w' h1)
 have hv2 := fun w' (h1 : Bl B w w') (h3 : B ≤ w'.heap.size) => ref13Valid h3 (hS w' h1) (hW w' h1) (hX w' h1)
 have hr : readyB s (l.map (·.x)) x ⟨kd, hst, sv, vr⟩ = (stepB2 s (l.map (·.x)) ⟨kd, hst, sv, vr⟩ && validB s (l.map (·.x)) x && readyK x ⟨kd, hst, sv, vr⟩) := rfl
 have hp : stepB2 s (l.map (·.x)) ⟨kd, hst, sv, vr⟩ = true → validB s (l.map (·.x)) x = true → Hid ((1 ≤ kd ∧ kd ≤ 7) ∧ (0 ≤ hst ∧ hst < x.hosts.length)) := fun h1 h2 => by
  have a := step_parts h1
  have b := valid_parts h2
  exact ⟨a.1, a.2.2.2.1, by have := a.2.2.2.2.1; simp only at this; omega⟩
 rw [hr]
 clear hr
 generalize stepB2 s (l.map (·.x)) ⟨kd, hst, sv, vr⟩ = sb at *
 generalize validB s (l.map (·.x)) x = vb at *
 (refine callsV_of Tryz.func71 rfl KR KR ?_; rw [Tryz.results71])
 cases sb
 ·clear hv2 hp
  (repeat' first
  | with_reducible first | exact ⟨⟩ | (refine Brg.mk ?_; intros) | refine Two.mk ?_ ?_
  | refine gs ?_
  | ((with_reducible refine at_f 70 ?_); refine ret_k (hv1 _ FR FR) fun _ _ _ => ?_)
  | refine sxRef190 ?_)
 cases vb
 ·clear hp
  (repeat' first
  | with_reducible first | exact ⟨⟩ | (refine Brg.mk ?_; intros) | refine Two.mk ?_ ?_
  | refine gs ?_
  | ((with_reducible refine at_f 70 ?_); refine ret_k (hv1 _ FR FR) fun _ _ _ => ?_)
  | ((with_reducible refine at_f 45 ?_); refine ret_k (hv2 _ FR FR) fun _ _ _ => ?_)
  | refine sxRef190 ?_)
 have hq := hp rfl rfl
 clear hp
 obtain ⟨k, rfl⟩ : ∃ k : Nat, hst = k := ⟨hst.toNat, by have := hq.out.2; omega⟩
 have hlt : k < x.hosts.length := by have := hq.out.2; omega
 have hat : hostAt x k = x.hosts[k] := by simp [hostAt, hlt]
 have hkd : Hid (1 ≤ kd ∧ kd ≤ 7) := hq.out.1
 have hrk : Hid (∀ r, (if kd = 1 then x.hosts[k].phase == 0 && !hasB x.replicas ⟨sv, k⟩ && decide (x.replicas.length < 24) else if kd = 2 then hasB x.replicas ⟨sv, k⟩ else if kd = 3 then x.hosts[k].phase == 0 else if kd = 4 then x.hosts[k].phase == 1 && !runsB x k
   else if kd = 5 then x.hosts[k].phase == 2 && !runsB x k else if kd = 6 then x.hosts[k].phase == 1 || x.hosts[k].phase == 2 || x.hosts[k].phase == 3 else x.hosts[k].phase == 2) = r → readyK x ⟨kd, k, sv, vr⟩ = r) := fun r h => by
  rw [← h]
  simp only [readyK, hat]
  rfl
 clear hq hat
 have hha := fun w' (h1 : Bl B w w') (h3 : B ≤ w'.heap.size) => ref13Has (r := ⟨sv, k⟩) h3 (hX w' h1)
 have hru := fun w' (h1 : Bl B w w') (h3 : B ≤ w'.heap.size) => ref19runs (h := k) h3 (hX w' h1)
 generalize hasB x.replicas ⟨sv, k⟩ = hb at *
 generalize runsB x k = rb at *
 generalize readyK x ⟨kd, k, sv, vr⟩ = rk at *
 have h24 : decide ((x.replicas.length : Int) < 24) = decide (x.replicas.length < 24) := by rw [Bool.eq_iff_iff]; simp; omega
 generalize decide (x.replicas.length < 24) = c24 at *
 replace hha : Hid _ := hha
 replace hru : Hid _ := hru
 (repeat' first
  | with_reducible first | exact ⟨⟩ | (refine Brg.mk ?_; intros) | refine Two.mk ?_ ?_
  | refine gs ?_
  | ((with_reducible refine at_f 70 ?_); refine ret_k (hv1 _ FR FR) fun _ _ _ => ?_)
  | ((with_reducible refine at_f 45 ?_); refine ret_k (hv2 _ FR FR) fun _ _ _ => ?_)
  | ((with_reducible refine at_f 128 ?_); refine ret_k (hha.out _ FR FR) fun _ _ _ => ?_)
  | ((with_reducible refine at_f 76 ?_); refine ret_k (hru.out _ FR FR) fun _ _ _ => ?_)
  | refine sxRef192 ?_)
 all_goals (refine congrArg Value.bool (hrk.out _ ?_).symm)
 all_goals first
  | rw [if_pos (by assumption)]
  | rw [if_neg (by assumption), if_pos (by assumption)]
  | rw [if_neg (by assumption), if_neg (by assumption), if_pos (by assumption)]
  | rw [if_neg (by assumption), if_neg (by assumption), if_neg (by assumption), if_pos (by assumption)]
  | rw [if_neg (by assumption), if_neg (by assumption), if_neg (by assumption), if_neg (by assumption), if_pos (by assumption)]
  | rw [if_neg (by assumption), if_neg (by assumption), if_neg (by assumption), if_neg (by assumption), if_neg (by assumption), if_pos (by assumption)]
  | rw [if_neg (by assumption), if_neg (by assumption), if_neg (by assumption), if_neg (by assumption), if_neg (by assumption), if_neg (by assumption)]
 all_goals (try simp only [*, Bool.not_true, Bool.not_false, Bool.true_and, Bool.and_true, Bool.false_and, Bool.and_false, Bool.true_or, Bool.or_true, Bool.false_or, Bool.or_false, beq_self_eq_true, Int.reduceBEq])
end
end Go.Proofs.YtphciegaokdolaaGreatDoor
/- The document's answer, layer 19: Apply, kinds, Undo. -/
namespace Go.Proofs.YtphciegaokdolaaGreatDoor
set_option linter.unusedSimpArgs false
set_option linter.unusedVariables false
open Go Go.RowKit
set_option maxRecDepth 100000
set_option linter.unusedSectionVars false
set_option maxHeartbeats 2000000
section
variable {w : World} {B : Nat} {u : SiteVs} {s : SiteD} {wv hv rv : Value} {l : List SrvV} {x : WorldD} {st : StepD} {wl : List ServiceD}
theorem ref19Apply (hB : B ≤ w.heap.size) (hs : SiteR w B u s) (hl : WishR w B wv l) (hx0 : WorldR w B hv rv x) : CallsV Tryz.prog 38 #[.agg (siteC u s).toArray, .agg #[wv], .agg #[hv, rv], stepV st] w fun v w' => Ext w w' ∧ ∃ v0, v = .tuple #[v0, intV (applyE s (l.map (·.x)) x st)] ∧ OwnW w.heap.size v0 w' (applyW s (l.map (·.x)) x st) := by
 have hn : Now w := trivial
 have hx : Ext w w := Ext.refl w
 have hs' := hs.sk hB
 have hl' := hl.sk hB
 have hx' := hx0.sk hB
 have hS := hs'.2.2.2.2.2.2
 have hW := hl'.2.2
 have hX := hx'.2.2.2.2
 have hv1 := fun w' (h1 : Bl B w w') (h3 : B ≤ w'.heap.size) => ref19Valid (st := st) h3 (hS w' h1) (hW w' h1)
 have hv2 := fun w' (h1 : Bl B w w') (h3 : B ≤ w'.heap.size) => ref13Valid h3 (hS w' h1) (hW w' h1) (hX w' h1)
 have hv3 := fun w' (h1 : Bl B w w') (h3 : B ≤ w'.heap.size) => ref19Ready (st := st) h3 (hS w' h1) (hW w' h1) (hX w' h1)
 have hr : readyB s (l.map (·.x)) x st = (stepB2 s (l.map (·.x)) st && validB s (l.map (·.x)) x && readyK x st) := rfl
 have hp : readyB s (l.map (·.x)) x st = true → Hid (RdyOk s (l.map (·.x)) x st ∧ applyE s (l.map (·.x)) x st = 0 ∧ (x.hosts.length ≤ 1000000 ∧ x.replicas.length ≤ 1000000)
   ∧ (st.kind = 1 → startE x (replOf st) = 0 ∧ applyW s (l.map (·.x)) x st = startW x (replOf st)) ∧ (st.kind = 2 → stopE x (replOf st) = 0 ∧ applyW s (l.map (·.x)) x st = stopW x (replOf st))
   ∧ (st.kind ≠ 1 → st.kind ≠ 2 → setE x st.host = 0 ∧ applyW s (l.map (·.x)) x st = setW x st.host (newState (hostAt x st.host) st))) := fun h => by
  refine ⟨rdy_ok h, apply_zero h, apply_parts h, fun h1 => ?_, fun h2 => ?_, fun h1 h2 => ?_⟩
  ·have := start_parts h h1
   exact ⟨this.2.2.2.1, by rw [applyW, if_pos h, if_pos h1]⟩
  ·have := stop_parts h h2
   exact ⟨this.2.1, by rw [applyW, if_pos h, if_neg (by omega), if_pos h2]⟩
  ·exact ⟨by simp [setE, set_ok (rdy_ok h)], by rw [applyW, if_pos h, if_neg h1, if_neg h2]⟩
 have hn1 : (stepB2 s (l.map (·.x)) st && validB s (l.map (·.x)) x) = false → Hid (applyE s (l.map (·.x)) x st = 1 ∧ applyW s (l.map (·.x)) x st = noW) := fun h => ⟨by unfold applyE; rw [if_neg (by simp [h])], by unfold applyW; rw [if_neg (by rw [hr, h]; simp)]⟩
 have hn2 : (stepB2 s (l.map (·.x)) st && validB s (l.map (·.x)) x) = true → readyK x st = false → Hid (applyE s (l.map (·.x)) x st = 8 ∧ applyW s (l.map (·.x)) x st = noW) := fun h h2 => ⟨by unfold applyE; rw [if_pos h, if_neg (by simp [h2])], by unfold applyW; rw [if_neg (by rw [hr, h, h2]; simp)]⟩
 rw [hr] at hp
 simp only [hr] at hv3
 clear hr
 generalize stepB2 s (l.map (·.x)) st = sb at *
 generalize validB s (l.map (·.x)) x = vb at *
 generalize readyK x st = rk at *
 generalize applyE s (l.map (·.x)) x st = E at *
 generalize applyW s (l.map (·.x)) x st = W at *
 (refine callsV_of Tryz.func38 rfl KR KR ?_; rw [Tryz.results38])
 cases sb
 ·obtain ⟨rfl, rfl⟩ := (hn1 rfl).out
  clear hv2 hv3 hp hn1 hn2
  (repeat' first
  | with_reducible first | exact ⟨⟩ | (refine Brg.mk ?_; intros) | refine Two.mk ?_ ?_
  | refine gs ?_
  | ((with_reducible refine at_f 70 ?_); refine ret_k (hv1 _ FR FR) fun _ _ _ => ?_)
  | refine sxRef190 ?_)
  exact ⟨_, rfl, OwnW.none _ _⟩
 cases vb
 ·obtain ⟨rfl, rfl⟩ := (hn1 rfl).out
  clear hv3 hp hn1 hn2
  (repeat' first
  | with_reducible first | exact ⟨⟩ | (refine Brg.mk ?_; intros) | refine Two.mk ?_ ?_
  | refine gs ?_
  | ((with_reducible refine at_f 70 ?_); refine ret_k (hv1 _ FR FR) fun _ _ _ => ?_)
  | ((with_reducible refine at_f 45 ?_); refine ret_k (hv2 _ FR FR) fun _ _ _ => ?_)
  | refine sxRef190 ?_)
  exact ⟨_, rfl, OwnW.none _ _⟩
 cases rk
 ·obtain ⟨rfl, rfl⟩ := (hn2 rfl rfl).out
  clear hp hn1 hn2
  (repeat' first
  | with_reducible first | exact ⟨⟩ | (refine Brg.mk ?_; intros) | refine Two.mk ?_ ?_
  | refine gs ?_
  | ((with_reducible refine at_f 70 ?_); refine ret_k (hv1 _ FR FR) fun _ _ _ => ?_)
  | ((with_reducible refine at_f 45 ?_); refine ret_k (hv2 _ FR FR) fun _ _ _ => ?_)
  | ((with_reducible refine at_f 71 ?_); refine ret_k (hv3 _ FR FR) fun _ _ _ => ?_)
  | refine sxRef190 ?_)
  exact ⟨_, rfl, OwnW.none _ _⟩
 have hq := hp rfl
 clear hp hn1 hn2
 obtain ⟨kd, ho, sv, vr⟩ := st
 obtain ⟨k, rfl⟩ : ∃ k : Nat, ho = k := ⟨ho.toNat, by have := hq.out.1.host; simp only at this; omega⟩
 have hlt : k < x.hosts.length := by have := hq.out.1.host; simp only at this; omega
 have hat : Hid (hostAt x k = x.hosts[k]) := by show _ = _; simp [hostAt, hlt]
 have hlen : Hid (x.hosts.length ≤ 1000000 ∧ x.replicas.length ≤ 1000000) := hq.out.2.2.1
 have hkd : Hid (1 ≤ kd ∧ kd ≤ 7) := hq.out.1.kind
 have hst : Hid (kd = 1 → startE x ⟨sv, k⟩ = 0 ∧ W = startW x ⟨sv, k⟩) := hq.out.2.2.2.1
 have hsp : Hid (kd = 2 → stopE x ⟨sv, k⟩ = 0 ∧ W = stopW x ⟨sv, k⟩) := hq.out.2.2.2.2.1
 have hse : Hid (kd ≠ 1 → kd ≠ 2 → ∀ h, newState x.hosts[k] ⟨kd, k, sv, vr⟩ = h → setE x k = 0 ∧ W = setW x k h) := fun h1 h2 h e => by
  have := hq.out.2.2.2.2.2 h1 h2
  simp only [hat.out] at this
  rw [e] at this
  exact this
 obtain rfl := hq.out.2.1
 clear hq hat
 (repeat' first
  | with_reducible first | exact ⟨⟩ | (refine Brg.mk ?_; intros) | refine Two.mk ?_ ?_
  | refine gs ?_
  | ((with_reducible refine at_f 70 ?_); refine ret_k (hv1 _ FR FR) fun _ _ _ => ?_)
  | ((with_reducible refine at_f 45 ?_); refine ret_k (hv2 _ FR FR) fun _ _ _ => ?_)
  | ((with_reducible refine at_f 71 ?_); refine ret_k (hv3 _ FR FR) fun _ _ _ => ?_)
  | refine sxRef192 ?_)
 ·obtain ⟨e1, e2⟩ := hst.out (by assumption)
  replace e1 : Hid _ := e1
  replace e2 : Hid _ := e2
  clear hst hsp hse hkd hv1 hv2 hv3
  refine call_k (ref13Start (r := ⟨sv, k⟩) (B := B) FR (hX _ FR) hlen.out.1 hlen.out.2) ?_
  rintro _ w6 n6 s6 ⟨u6, rfl, o6⟩
  rw [e1.out, ← e2.out] at *
  obtain ⟨h4, r4, rfl, oh4, or4⟩ := o6
  have H4 := oh4.o
  have R4 := or4.o
  clear oh4 or4
  (repeat' first
  | with_reducible first | exact ⟨⟩ | (refine Brg.mk ?_; intros) | refine Two.mk ?_ ?_
  | refine gs ?_
  | refine sx ?_)
  exact ⟨_, rfl, _, _, rfl, (H4.1 _ FR).more FR, (R4.1 _ FR).more FR⟩
 ·obtain ⟨e1, e2⟩ := hsp.out (by assumption)
  replace e1 : Hid _ := e1
  replace e2 : Hid _ := e2
  clear hst hsp hse hkd hv1 hv2 hv3
  refine call_k (ref13Stop (r := ⟨sv, k⟩) (B := B) FR (hX _ FR) hlen.out.1 hlen.out.2) ?_
  rintro _ w6 n6 s6 ⟨u6, rfl, o6⟩
  rw [e1.out, ← e2.out] at *
  obtain ⟨h4, r4, rfl, oh4, or4⟩ := o6
  have H4 := oh4.o
  have R4 := or4.o
  clear oh4 or4
  (repeat' first
  | with_reducible first | exact ⟨⟩ | (refine Brg.mk ?_; intros) | refine Two.mk ?_ ?_
  | refine gs ?_
  | refine sx ?_)
  exact ⟨_, rfl, _, _, rfl, (H4.1 _ FR).more FR, (R4.1 _ FR).more FR⟩
 ·obtain ⟨e1, e2⟩ := hse.out (by omega) (by omega) ⟨1, x.hosts[k].firmware⟩ (by have e : kd = 3 := (by assumption); subst e; rfl)
  replace e1 : Hid _ := e1
  replace e2 : Hid _ := e2
  clear hst hsp hse hkd hv1 hv2 hv3
  refine st_one KR (by simp) rfl fun w5 n5 k5 s5 => ?_
  simp only [List.set_cons_zero, List.set_cons_succ] at k5
  (repeat' first
  | with_reducible first | exact ⟨⟩ | (refine Brg.mk ?_; intros) | refine Two.mk ?_ ?_
  | refine gs ?_
  | refine sxRef193 ?_)
  refine call_k (ref13Set (host := k) (h := ⟨1, x.hosts[k].firmware⟩) (B := B) FR (hX _ FR) hlen.out.1 hlen.out.2) ?_
  rintro _ w6 n6 s6 ⟨u6, rfl, o6⟩
  rw [e1.out, ← e2.out] at *
  obtain ⟨h4, r4, rfl, oh4, or4⟩ := o6
  have H4 := oh4.o
  have R4 := or4.o
  clear oh4 or4
  (repeat' first
  | with_reducible first | exact ⟨⟩ | (refine Brg.mk ?_; intros) | refine Two.mk ?_ ?_
  | refine gs ?_
  | refine sx ?_)
  exact ⟨_, rfl, _, _, rfl, (H4.1 _ FR).more FR, (R4.1 _ FR).more FR⟩
 ·obtain ⟨e1, e2⟩ := hse.out (by omega) (by omega) ⟨2, x.hosts[k].firmware⟩ (by have e : kd = 4 := (by assumption); subst e; rfl)
  replace e1 : Hid _ := e1
  replace e2 : Hid _ := e2
  clear hst hsp hse hkd hv1 hv2 hv3
  refine st_one KR (by simp) rfl fun w5 n5 k5 s5 => ?_
  simp only [List.set_cons_zero, List.set_cons_succ] at k5
  (repeat' first
  | with_reducible first | exact ⟨⟩ | (refine Brg.mk ?_; intros) | refine Two.mk ?_ ?_
  | refine gs ?_
  | refine sxRef193 ?_)
  refine call_k (ref13Set (host := k) (h := ⟨2, x.hosts[k].firmware⟩) (B := B) FR (hX _ FR) hlen.out.1 hlen.out.2) ?_
  rintro _ w6 n6 s6 ⟨u6, rfl, o6⟩
  rw [e1.out, ← e2.out] at *
  obtain ⟨h4, r4, rfl, oh4, or4⟩ := o6
  have H4 := oh4.o
  have R4 := or4.o
  clear oh4 or4
  (repeat' first
  | with_reducible first | exact ⟨⟩ | (refine Brg.mk ?_; intros) | refine Two.mk ?_ ?_
  | refine gs ?_
  | refine sx ?_)
  exact ⟨_, rfl, _, _, rfl, (H4.1 _ FR).more FR, (R4.1 _ FR).more FR⟩
 ·obtain ⟨e1, e2⟩ := hse.out (by omega) (by omega) ⟨3, x.hosts[k].firmware⟩ (by have e : kd = 5 := (by assumption); subst e; rfl)
  replace e1 : Hid _ := e1
  replace e2 : Hid _ := e2
  clear hst hsp hse hkd hv1 hv2 hv3
  refine st_one KR (by simp) rfl fun w5 n5 k5 s5 => ?_
  simp only [List.set_cons_zero, List.set_cons_succ] at k5
  (repeat' first
  | with_reducible first | exact ⟨⟩ | (refine Brg.mk ?_; intros) | refine Two.mk ?_ ?_
  | refine gs ?_
  | refine sxRef193 ?_)
  refine call_k (ref13Set (host := k) (h := ⟨3, x.hosts[k].firmware⟩) (B := B) FR (hX _ FR) hlen.out.1 hlen.out.2) ?_
  rintro _ w6 n6 s6 ⟨u6, rfl, o6⟩
  rw [e1.out, ← e2.out] at *
  obtain ⟨h4, r4, rfl, oh4, or4⟩ := o6
  have H4 := oh4.o
  have R4 := or4.o
  clear oh4 or4
  (repeat' first
  | with_reducible first | exact ⟨⟩ | (refine Brg.mk ?_; intros) | refine Two.mk ?_ ?_
  | refine gs ?_
  | refine sx ?_)
  exact ⟨_, rfl, _, _, rfl, (H4.1 _ FR).more FR, (R4.1 _ FR).more FR⟩
 ·obtain ⟨e1, e2⟩ := hse.out (by omega) (by omega) ⟨0, x.hosts[k].firmware⟩ (by have e : kd = 6 := (by assumption); subst e; rfl)
  replace e1 : Hid _ := e1
  replace e2 : Hid _ := e2
  clear hst hsp hse hkd hv1 hv2 hv3
  refine st_one KR (by simp) rfl fun w5 n5 k5 s5 => ?_
  simp only [List.set_cons_zero, List.set_cons_succ] at k5
  (repeat' first
  | with_reducible first | exact ⟨⟩ | (refine Brg.mk ?_; intros) | refine Two.mk ?_ ?_
  | refine gs ?_
  | refine sxRef193 ?_)
  refine call_k (ref13Set (host := k) (h := ⟨0, x.hosts[k].firmware⟩) (B := B) FR (hX _ FR) hlen.out.1 hlen.out.2) ?_
  rintro _ w6 n6 s6 ⟨u6, rfl, o6⟩
  rw [e1.out, ← e2.out] at *
  obtain ⟨h4, r4, rfl, oh4, or4⟩ := o6
  have H4 := oh4.o
  have R4 := or4.o
  clear oh4 or4
  (repeat' first
  | with_reducible first | exact ⟨⟩ | (refine Brg.mk ?_; intros) | refine Two.mk ?_ ?_
  | refine gs ?_
  | refine sx ?_)
  exact ⟨_, rfl, _, _, rfl, (H4.1 _ FR).more FR, (R4.1 _ FR).more FR⟩
 ·obtain ⟨e1, e2⟩ := hse.out (by omega) (by omega) ⟨x.hosts[k].phase, vr⟩ (by have e : kd = 7 := (by assumption); subst e; rfl)
  replace e1 : Hid _ := e1
  replace e2 : Hid _ := e2
  clear hst hsp hse hkd hv1 hv2 hv3
  refine st_one KR (by simp) rfl fun w5 n5 k5 s5 => ?_
  simp only [List.set_cons_zero, List.set_cons_succ] at k5
  (repeat' first
  | with_reducible first | exact ⟨⟩ | (refine Brg.mk ?_; intros) | refine Two.mk ?_ ?_
  | refine gs ?_
  | refine sxRef193 ?_)
  refine call_k (ref13Set (host := k) (h := ⟨x.hosts[k].phase, vr⟩) (B := B) FR (hX _ FR) hlen.out.1 hlen.out.2) ?_
  rintro _ w6 n6 s6 ⟨u6, rfl, o6⟩
  rw [e1.out, ← e2.out] at *
  obtain ⟨h4, r4, rfl, oh4, or4⟩ := o6
  have H4 := oh4.o
  have R4 := or4.o
  clear oh4 or4
  (repeat' first
  | with_reducible first | exact ⟨⟩ | (refine Brg.mk ?_; intros) | refine Two.mk ?_ ?_
  | refine gs ?_
  | refine sx ?_)
  exact ⟨_, rfl, _, _, rfl, (H4.1 _ FR).more FR, (R4.1 _ FR).more FR⟩
 ·exfalso
  have := hkd.out
  omega
/-- Steps of some kinds. -/
theorem ref19kinds {kv : Value} {ks : List Int} {B' : Nat} (hB : B' ≤ w.heap.size) (hkv : Sl w B' none 1 kv (ks.map phV)) (hle : ks.length ≤ 3) : CallsV Tryz.prog 75 #[stepV st, kv] w fun v w' => Ext w w' ∧ Own w' w.heap.size 79 4 v ((ks.map (undoF st)).map stepC) := by
 have hn : Now w := trivial
 have hx : Ext w w := Ext.refl w
 have kk := hkv.k hB
 have hmax := hkv.max_
 clear hkv
 (refine callsV_of Tryz.func75 rfl KR KR ?_; rw [Tryz.results75])
 (repeat' first
  | with_reducible first | exact ⟨⟩ | (refine Brg.mk ?_; intros) | refine Two.mk ?_ ?_
  | refine gs ?_
  | simp (maxDischargeDepth := 3) only [↓X, ↓Y, ↓Q, S1, ↓reduceIte, Nat.reduceEqDiff, Nat.reduceAdd, Int.reduceLT, Int.reduceLE, Int.reduceNeg, Int.reduceBEq, Int.reduceBNe, Int.reduceEq, Nat.reduceLeDiff, Nat.reduceMul, Nat.reduceLT, *, stepV, stepC]
  | simp (singlePass := true) (maxDischargeDepth := 99) only [*, S2, Nat.reduceLT, stepV, stepC])
 rename_i b2 w2 n2 k2 s2 q2
 refine loop_o ks.length (fun w0 g0 k g w' => g 6 = .int .i64 k ∧ (g 1 = g0 1 ∧ g 2 = g0 2) ∧ ∃ v, g 5 = v ∧ Own w' w0.heap.size 79 4 v (((ks.take k).map (undoF st)).map stepC)) KR hmax ?_ ?_ ?_
 ·(repeat' first
  | with_reducible first | exact ⟨⟩ | (refine Brg.mk ?_; intros) | refine Two.mk ?_ ?_
  | refine gs ?_
  | refine sx ?_)
  exact ⟨_, rfl, Own.nil _ _ _ _⟩
 ·rintro k m g wk hk hlt nk sk bk hw ⟨hi, hf, v, hv5, hown⟩
  simp (maxDischargeDepth := 3) only [U, ↓reduceIte, Nat.reduceEqDiff, *] at hf
  have ht : (ks.take (k + 1)).map (undoF st) = (ks.take k).map (undoF st) ++ [undoF st ks[k]] := by rw [List.take_succ_eq_append_getElem hlt, List.map_append]; rfl
  have hxk := Ext.refl wk
  have ok := hown.o
  clear hown
  (repeat' first
  | ((with_reducible refine wpd_at 5 ?_); refine wpd_hold ?_)
  | with_reducible first | exact ⟨⟩ | (refine Brg.mk ?_; intros) | refine Two.mk ?_ ?_
  | refine gs ?_
  | refine sxRef194 ?_)
  unfold wpdH
  refine wpd_rel 8 (fun iI v w9 => match iI with
   | 0 => v = kv
   | 1 => v = .int .i64 k
   | 2 => v = elemAt kv 1 k
   | 3 => v = .int .u8 ks[k]
   | 4 => v = .pointer (some ⟨b2, 1, none⟩)
   | 5 => v = intV st.host
   | 6 => v = .agg #[.int .u8 ks[k], intV st.host, intV 0, intV 0]
   | 7 => ∃ b, v = .pointer (some ⟨b, 0, none⟩) ∧ Blk w9 b 79 [.int .u8 0, intV 0, intV 0, intV 0] ∧ wk.heap.size ≤ b
   | _ => False) KR KR KR ?_ ?_ ?_
  ·intro iI v w1 w2 hR hx9
   match iI, hR with
   | 0, h => exact h
   | 1, h => exact h
   | 2, h => exact h
   | 3, h => exact h
   | 4, h => exact h
   | 5, h => exact h
   | 6, h => exact h
   | 7, ⟨b, e, h1, h2⟩ => exact ⟨b, e, h1.ext hx9, h2⟩
  ·intro iI oO hi ho gF w9 hx9 hdep hag
   have s9 := hx9.st
   have n9 : Now w9 := trivial
   have r9 := Ext.refl w9
   have z9 := hx9.size
   rcases iI with _|_|_|_|_|_|_|_|iI
   have e := Option.some.inj ho
   subst e
   have a1 := hag.at 1 KR
   simp only [S5, ↓reduceIte, Nat.reduceEqDiff, initF, *] at a1
   clear hag hdep ho
   refine relStep_off rfl ?_
   rotate_left
   have e := Option.some.inj ho
   subst e
   have a6 := hag.at 6 KR
   simp only [S5, ↓reduceIte, Nat.reduceEqDiff, initF, *] at a6
   clear hag hdep ho
   refine relStep_off rfl ?_
   rotate_left
   have e := Option.some.inj ho
   subst e
   have d0 : (gF 14) = kv := hdep ⟨0, .data⟩ (by simp) rfl _ _ rfl rfl
   have d1 : (gF 15) = .int .i64 k := hdep ⟨1, .data⟩ (by simp) rfl _ _ rfl rfl
   clear hag hdep ho
   refine relStep_off rfl ?_
   rotate_left
   have e := Option.some.inj ho
   subst e
   have d2 : (gF 16) = elemAt kv 1 k := hdep ⟨2, .data⟩ (by simp) rfl _ _ rfl rfl
   clear hag hdep ho
   refine relStep_off rfl ?_
   rotate_left
   have e := Option.some.inj ho
   subst e
   have a2 := hag.at 2 KR
   simp only [S5, ↓reduceIte, Nat.reduceEqDiff, initF, *] at a2
   clear hag hdep ho
   refine relStep_off rfl ?_
   rotate_left
   have e := Option.some.inj ho
   subst e
   have d4 : (gF 18) = .pointer (some ⟨b2, 1, none⟩) := hdep ⟨4, .data⟩ (by simp) rfl _ _ rfl rfl
   clear hag hdep ho
   refine relStep_off rfl ?_
   rotate_left
   have e := Option.some.inj ho
   subst e
   have d3 : (gF 17) = .int .u8 ks[k] := hdep ⟨3, .data⟩ (by simp) rfl _ _ rfl rfl
   have d5 : (gF 19) = intV st.host := hdep ⟨5, .data⟩ (by simp) rfl _ _ rfl rfl
   clear hag hdep ho
   refine relStep_off rfl ?_
   rotate_left
   ·have e := Option.some.inj ho
    subst e
    clear hag hdep ho
    refine relStep_off rfl ?_
    (repeat' first
  | with_reducible first | exact ⟨⟩ | (refine Brg.mk ?_; intros) | refine Two.mk ?_ ?_
  | refine gs ?_
  | refine sxRef195 ?_)
    first
     | (rename_i b10 w10 n10 k10 s10 q10; exact ⟨_, rfl, k10.2.1 _ k10.2.2.1, FR⟩)
     | (rename_i b10 w10 n10 k10 s10 q10 l10; exact ⟨_, rfl, k10.2.1 _ k10.2.2.1, FR⟩)
   ·omega
   all_goals (repeat' first
  | with_reducible first | exact ⟨⟩ | (refine Brg.mk ?_; intros) | refine Two.mk ?_ ?_
  | refine gs ?_
  | refine sxRef195 ?_)
  ·intro g9 w9 hx9 hR hag
   have s9 := hx9.st
   have n9 : Now w9 := trivial
   have r9 := Ext.refl w9
   have z9 := hx9.size
   have d6 : (g9 20) = .agg #[.int .u8 ks[k], intV st.host, intV 0, intV 0] := hR 6 _ _ (by decide) rfl rfl
   have d7 : ∃ b, (g9 7) = .pointer (some ⟨b, 0, none⟩) ∧ Blk w9 b 79 [.int .u8 0, intV 0, intV 0, intV 0] ∧ wk.heap.size ≤ b := hR 7 _ _ (by decide) rfl rfl
   obtain ⟨b7, e7, hb7, q7⟩ := d7
   have k7 := hb7.bk
   have nw7 := Nw.of q7
   have a1 := hag.at 1 KR
   have a2 := hag.at 2 KR
   have a5 := hag.at 5 KR
   have a6 := hag.at 6 KR
   simp only [S5, ↓reduceIte, Nat.reduceEqDiff, initF, *] at a1 a2 a5 a6
   clear hag hR
   simp only [List.drop_succ_cons, List.drop_zero]
   (repeat' first
  | with_reducible first | exact ⟨⟩ | (refine Brg.mk ?_; intros) | refine Two.mk ?_ ?_
  | refine gs ?_
  | refine sxRef194 ?_)
   ·have hk1 : ks[k] = 1 := by assumption
    have e : undoF st ks[k] = ⟨1, st.host, st.service, 0⟩ := by rw [undoF, hk1]; rfl
    rw [e] at ht
    refine st_one KR (by simp) rfl fun w5 n5 k5 s5 => ?_
    simp only [List.set_cons_zero, List.set_cons_succ] at k5
    (repeat' first
  | with_reducible first | exact ⟨⟩ | (refine Brg.mk ?_; intros) | refine Two.mk ?_ ?_
  | refine gs ?_
  | refine sx ?_)
    rename_i b6 w6 n6 k6 s6 q6
    refine appS ⟨1, st.host, st.service, 0⟩ (ok.1 _ FR) (k6.2.1 _ FR) (by simp; omega) FR fun v' w7 n7 s7 hown7 => ?_
    (repeat' first
  | with_reducible first | exact ⟨⟩ | (refine Brg.mk ?_; intros) | refine Two.mk ?_ ?_
  | refine gs ?_
  | refine sx ?_)
    refine next_k hk hlt ?_ FR
    (repeat' first
  | with_reducible first | exact ⟨⟩ | (refine Brg.mk ?_; intros) | refine Two.mk ?_ ?_
  | refine gs ?_
  | refine sx ?_)
    refine ⟨_, rfl, ?_⟩
    exact hown7
   ·have hk1 : ks[k] = 2 := by assumption
    have e : undoF st ks[k] = ⟨2, st.host, st.service, 0⟩ := by rw [undoF, hk1]; rfl
    rw [e] at ht
    refine st_one KR (by simp) rfl fun w5 n5 k5 s5 => ?_
    simp only [List.set_cons_zero, List.set_cons_succ] at k5
    (repeat' first
  | with_reducible first | exact ⟨⟩ | (refine Brg.mk ?_; intros) | refine Two.mk ?_ ?_
  | refine gs ?_
  | refine sx ?_)
    rename_i b6 w6 n6 k6 s6 q6
    refine appS ⟨2, st.host, st.service, 0⟩ (ok.1 _ FR) (k6.2.1 _ FR) (by simp; omega) FR fun v' w7 n7 s7 hown7 => ?_
    (repeat' first
  | with_reducible first | exact ⟨⟩ | (refine Brg.mk ?_; intros) | refine Two.mk ?_ ?_
  | refine gs ?_
  | refine sx ?_)
    refine next_k hk hlt ?_ FR
    (repeat' first
  | with_reducible first | exact ⟨⟩ | (refine Brg.mk ?_; intros) | refine Two.mk ?_ ?_
  | refine gs ?_
  | refine sx ?_)
    refine ⟨_, rfl, ?_⟩
    exact hown7
   ·have e : undoF st ks[k] = ⟨ks[k], st.host, 0, 0⟩ := by rw [undoF, if_neg (by omega)]
    rw [e] at ht
    rename_i b6 w6 n6 k6 s6 q6
    refine appS ⟨ks[k], st.host, 0, 0⟩ (ok.1 _ FR) (k6.2.1 _ FR) (by simp; omega) FR fun v' w7 n7 s7 hown7 => ?_
    (repeat' first
  | with_reducible first | exact ⟨⟩ | (refine Brg.mk ?_; intros) | refine Two.mk ?_ ?_
  | refine gs ?_
  | refine sx ?_)
    refine next_k hk hlt ?_ FR
    (repeat' first
  | with_reducible first | exact ⟨⟩ | (refine Brg.mk ?_; intros) | refine Two.mk ?_ ?_
  | refine gs ?_
  | refine sx ?_)
    refine ⟨_, rfl, ?_⟩
    exact hown7
 ·rintro g wk nk sk bk ⟨hi, hf, v, hv5, hown⟩
  simp (maxDischargeDepth := 3) only [U, ↓reduceIte, Nat.reduceEqDiff, *] at hf
  rw [take_all] at hown
  (repeat' first
  | with_reducible first | exact ⟨⟩ | (refine Brg.mk ?_; intros) | refine Two.mk ?_ ?_
  | refine gs ?_
  | refine sx ?_)
  exact hown.more FR
end
end Go.Proofs.YtphciegaokdolaaGreatDoor
/- The document's answer, layer 19: Undo. -/
namespace Go.Proofs.YtphciegaokdolaaGreatDoor
set_option linter.unusedSimpArgs false
set_option linter.unusedVariables false
open Go Go.RowKit
set_option maxRecDepth 100000
set_option linter.unusedSectionVars false
set_option maxHeartbeats 2000000
section
variable {w : World} {B : Nat} {u : SiteVs} {s : SiteD} {wv hv rv : Value} {l : List SrvV} {x : WorldD} {st : StepD} {wl : List ServiceD}
theorem ref19Undo (hB : B ≤ w.heap.size) (hs : SiteR w B u s) (hl : WishR w B wv l) (hx0 : WorldR w B hv rv x) : CallsV Tryz.prog 39 #[.agg (siteC u s).toArray, .agg #[wv], .agg #[hv, rv], stepV st] w fun v w' => Ext w w' ∧ ∃ v0, v = .tuple #[v0, .bool (lastB s (l.map (·.x)) x st), intV (applyE s (l.map (·.x)) x st)] ∧ Own w' w.heap.size 79 4 v0 ((undoL s (l.map (·.x)) x st).map stepC) := by
 have hn : Now w := trivial
 have hx : Ext w w := Ext.refl w
 have hs' := hs.sk hB
 have hl' := hl.sk hB
 have hx' := hx0.sk hB
 have hS := hs'.2.2.2.2.2.2
 have hW := hl'.2.2
 have hX := hx'.2.2.2.2
 have hap := fun w' (h1 : Bl B w w') (h3 : B ≤ w'.heap.size) => ref19Apply (st := st) h3 (hS w' h1) (hW w' h1) (hX w' h1)
 have hE : applyE s (l.map (·.x)) x st = 0 → RdyOk s (l.map (·.x)) x st := fun h => rdy_ok (apply_iff.1 h)
 have hL : undoL s (l.map (·.x)) x st = if applyE s (l.map (·.x)) x st = 0 then undoS x st else [] := rfl
 have hT : lastB s (l.map (·.x)) x st = (decide (applyE s (l.map (·.x)) x st = 0) && (undoS x st).isEmpty) := rfl
 rw [hL, hT]
 clear hL hT
 generalize applyE s (l.map (·.x)) x st = E at *
 generalize applyW s (l.map (·.x)) x st = W at *
 replace hE : Hid _ := hE
 (refine callsV_of Tryz.func39 rfl KR KR ?_; rw [Tryz.results39])
 by_cases hE0 : E = 0
 ·subst hE0
  have ho := hE.out rfl
  rw [if_pos rfl, show (decide ((0 : Int) = 0) && (undoS x st).isEmpty) = (undoS x st).isEmpty by simp]
  clear hE
  obtain ⟨kd, hst, sv, vr⟩ := st
  obtain ⟨k, rfl⟩ : ∃ k : Nat, hst = k := ⟨hst.toNat, by have := ho.host; simp only at this; omega⟩
  have hlt : k < x.hosts.length := by have := ho.host; simp only at this; omega
  have hat : hostAt x k = x.hosts[k] := by simp [hostAt, hlt]
  have hus : undoS x ⟨kd, k, sv, vr⟩ = (undoK x ⟨kd, k, sv, vr⟩).map (undoF ⟨kd, k, sv, vr⟩) := rfl
  have hu : Hid (∀ r, (if kd = 1 then [2] else if kd = 2 then (if x.hosts[k].phase = 0 then [1] else if x.hosts[k].phase = 1 then [6, 1, 3] else []) else if kd = 3 then [6] else if kd = 4 then [6, 3] else if kd = 5 then [6, 3, 4]
    else if kd = 6 then (if x.hosts[k].phase = 1 then [3] else if runsB x k = true then [] else if x.hosts[k].phase = 2 then [3, 4] else if x.hosts[k].phase = 3 then [3, 4, 5] else []) else []) = r → undoK x ⟨kd, k, sv, vr⟩ = r) := fun r h => by
   rw [← h]; simp only [undoK, hat]
  have h6 : Hid (kd = 6 → x.hosts[k].phase = 1 ∨ x.hosts[k].phase = 2 ∨ x.hosts[k].phase = 3) := fun h => by
   have := ready6 ho h
   simpa only [hat] using this
  rw [hus]
  clear hus hat ho
  have hru := fun w' (h1 : Bl B w w') (h3 : B ≤ w'.heap.size) => ref19runs (h := k) h3 (hX w' h1)
  have hki := fun kd w' (kv : Value) ks B' => ref19kinds (w := w') (st := ⟨kd, k, sv, vr⟩) (kv := kv) (ks := ks) (B' := B')
  have hF : ∀ kd', undoF ⟨kd', k, sv, vr⟩ = undoF ⟨kd, k, sv, vr⟩ := fun _ => rfl
  simp only [hF] at hki
  generalize runsB x k = rb at *
  generalize undoK x ⟨kd, k, sv, vr⟩ = ks at *
  generalize undoF ⟨kd, k, sv, vr⟩ = F at *
  replace hru : Hid _ := hru
  replace hki : Hid _ := hki
  (repeat' first
  | with_reducible first | exact ⟨⟩ | (refine Brg.mk ?_; intros) | refine Two.mk ?_ ?_
  | refine gs ?_
  | refine sxRef190 ?_)
  refine call_k (hap _ FR FR) ?_
  rintro _ w1 n1 s1 ⟨u1, rfl, o1⟩
  obtain ⟨h1, r1, rfl, oh, or⟩ := o1
  have a1 := oh.one
  have a2 := or.one
  clear oh or hap hs' hl' hS hW hs hl hF
  (repeat' first
  | with_reducible first | exact ⟨⟩ | (refine Brg.mk ?_; intros) | refine Two.mk ?_ ?_
  | refine gs ?_
  | ((with_reducible refine at_f 76 ?_); refine ret_k (hru.out _ FR FR) fun _ _ _ => ?_)
  | simp (maxDischargeDepth := 3) only [↓X, ↓Y, ↓Q, S1, ↓reduceIte, Nat.reduceEqDiff, Nat.reduceAdd, Int.reduceLT, Int.reduceLE, Int.reduceNeg, Int.reduceBEq, Int.reduceBNe, Int.reduceEq, Nat.reduceLeDiff, Nat.reduceMul, Nat.reduceLT, *, siteC, stepV, stepC, stateV]
  | simp (singlePass := true) (maxDischargeDepth := 99) only [*, S2, Nat.reduceLT, siteC, stepV, stepC, stateV])
  ·rename_i b6 w6 n6 k6 s6 q6 l6
   obtain rfl := hu.out [2] (by rw [if_pos (by assumption)])
   refine call_k (hki.out _ _ _ [2] _ (Nat.le_refl _) (l6 _ FR) (by decide)) ?_
   rintro v w7 n7 s7 hown
   have hll := hown.l
   simp only [List.length_map, List.length_cons, List.length_nil, Nat.reduceAdd] at hll
   have ok := hown.o
   clear hown hu h6 hki l6
   (repeat' first
  | with_reducible first | exact ⟨⟩ | (refine Brg.mk ?_; intros) | refine Two.mk ?_ ?_
  | refine gs ?_
  | simp (maxDischargeDepth := 3) only [↓X, ↓Y, ↓Q, S1, ↓reduceIte, Nat.reduceEqDiff, Nat.reduceAdd, Int.reduceLT, Int.reduceLE, Int.reduceNeg, Int.reduceBEq, Int.reduceBNe, Int.reduceEq, Nat.reduceLeDiff, Nat.reduceMul, Nat.reduceLT, *, hll.1]
  | simp (singlePass := true) (maxDischargeDepth := 99) only [*, S2, Nat.reduceLT, hll.1])
   exact ⟨_, rfl, (ok.1 _ FR).more FR⟩
  ·rename_i b6 w6 n6 k6 s6 q6 l6
   obtain rfl := hu.out [1] (by rw [if_neg (by omega), if_pos (by assumption), if_pos (by assumption)])
   refine call_k (hki.out _ _ _ [1] _ (Nat.le_refl _) (l6 _ FR) (by decide)) ?_
   rintro v w7 n7 s7 hown
   have hll := hown.l
   simp only [List.length_map, List.length_cons, List.length_nil, Nat.reduceAdd] at hll
   have ok := hown.o
   clear hown hu h6 hki l6
   (repeat' first
  | with_reducible first | exact ⟨⟩ | (refine Brg.mk ?_; intros) | refine Two.mk ?_ ?_
  | refine gs ?_
  | simp (maxDischargeDepth := 3) only [↓X, ↓Y, ↓Q, S1, ↓reduceIte, Nat.reduceEqDiff, Nat.reduceAdd, Int.reduceLT, Int.reduceLE, Int.reduceNeg, Int.reduceBEq, Int.reduceBNe, Int.reduceEq, Nat.reduceLeDiff, Nat.reduceMul, Nat.reduceLT, *, hll.1]
  | simp (singlePass := true) (maxDischargeDepth := 99) only [*, S2, Nat.reduceLT, hll.1])
   exact ⟨_, rfl, (ok.1 _ FR).more FR⟩
  ·rename_i b6 w6 n6 k6 s6 q6 l6
   obtain rfl := hu.out [6, 1, 3] (by rw [if_neg (by omega), if_pos (by assumption), if_neg (by assumption), if_pos (by assumption)])
   refine call_k (hki.out _ _ _ [6, 1, 3] _ (Nat.le_refl _) (l6 _ FR) (by decide)) ?_
   rintro v w7 n7 s7 hown
   have hll := hown.l
   simp only [List.length_map, List.length_cons, List.length_nil, Nat.reduceAdd] at hll
   have ok := hown.o
   clear hown hu h6 hki l6
   (repeat' first
  | with_reducible first | exact ⟨⟩ | (refine Brg.mk ?_; intros) | refine Two.mk ?_ ?_
  | refine gs ?_
  | simp (maxDischargeDepth := 3) only [↓X, ↓Y, ↓Q, S1, ↓reduceIte, Nat.reduceEqDiff, Nat.reduceAdd, Int.reduceLT, Int.reduceLE, Int.reduceNeg, Int.reduceBEq, Int.reduceBNe, Int.reduceEq, Nat.reduceLeDiff, Nat.reduceMul, Nat.reduceLT, *, hll.1]
  | simp (singlePass := true) (maxDischargeDepth := 99) only [*, S2, Nat.reduceLT, hll.1])
   exact ⟨_, rfl, (ok.1 _ FR).more FR⟩
  ·obtain rfl := hu.out [] (by rw [if_neg (by omega), if_pos (by assumption), if_neg (by assumption), if_neg (by assumption)])
   exact ⟨_, rfl, Own.nil _ _ _ _⟩
  ·rename_i b6 w6 n6 k6 s6 q6 l6
   obtain rfl := hu.out [6] (by rw [if_neg (by omega), if_neg (by omega), if_pos (by assumption)])
   refine call_k (hki.out _ _ _ [6] _ (Nat.le_refl _) (l6 _ FR) (by decide)) ?_
   rintro v w7 n7 s7 hown
   have hll := hown.l
   simp only [List.length_map, List.length_cons, List.length_nil, Nat.reduceAdd] at hll
   have ok := hown.o
   clear hown hu h6 hki l6
   (repeat' first
  | with_reducible first | exact ⟨⟩ | (refine Brg.mk ?_; intros) | refine Two.mk ?_ ?_
  | refine gs ?_
  | simp (maxDischargeDepth := 3) only [↓X, ↓Y, ↓Q, S1, ↓reduceIte, Nat.reduceEqDiff, Nat.reduceAdd, Int.reduceLT, Int.reduceLE, Int.reduceNeg, Int.reduceBEq, Int.reduceBNe, Int.reduceEq, Nat.reduceLeDiff, Nat.reduceMul, Nat.reduceLT, *, hll.1]
  | simp (singlePass := true) (maxDischargeDepth := 99) only [*, S2, Nat.reduceLT, hll.1])
   exact ⟨_, rfl, (ok.1 _ FR).more FR⟩
  ·rename_i b6 w6 n6 k6 s6 q6 l6
   obtain rfl := hu.out [6, 3] (by rw [if_neg (by omega), if_neg (by omega), if_neg (by omega), if_pos (by assumption)])
   refine call_k (hki.out _ _ _ [6, 3] _ (Nat.le_refl _) (l6 _ FR) (by decide)) ?_
   rintro v w7 n7 s7 hown
   have hll := hown.l
   simp only [List.length_map, List.length_cons, List.length_nil, Nat.reduceAdd] at hll
   have ok := hown.o
   clear hown hu h6 hki l6
   (repeat' first
  | with_reducible first | exact ⟨⟩ | (refine Brg.mk ?_; intros) | refine Two.mk ?_ ?_
  | refine gs ?_
  | simp (maxDischargeDepth := 3) only [↓X, ↓Y, ↓Q, S1, ↓reduceIte, Nat.reduceEqDiff, Nat.reduceAdd, Int.reduceLT, Int.reduceLE, Int.reduceNeg, Int.reduceBEq, Int.reduceBNe, Int.reduceEq, Nat.reduceLeDiff, Nat.reduceMul, Nat.reduceLT, *, hll.1]
  | simp (singlePass := true) (maxDischargeDepth := 99) only [*, S2, Nat.reduceLT, hll.1])
   exact ⟨_, rfl, (ok.1 _ FR).more FR⟩
  ·rename_i b6 w6 n6 k6 s6 q6 l6
   obtain rfl := hu.out [6, 3, 4] (by rw [if_neg (by omega), if_neg (by omega), if_neg (by omega), if_neg (by omega), if_pos (by assumption)])
   refine call_k (hki.out _ _ _ [6, 3, 4] _ (Nat.le_refl _) (l6 _ FR) (by decide)) ?_
   rintro v w7 n7 s7 hown
   have hll := hown.l
   simp only [List.length_map, List.length_cons, List.length_nil, Nat.reduceAdd] at hll
   have ok := hown.o
   clear hown hu h6 hki l6
   (repeat' first
  | with_reducible first | exact ⟨⟩ | (refine Brg.mk ?_; intros) | refine Two.mk ?_ ?_
  | refine gs ?_
  | simp (maxDischargeDepth := 3) only [↓X, ↓Y, ↓Q, S1, ↓reduceIte, Nat.reduceEqDiff, Nat.reduceAdd, Int.reduceLT, Int.reduceLE, Int.reduceNeg, Int.reduceBEq, Int.reduceBNe, Int.reduceEq, Nat.reduceLeDiff, Nat.reduceMul, Nat.reduceLT, *, hll.1]
  | simp (singlePass := true) (maxDischargeDepth := 99) only [*, S2, Nat.reduceLT, hll.1])
   exact ⟨_, rfl, (ok.1 _ FR).more FR⟩
  ·rename_i b6 w6 n6 k6 s6 q6 l6
   obtain rfl := hu.out [3] (by rw [if_neg (by omega), if_neg (by omega), if_neg (by omega), if_neg (by omega), if_neg (by omega), if_pos (by assumption), if_pos (by assumption)])
   refine call_k (hki.out _ _ _ [3] _ (Nat.le_refl _) (l6 _ FR) (by decide)) ?_
   rintro v w7 n7 s7 hown
   have hll := hown.l
   simp only [List.length_map, List.length_cons, List.length_nil, Nat.reduceAdd] at hll
   have ok := hown.o
   clear hown hu h6 hki l6
   (repeat' first
  | with_reducible first | exact ⟨⟩ | (refine Brg.mk ?_; intros) | refine Two.mk ?_ ?_
  | refine gs ?_
  | simp (maxDischargeDepth := 3) only [↓X, ↓Y, ↓Q, S1, ↓reduceIte, Nat.reduceEqDiff, Nat.reduceAdd, Int.reduceLT, Int.reduceLE, Int.reduceNeg, Int.reduceBEq, Int.reduceBNe, Int.reduceEq, Nat.reduceLeDiff, Nat.reduceMul, Nat.reduceLT, *, hll.1]
  | simp (singlePass := true) (maxDischargeDepth := 99) only [*, S2, Nat.reduceLT, hll.1])
   exact ⟨_, rfl, (ok.1 _ FR).more FR⟩
  ·obtain rfl := hu.out [] (by rw [if_neg (by omega), if_neg (by omega), if_neg (by omega), if_neg (by omega), if_neg (by omega), if_pos (by assumption), if_neg (by omega), if_pos (by assumption)])
   exact ⟨_, rfl, Own.nil _ _ _ _⟩
  ·rename_i b6 w6 n6 k6 s6 q6 l6
   obtain rfl := hu.out [3, 4] (by rw [if_neg (by omega), if_neg (by omega), if_neg (by omega), if_neg (by omega), if_neg (by omega), if_pos (by assumption), if_neg (by omega), if_neg (by simp [*]), if_pos (by assumption)])
   refine call_k (hki.out _ _ _ [3, 4] _ (Nat.le_refl _) (l6 _ FR) (by decide)) ?_
   rintro v w7 n7 s7 hown
   have hll := hown.l
   simp only [List.length_map, List.length_cons, List.length_nil, Nat.reduceAdd] at hll
   have ok := hown.o
   clear hown hu h6 hki l6
   (repeat' first
  | with_reducible first | exact ⟨⟩ | (refine Brg.mk ?_; intros) | refine Two.mk ?_ ?_
  | refine gs ?_
  | simp (maxDischargeDepth := 3) only [↓X, ↓Y, ↓Q, S1, ↓reduceIte, Nat.reduceEqDiff, Nat.reduceAdd, Int.reduceLT, Int.reduceLE, Int.reduceNeg, Int.reduceBEq, Int.reduceBNe, Int.reduceEq, Nat.reduceLeDiff, Nat.reduceMul, Nat.reduceLT, *, hll.1]
  | simp (singlePass := true) (maxDischargeDepth := 99) only [*, S2, Nat.reduceLT, hll.1])
   exact ⟨_, rfl, (ok.1 _ FR).more FR⟩
  ·obtain rfl := hu.out [] (by rw [if_neg (by omega), if_neg (by omega), if_neg (by omega), if_neg (by omega), if_neg (by omega), if_pos (by assumption), if_neg (by omega), if_pos (by assumption)])
   exact ⟨_, rfl, Own.nil _ _ _ _⟩
  ·rename_i b6 w6 n6 k6 s6 q6 l6
   obtain rfl := hu.out [3, 4, 5] (by rw [if_neg (by omega), if_neg (by omega), if_neg (by omega), if_neg (by omega), if_neg (by omega), if_pos (by assumption), if_neg (by omega), if_neg (by simp [*]), if_neg (by omega), if_pos (by assumption)])
   refine call_k (hki.out _ _ _ [3, 4, 5] _ (Nat.le_refl _) (l6 _ FR) (by decide)) ?_
   rintro v w7 n7 s7 hown
   have hll := hown.l
   simp only [List.length_map, List.length_cons, List.length_nil, Nat.reduceAdd] at hll
   have ok := hown.o
   clear hown hu h6 hki l6
   (repeat' first
  | with_reducible first | exact ⟨⟩ | (refine Brg.mk ?_; intros) | refine Two.mk ?_ ?_
  | refine gs ?_
  | simp (maxDischargeDepth := 3) only [↓X, ↓Y, ↓Q, S1, ↓reduceIte, Nat.reduceEqDiff, Nat.reduceAdd, Int.reduceLT, Int.reduceLE, Int.reduceNeg, Int.reduceBEq, Int.reduceBNe, Int.reduceEq, Nat.reduceLeDiff, Nat.reduceMul, Nat.reduceLT, *, hll.1]
  | simp (singlePass := true) (maxDischargeDepth := 99) only [*, S2, Nat.reduceLT, hll.1])
   exact ⟨_, rfl, (ok.1 _ FR).more FR⟩
  ·exfalso
   have := h6.out (by assumption)
   omega
  ·obtain rfl := hu.out [] (by rw [if_neg (by omega), if_neg (by omega), if_neg (by omega), if_neg (by omega), if_neg (by omega), if_neg (by omega)])
   exact ⟨_, rfl, Own.nil _ _ _ _⟩
 ·rw [if_neg hE0, show (decide (E = 0) && (undoS x st).isEmpty) = false by simp [hE0]]
  (repeat' first
  | with_reducible first | exact ⟨⟩ | (refine Brg.mk ?_; intros) | refine Two.mk ?_ ?_
  | refine gs ?_
  | refine sxRef190 ?_)
  refine call_k (hap _ FR FR) ?_
  rintro _ w1 n1 s1 ⟨u1, rfl, o1⟩
  obtain ⟨h1, r1, rfl, oh, or⟩ := o1
  have a1 := oh.one
  have a2 := or.one
  clear oh or hap
  have hE1 : (E == 0) = false := by simpa using hE0
  (repeat' first
  | with_reducible first | exact ⟨⟩ | (refine Brg.mk ?_; intros) | refine Two.mk ?_ ?_
  | refine gs ?_
  | refine sx ?_)
  exact ⟨_, rfl, Own.nil _ _ _ _⟩
end
end Go.Proofs.YtphciegaokdolaaGreatDoor
