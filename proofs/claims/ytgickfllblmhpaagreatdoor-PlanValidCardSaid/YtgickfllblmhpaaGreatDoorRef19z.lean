
/- The document's answer, layer 19: Valid (where the layer world stands back). -/
import Derived.Test.YtgickfllblmhpaaGreatDoorStep
import Derived.Test.YtgickfllblmhpaaGreatDoorRef13
namespace Go.Proofs.YtgickfllblmhpaaGreatDoor
set_option linter.unusedSimpArgs false
set_option linter.unusedVariables false
open Go Go.RowKit
set_option maxRecDepth 100000
set_option linter.unusedSectionVars false
set_option maxHeartbeats 2000000
def kindOk (k : Int) : Bool := decide (1 ≤ k) && decide (k ≤ 7)
def stepB2 (s : SiteD) (wl : List ServiceD) (st : StepD) : Bool := kindOk st.kind && stepOkB s wl (st.kind == 1 || st.kind == 2) (st.kind == 7) st
section
variable {w : World} {B : Nat} {u : SiteVs} {s : SiteD} {wv hv rv : Value} {l : List SrvV} {x : WorldD} {st : StepD} {wl : List ServiceD}
theorem stepB_eq : stepB s wl st = stepB2 s wl st := by
  by_cases h : 1 ≤ st.kind ∧ st.kind ≤ 7
  · obtain ⟨k, a, b, c⟩ := st
    simp only at h
    rcases (by omega : k = 1 ∨ k = 2 ∨ k = 3 ∨ k = 4 ∨ k = 5 ∨ k = 6 ∨ k = 7) with rfl | rfl | rfl | rfl | rfl | rfl | rfl <;> rfl
  · have h1 : ruleD st.kind = none := by
      rw [ruleD, List.find?_eq_none]
      intro r hr
      simp only [rulesL, List.mem_cons, List.not_mem_nil, or_false] at hr
      rcases hr with rfl | rfl | rfl | rfl | rfl | rfl | rfl <;> (simp; omega)
    have h2 : kindOk st.kind = false := by
      rw [← Bool.not_eq_true, kindOk, Bool.and_eq_true, decide_eq_true_eq, decide_eq_true_eq]; exact h
    simp only [stepB, h1, stepB2, h2, Bool.false_and]
def phV (p : Int) : Value := .int .u8 p
/-- What a step must be like, the site and the wish being valid. -/
def StepP (nh nw : Int) (st : StepD) : Prop := 0 ≤ st.host ∧ st.host < nh ∧ (((st.kind = 1 ∨ st.kind = 2) ∧ 0 ≤ st.service ∧ st.service < nw ∧ st.version = 0) ∨ ((3 ≤ st.kind ∧ st.kind ≤ 6) ∧ st.service = 0 ∧ st.version = 0) ∨ (st.kind = 7 ∧ st.service = 0 ∧ 0 ≤ st.version ∧ st.version ≤ 1000000))
instance (nh nw : Int) (st : StepD) : Decidable (StepP nh nw st) := by unfold StepP; infer_instance
theorem stepB2_P (h1 : siteB s = true) (h2 : wishB wl = true) : stepB2 s wl st = decide (StepP s.hosts.length wl.length st) := by
  rw [Bool.eq_iff_iff, decide_eq_true_eq]
  unfold StepP
  simp only [stepB2, kindOk, stepOkB, h1, h2, Bool.and_eq_true, decide_eq_true_eq, Bool.or_eq_true, beq_iff_eq, Bool.true_and, true_and]
  by_cases hk : st.kind = 1 ∨ st.kind = 2
  · rw [if_pos hk]
    by_cases h7 : st.kind = 7
    · omega
    · rw [if_neg h7]; constructor <;> intro h <;> omega
  · rw [if_neg hk]
    by_cases h7 : st.kind = 7
    · rw [if_pos h7]; constructor <;> intro h <;> omega
    · rw [if_neg h7]; constructor <;> intro h <;> omega
theorem ref19Valid (hB : B ≤ w.heap.size) (hs : SiteR w B u s) (hl : WishR w B wv l) : Ret Tryz.prog 51 #[.agg (siteC u s).toArray, .agg #[wv], stepV st] w (.bool (stepB2 s (l.map (·.x)) st)) := by
  have hn : Now w := trivial
  have hx : Ext w w := Ext.refl w
  have hs' := hs.sk hB
  have hl' := hl.sk hB
  have hS := hs'.2.2.2.2.2.2
  have hW := hl'.2.2
  have hv1 := fun w' (h1 : Bl B w w') (h3 : B ≤ w'.heap.size) => ref12Valid h3 (hS w' h1)
  have hv2 := fun w' (h1 : Bl B w w') (h3 : B ≤ w'.heap.size) => ref13ValidWish h3 (hW w' h1)
  have hP : siteB s = true → wishB (l.map (·.x)) = true → Hid (stepB2 s (l.map (·.x)) st = decide (StepP s.hosts.length l.length st)) := fun h1 h2 => by
    have := stepB2_P (st := st) h1 h2
    rwa [List.length_map] at this
  have hN : siteB s = false ∨ wishB (l.map (·.x)) = false → Hid (stepB2 s (l.map (·.x)) st = false) := fun h => by
    show _ = _
    rcases h with h | h <;> simp [stepB2, stepOkB, h]
  generalize stepB2 s (l.map (·.x)) st = r at *
  generalize siteB s = sb at *
  generalize wishB (l.map (·.x)) = wb at *
  (refine callsV_of Tryz.func51 rfl (by kernel_rfl) (by kernel_rfl) ?_; rw [Tryz.results51])
  cases sb
  · obtain rfl := (hN (.inl rfl)).out
    clear hN hP hv2
    (repeat' first
    | ((with_reducible refine at_row ?_); refine row1_k (by rfl) (by decide) fun _ _ _ _ _ _ _ => ?_)
    | with_reducible first | refine alloc_k fun _ _ _ _ _ _ => ?_ | refine row_k fun _ _ _ _ _ _ => ?_ | refine fork (fun _ => ?_) fun _ => ?_ | refine forkp (fun _ => ?_) fun _ => ?_ | refine forke (fun _ => ?_) fun _ _ => ?_ | refine tail_k fun _ _ _ => ?_ | refine ext_k fun _ _ _ => ?_ | refine need_a ?_ | refine st_agg (by kernel_rfl) rfl (by simp only [natV, intV, S3, *]) fun _ _ _ _ => ?_ | refine wpd_q_a ?_
    | ((with_reducible refine at_f 49 ?_); refine ret_k (hv1 _ FR FR) fun _ _ _ => ?_)
    | simp (maxDischargeDepth := 3) only [↓X, ↓Y, ↓Q, S1, ↓reduceIte, Nat.reduceEqDiff, Nat.reduceAdd, Int.reduceLT, Int.reduceLE, Int.reduceNeg, Int.reduceBEq, Int.reduceBNe, Int.reduceEq, Nat.reduceLeDiff, Nat.reduceMul, Nat.reduceLT, natV, intV, putAt, idxOk, flatP, *, siteC, stepV, stepC]
    | simp (singlePass := true) (maxDischargeDepth := 99) only [*, S2, Nat.reduceLT, siteC, stepV, stepC])
  cases wb
  · obtain rfl := (hN (.inr rfl)).out
    clear hN hP
    (repeat' first
    | ((with_reducible refine at_row ?_); refine row1_k (by rfl) (by decide) fun _ _ _ _ _ _ _ => ?_)
    | with_reducible first | refine alloc_k fun _ _ _ _ _ _ => ?_ | refine row_k fun _ _ _ _ _ _ => ?_ | refine fork (fun _ => ?_) fun _ => ?_ | refine forkp (fun _ => ?_) fun _ => ?_ | refine forke (fun _ => ?_) fun _ _ => ?_ | refine tail_k fun _ _ _ => ?_ | refine ext_k fun _ _ _ => ?_ | refine need_a ?_ | refine st_agg (by kernel_rfl) rfl (by simp only [natV, intV, S3, *]) fun _ _ _ _ => ?_ | refine wpd_q_a ?_
    | ((with_reducible refine at_f 49 ?_); refine ret_k (hv1 _ FR FR) fun _ _ _ => ?_)
    | ((with_reducible refine at_f 50 ?_); refine ret_k (hv2 _ FR FR) fun _ _ _ => ?_)
    | simp (maxDischargeDepth := 3) only [↓X, ↓Y, ↓Q, S1, ↓reduceIte, Nat.reduceEqDiff, Nat.reduceAdd, Int.reduceLT, Int.reduceLE, Int.reduceNeg, Int.reduceBEq, Int.reduceBNe, Int.reduceEq, Nat.reduceLeDiff, Nat.reduceMul, Nat.reduceLT, natV, intV, putAt, idxOk, flatP, *, siteC, stepV, stepC]
    | simp (singlePass := true) (maxDischargeDepth := 99) only [*, S2, Nat.reduceLT, siteC, stepV, stepC])
  obtain hr := hP rfl rfl
  clear hN hP
  (repeat' first
    | ((with_reducible refine at_row ?_); refine row1_k (by rfl) (by decide) fun _ _ _ _ _ _ _ => ?_)
    | with_reducible first | refine alloc_k fun _ _ _ _ _ _ => ?_ | refine row_k fun _ _ _ _ _ _ => ?_ | refine fork (fun _ => ?_) fun _ => ?_ | refine forkp (fun _ => ?_) fun _ => ?_ | refine forke (fun _ => ?_) fun _ _ => ?_ | refine tail_k fun _ _ _ => ?_ | refine ext_k fun _ _ _ => ?_ | refine need_a ?_ | refine st_agg (by kernel_rfl) rfl (by simp only [natV, intV, S3, *]) fun _ _ _ _ => ?_ | refine wpd_q_a ?_
    | ((with_reducible refine at_f 49 ?_); refine ret_k (hv1 _ FR FR) fun _ _ _ => ?_)
    | ((with_reducible refine at_f 50 ?_); refine ret_k (hv2 _ FR FR) fun _ _ _ => ?_)
    | simp (maxDischargeDepth := 3) only [↓X, ↓Y, ↓Q, S1, ↓reduceIte, Nat.reduceEqDiff, Nat.reduceAdd, Int.reduceLT, Int.reduceLE, Int.reduceNeg, Int.reduceBEq, Int.reduceBNe, Int.reduceEq, Nat.reduceLeDiff, Nat.reduceMul, Nat.reduceLT, natV, intV, putAt, idxOk, flatP, *, siteC, stepV, stepC]
    | simp (singlePass := true) (maxDischargeDepth := 99) only [*, S2, Nat.reduceLT, siteC, stepV, stepC])
  all_goals (have hr := hr.out; subst hr; refine congrArg Value.bool ?_; rw [Bool.eq_iff_iff]; simp only [beq_iff_eq, decide_eq_true_eq, Bool.false_eq_true, false_iff, true_iff, iff_true]; unfold StepP; first | omega | (constructor <;> intro h <;> omega))
end
end Go.Proofs.YtgickfllblmhpaaGreatDoor
