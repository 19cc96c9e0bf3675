
/- Reduce of the layer plan and of the document's answer, layer 20; Same. -/
import Derived.Test.YtgickfllblmhpaaGreatDoorRed20
import Derived.Test.YtgickfllblmhpaaGreatDoorCopy13
namespace Go.Proofs.YtgickfllblmhpaaGreatDoor
set_option linter.unusedSimpArgs false
set_option linter.unusedVariables false
open Go Go.RowKit
set_option maxRecDepth 100000
set_option linter.unusedSectionVars false
set_option maxHeartbeats 2000000
theorem step_eq {a b : StepD} : ((a.kind == b.kind) && ((a.host == b.host) && ((a.service == b.service) && (a.version == b.version)))) = decide (a = b) := by
  cases a; cases b
  rw [Bool.eq_iff_iff]; simp
section
variable {w : World} {B B' : Nat} {u : SiteVs} {s : SiteD} {wv sv av v v' : Value} {vs : List Value} {l : List SrvV} {p : PlanD}
theorem ref19Same {v v' : Value} {a b : List StepD} (hB : B ≤ w.heap.size) (hB' : B' ≤ w.heap.size) (ha : Sl w B (some 4) 4 v (a.map stepV)) (hb : Sl w B' (some 4) 4 v' (b.map stepV)) : Ret Tryz.prog 40 #[v, v'] w (.bool (decide (a = b))) := by
  have hn : Now w := trivial
  have hx : Ext w w := Ext.refl w
  have ha' := ha.k hB
  have hb' := hb.k hB'
  (refine callsV_of Tryz.func40 rfl (by kernel_rfl) (by kernel_rfl) ?_; rw [Tryz.results40])
  (repeat' first
    | ((with_reducible refine at_row ?_); refine row1_k (by rfl) (by decide) fun _ _ _ _ _ _ _ => ?_)
    | with_reducible first | refine alloc_k fun _ _ _ _ _ _ => ?_ | refine row_k fun _ _ _ _ _ _ => ?_ | refine fork (fun _ => ?_) fun _ => ?_ | refine forkp (fun _ => ?_) fun _ => ?_ | refine forke (fun _ => ?_) fun _ _ => ?_ | refine tail_k fun _ _ _ => ?_ | refine ext_k fun _ _ _ => ?_ | refine need_a ?_ | refine st_agg (by kernel_rfl) rfl (by simp only [natV, intV, S3, *]) fun _ _ _ _ => ?_ | refine wpd_q_a ?_
    | simp (maxDischargeDepth := 3) only [↓X, ↓Y, ↓Q, S1, ↓reduceIte, Nat.reduceEqDiff, Nat.reduceAdd, Int.reduceLT, Int.reduceLE, Int.reduceNeg, Int.reduceBEq, Int.reduceBNe, Int.reduceEq, Nat.reduceLeDiff, Nat.reduceMul, Nat.reduceLT, natV, intV, putAt, idxOk, flatP, *]
    | simp (singlePass := true) (maxDischargeDepth := 99) only [*, S2, Nat.reduceLT])
  · rename_i h
    have hl : Hid (a.length = b.length) := h
    clear h
    refine loop_k (a.length) (fun g0 k g _ => g 5 = .int .i64 k ∧ (g 0 = g0 0 ∧ g 1 = g0 1) ∧ Hid (a.take k = b.take k)) (by kernel_rfl) (ha.max_) ?_ ?_ ?_
    · (repeat' first
    | ((with_reducible refine at_row ?_); refine row1_k (by rfl) (by decide) fun _ _ _ _ _ _ _ => ?_)
    | with_reducible first | refine alloc_k fun _ _ _ _ _ _ => ?_ | refine row_k fun _ _ _ _ _ _ => ?_ | refine fork (fun _ => ?_) fun _ => ?_ | refine forkp (fun _ => ?_) fun _ => ?_ | refine forke (fun _ => ?_) fun _ _ => ?_ | refine tail_k fun _ _ _ => ?_ | refine ext_k fun _ _ _ => ?_ | refine need_a ?_ | refine st_agg (by kernel_rfl) rfl (by simp only [natV, intV, S3, *]) fun _ _ _ _ => ?_ | refine wpd_q_a ?_
    | simp (maxDischargeDepth := 3) only [↓X, ↓Y, ↓Q, S1, ↓reduceIte, Nat.reduceEqDiff, Nat.reduceAdd, Int.reduceLT, Int.reduceLE, Int.reduceNeg, Int.reduceBEq, Int.reduceBNe, Int.reduceEq, Nat.reduceLeDiff, Nat.reduceMul, Nat.reduceLT, natV, intV, putAt, idxOk, flatP, *, List.take_zero, List.all_nil, List.any_nil]
    | simp (singlePass := true) (maxDischargeDepth := 99) only [*, S2, Nat.reduceLT, List.take_zero, List.all_nil, List.any_nil])
      exact trivial
    · rintro k m g wk hk hlt _ _ _ hw ⟨hi, hf, hp⟩
      simp (maxDischargeDepth := 3) only [U, ↓reduceIte, Nat.reduceEqDiff, *] at hf
      have hb2 : k < b.length := by have := hl.out; omega
      (repeat' first
    | ((with_reducible refine at_row ?_); refine row1_k (by rfl) (by decide) fun _ _ _ _ _ _ _ => ?_)
    | with_reducible first | refine alloc_k fun _ _ _ _ _ _ => ?_ | refine row_k fun _ _ _ _ _ _ => ?_ | refine fork (fun _ => ?_) fun _ => ?_ | refine forkp (fun _ => ?_) fun _ => ?_ | refine forke (fun _ => ?_) fun _ _ => ?_ | refine tail_k fun _ _ _ => ?_ | refine ext_k fun _ _ _ => ?_ | refine need_a ?_ | refine st_agg (by kernel_rfl) rfl (by simp only [natV, intV, S3, *]) fun _ _ _ _ => ?_ | refine wpd_q_a ?_
    | simp (maxDischargeDepth := 3) only [↓X, ↓Y, ↓Q, S1, ↓reduceIte, Nat.reduceEqDiff, Nat.reduceAdd, Int.reduceLT, Int.reduceLE, Int.reduceNeg, Int.reduceBEq, Int.reduceBNe, Int.reduceEq, Nat.reduceLeDiff, Nat.reduceMul, Nat.reduceLT, natV, intV, putAt, idxOk, flatP, *, stepV, stepC, step_eq, dec_not]
    | simp (singlePass := true) (maxDischargeDepth := 99) only [*, S2, Nat.reduceLT, stepV, stepC, step_eq, dec_not])
      · rename_i h
        refine next_k hk hlt ?_ FR
        (repeat' first
    | ((with_reducible refine at_row ?_); refine row1_k (by rfl) (by decide) fun _ _ _ _ _ _ _ => ?_)
    | with_reducible first | refine alloc_k fun _ _ _ _ _ _ => ?_ | refine row_k fun _ _ _ _ _ _ => ?_ | refine fork (fun _ => ?_) fun _ => ?_ | refine forkp (fun _ => ?_) fun _ => ?_ | refine forke (fun _ => ?_) fun _ _ => ?_ | refine tail_k fun _ _ _ => ?_ | refine ext_k fun _ _ _ => ?_ | refine need_a ?_ | refine st_agg (by kernel_rfl) rfl (by simp only [natV, intV, S3, *]) fun _ _ _ _ => ?_ | refine wpd_q_a ?_
    | simp (maxDischargeDepth := 3) only [↓X, ↓Y, ↓Q, S1, ↓reduceIte, Nat.reduceEqDiff, Nat.reduceAdd, Int.reduceLT, Int.reduceLE, Int.reduceNeg, Int.reduceBEq, Int.reduceBNe, Int.reduceEq, Nat.reduceLeDiff, Nat.reduceMul, Nat.reduceLT, natV, intV, putAt, idxOk, flatP, *]
    | simp (singlePass := true) (maxDischargeDepth := 99) only [*, S2, Nat.reduceLT])
        exact take_next hp.out hlt hb2 h
      · rename_i h
        have : ¬ a = b := by rintro rfl; exact h rfl
        simp [this]
    · rintro g wk _ _ _ ⟨hi, hf, hp⟩
      simp (maxDischargeDepth := 3) only [U, ↓reduceIte, Nat.reduceEqDiff, *] at hf
      (repeat' first
    | ((with_reducible refine at_row ?_); refine row1_k (by rfl) (by decide) fun _ _ _ _ _ _ _ => ?_)
    | with_reducible first | refine alloc_k fun _ _ _ _ _ _ => ?_ | refine row_k fun _ _ _ _ _ _ => ?_ | refine fork (fun _ => ?_) fun _ => ?_ | refine forkp (fun _ => ?_) fun _ => ?_ | refine forke (fun _ => ?_) fun _ _ => ?_ | refine tail_k fun _ _ _ => ?_ | refine ext_k fun _ _ _ => ?_ | refine need_a ?_ | refine st_agg (by kernel_rfl) rfl (by simp only [natV, intV, S3, *]) fun _ _ _ _ => ?_ | refine wpd_q_a ?_
    | simp (maxDischargeDepth := 3) only [↓X, ↓Y, ↓Q, S1, ↓reduceIte, Nat.reduceEqDiff, Nat.reduceAdd, Int.reduceLT, Int.reduceLE, Int.reduceNeg, Int.reduceBEq, Int.reduceBNe, Int.reduceEq, Nat.reduceLeDiff, Nat.reduceMul, Nat.reduceLT, natV, intV, putAt, idxOk, flatP, *]
    | simp (singlePass := true) (maxDischargeDepth := 99) only [*, S2, Nat.reduceLT])
      have hp := hp.out
      simp [take_full hp hl.out]
  · rename_i h
    have : ¬ a = b := by rintro rfl; exact h rfl
    simp [this]
theorem stepC_oneR (x : StepD) : ∀ v ∈ stepC x, v.oneCell' = true := by
  intro v hv
  simp only [stepC, List.mem_cons, List.not_mem_nil, or_false] at hv
  rcases hv with rfl | rfl | rfl | rfl <;> rfl
abbrev OwnSt (w : World) (B : Nat) (v : Value) (l : List StepD) : Prop := Own w B 68 4 v (l.map stepC)
theorem slicesCloneS {l : List StepD} (hB : B ≤ w.heap.size) (hv : Sl w B (some 4) 4 v (l.map stepV)) (hlen : l.length ≤ 1000000) : CallsV Tryz.prog 38 #[v] w fun v w' => Ext w w' ∧ OwnSt w' w.heap.size v l := by
  have hn : Now w := trivial
  have hx : Ext w w := Ext.refl w
  have hv' := hv.k hB
  (refine callsV_of Tryz.func38 rfl (by kernel_rfl) (by kernel_rfl) ?_; rw [Tryz.results38])
  (repeat' first
    | ((with_reducible refine at_row ?_); refine row1_k (by rfl) (by decide) fun _ _ _ _ _ _ _ => ?_)
    | with_reducible first | refine alloc_k fun _ _ _ _ _ _ => ?_ | refine row_k fun _ _ _ _ _ _ => ?_ | refine fork (fun _ => ?_) fun _ => ?_ | refine forkp (fun _ => ?_) fun _ => ?_ | refine forke (fun _ => ?_) fun _ _ => ?_ | refine tail_k fun _ _ _ => ?_ | refine ext_k fun _ _ _ => ?_ | refine need_a ?_ | refine st_agg (by kernel_rfl) rfl (by simp only [natV, intV, S3, *]) fun _ _ _ _ => ?_ | refine wpd_q_a ?_
    | simp (maxDischargeDepth := 3) only [↓X, ↓Y, ↓Q, S1, ↓reduceIte, Nat.reduceEqDiff, Nat.reduceAdd, Int.reduceLT, Int.reduceLE, Int.reduceNeg, Int.reduceBEq, Int.reduceBNe, Int.reduceEq, Nat.reduceLeDiff, Nat.reduceMul, Nat.reduceLT, natV, intV, putAt, idxOk, flatP, *]
    | simp (singlePass := true) (maxDischargeDepth := 99) only [*, S2, Nat.reduceLT])
  · rw [nil_of hv (by assumption)]
    exact Own.nil _ _ _ _
  · rename_i w1 n1 k1 s1 nw1 sl1
    refine appendAll_k (e := 68) (sz := 4) (by_ := 32) (z := .agg #[.int .u8 0, .int .i64 0, .int .i64 0, .int .i64 0]) (B := w.heap.size) (l := ([] : List StepD)) (r := l) (c := stepC) (by kernel_rfl) (by kernel_rfl) rfl (by decide) (by decide) (Own.ofBlkN (by simp) (k1.2.1 _ FR) (by simp) FR (by simp)) (hv'.2.2.2.2.2.2.1 _ FR) (fun _ => rfl) stepC_oneR (by simp; omega) FR fun v2 w2 n2 s2 hown => ?_
    have o2 := hown.o
    (repeat' first
    | ((with_reducible refine at_row ?_); refine row1_k (by rfl) (by decide) fun _ _ _ _ _ _ _ => ?_)
    | with_reducible first | refine alloc_k fun _ _ _ _ _ _ => ?_ | refine row_k fun _ _ _ _ _ _ => ?_ | refine fork (fun _ => ?_) fun _ => ?_ | refine forkp (fun _ => ?_) fun _ => ?_ | refine forke (fun _ => ?_) fun _ _ => ?_ | refine tail_k fun _ _ _ => ?_ | refine ext_k fun _ _ _ => ?_ | refine need_a ?_ | refine st_agg (by kernel_rfl) rfl (by simp only [natV, intV, S3, *]) fun _ _ _ _ => ?_ | refine wpd_q_a ?_
    | simp (maxDischargeDepth := 3) only [↓X, ↓Y, ↓Q, S1, ↓reduceIte, Nat.reduceEqDiff, Nat.reduceAdd, Int.reduceLT, Int.reduceLE, Int.reduceNeg, Int.reduceBEq, Int.reduceBNe, Int.reduceEq, Nat.reduceLeDiff, Nat.reduceMul, Nat.reduceLT, natV, intV, putAt, idxOk, flatP, *]
    | simp (singlePass := true) (maxDischargeDepth := 99) only [*, S2, Nat.reduceLT])
    exact o2.1 _ FR
theorem newSt {v v' : Value} {l : List StepD} {k : Value → World → Prop} (hown : OwnSt w w.heap.size v []) (hv : Sl w B (some 4) 4 v' (l.map stepV)) (hbound : l.length < 1000000000000) (h : ∀ v2 w2, Now w2 → St w w2 → OwnSt w2 w.heap.size v2 l → k v2 w2) : appX Tryz.prog 33 33 33 v v' w k :=
  appendNew_k (e := 68) (sz := 4) (by_ := 32) (z := .agg #[.int .u8 0, .int .i64 0, .int .i64 0, .int .i64 0]) hown (by kernel_rfl) (by kernel_rfl) rfl (by decide) (by decide) hv (fun _ => rfl) stepC_oneR hbound h
theorem OwnLL.sc {b T : Nat} {z : List Value} {w' : World} {ll : List (List Nat)} (h : OwnLL w B v ll) (hz : Blk w b T z) (hs : Sc w w' b) (h1 : T ≠ 39) (h2 : T ≠ 3) : OwnLL w' B v ll := by
  have key : ∀ {e sz : Nat} {x : Value} {cs : List (List Value)}, Own w B e sz x cs → T ≠ e → Own w' B e sz x cs := fun {e sz x cs} ho hne => ho.keep fun c hc => (hs.1 c w ⟨(ho.lt c hc).2, rfl⟩ fun e' => ho.ne hz hne (e' ▸ hc)).2
  obtain ⟨us, g1, g2, g3⟩ := h
  exact ⟨us, g1, key g2 h1, fun i hi => key (g3 i hi) h2⟩
def redP (p : PlanD) : PlanD := ⟨p.steps, redA p.after⟩
theorem planErr_of {wl : List ServiceD} (h : planErr s wl p = 0) : (ofS p.after).1 = 0 := by
  unfold planErr planErrE at h
  split at h
  · split at h
    · cases h
    · split at h
      · exact h
      · cases h
  · cases h
theorem redP_err {wl : List ServiceD} (h : planErr s wl p = 0) : planErr s wl (redP p) = 0 := by
  have h0 := planErr_of h
  have h1 := red_ok h0
  unfold planErr planErrE at h ⊢
  simp only [redP, redA_len]
  rw [h0] at h
  rw [h1]
  exact h
theorem openB_iff {set i : Nat} : openB p set i = true ↔ ∀ k, k ∈ (natA p.after).getD i [] → set.testBit k = true := by
  by_cases hi : i < p.after.length
  · rw [natA_get hi, openB, List.getD_eq_getElem?_getD, List.getElem?_eq_getElem hi, Option.getD_some, List.all_eq_true]
    constructor
    · intro h k hk
      obtain ⟨x, hx, rfl⟩ := List.mem_map.1 hk
      exact h x hx
    · exact fun h x hx => h _ (List.mem_map.2 ⟨x, hx, rfl⟩)
  · have h1 : p.after.getD i [] = [] := by rw [List.getD_eq_getElem?_getD, List.getElem?_eq_none (by omega)]; rfl
    have h2 : (natA p.after).getD i [] = [] := by rw [List.getD_eq_getElem?_getD, List.getElem?_eq_none (by rw [natA_len]; omega)]; rfl
    rw [openB, h1, h2]
    simp
theorem ideal_iff {set : Nat} (hl : p.after.length = p.steps.length) : idealB p set = true ↔ set < 2 ^ p.steps.length ∧ ∀ i, set.testBit i = true → ∀ k, k ∈ (natA p.after).getD i [] → set.testBit k = true := by
  simp only [idealB, Bool.and_eq_true, decide_eq_true_eq, openB_iff]
  refine and_congr Iff.rfl ⟨fun h i hi k hk => h i ?_ hi k hk, fun h i _ hi => h i hi⟩
  have := mem_lt hk
  rw [natA_len] at this
  omega
theorem redP_ideals {wl : List ServiceD} (h : planErr s wl p = 0) : idealsL (redP p) = idealsL p := by
  have h0 := planErr_of h
  have hl := (planErr_ok h).1.len
  unfold idealsL
  refine List.filter_congr fun set _ => ?_
  rw [Bool.eq_iff_iff, ideal_iff (p := redP p) (by simp only [redP, redA_len]; exact hl), ideal_iff hl]
  exact and_congr Iff.rfl (red_closed h0 fun i => set.testBit i = true)
def RedR (B : Nat) (w : World) (v0 : Value) (e : Int) (p : PlanD) : Prop := ∃ sv o, v0 = .agg #[sv, o] ∧ OwnSt w B sv (if e = 0 then p.steps else []) ∧ OwnLL w B o (if e = 0 then redR (bef (natA p.after)) else [])
theorem RedR.pl {e : Int} {v0 : Value} (h : RedR B w v0 e p) : ∃ sv o us, v0 = .agg #[sv, o] ∧ PlanR w w.heap.size sv o us (if e = 0 then redP p else ⟨[], []⟩) := by
  obtain ⟨sv, o, rfl, h1, h2⟩ := h
  obtain ⟨us, hu⟩ := h2.r
  refine ⟨sv, o, us, rfl, ?_, ?_⟩
  · have := h1.slN (f := stepC)
    split at this
    · rename_i h; rw [if_pos h]; exact this
    · rename_i h; rw [if_neg h]; exact this
  · split at hu
    · rename_i h; rw [if_pos h]; exact hu
    · rename_i h; rw [if_neg h]; exact hu
theorem planReduce {e : Int} (hT : TabW w) (hB : B ≤ w.heap.size) (hs : SiteR w B u s) (hl : WishR w B wv l) (hpl : PlanR w B sv av vs p) (he : planErr s (l.map (·.x)) p = e) : CallsV Tryz.prog 16 #[.agg (siteC u s).toArray, .agg #[wv], .agg #[sv, av]] w fun r w' => Ext w w' ∧ ∃ v0, r = .tuple #[v0, intV e] ∧ RedR w.heap.size w' v0 e p := by
  have hn : Now w := trivial
  have hx : Ext w w := Ext.refl w
  have hs' := hs.sk hB
  have hl' := hl.sk hB
  have hp' := hpl.sk hB
  have hT' := fun w' (h : Ext w w') => hT.ext h
  have hS := hs'.2.2.2.2.2.2
  have hW := hl'.2.2
  have hP := hp'.2.2.2.2.2.2
  have hv := fun w' (h1 : Bl B w w') (h2 : Ext w w') (h3 : B ≤ w'.heap.size) => planValid (hT' w' h2) h3 (hS w' h1) (hW w' h1) (hP w' h1)
  simp only [he] at hv
  have hok : e = 0 → Hid (Shape p ∧ (ofS p.after).1 = 0) := fun h => ⟨(planErr_ok (by rw [he]; exact h)).1, planErr_of (by rw [he]; exact h)⟩
  have hrd := fun w' (h1 : Bl B w w') (h2 : Ext w w') (h3 : B ≤ w'.heap.size) => orderReduce (hT' w' h2) h3 (hP w' h1).a
  replace hrd : Hid _ := hrd
  (refine callsV_of Tryz.func16 rfl (by kernel_rfl) (by kernel_rfl) ?_; rw [Tryz.results16])
  by_cases h0 : e = 0
  · subst h0
    obtain ⟨ho, ho0⟩ := (hok rfl).out
    have hsm := ho.small
    have hrd2 := hrd.out
    rw [ho0] at hrd2
    replace hrd2 : Hid _ := hrd2
    clear hok hrd
    (repeat' first
    | ((with_reducible refine at_row ?_); refine row1_k (by rfl) (by decide) fun _ _ _ _ _ _ _ => ?_)
    | with_reducible first | refine alloc_k fun _ _ _ _ _ _ => ?_ | refine row_k fun _ _ _ _ _ _ => ?_ | refine fork (fun _ => ?_) fun _ => ?_ | refine forkp (fun _ => ?_) fun _ => ?_ | refine forke (fun _ => ?_) fun _ _ => ?_ | refine tail_k fun _ _ _ => ?_ | refine ext_k fun _ _ _ => ?_ | refine need_a ?_ | refine st_agg (by kernel_rfl) rfl (by simp only [natV, intV, S3, *]) fun _ _ _ _ => ?_ | refine wpd_q_a ?_
    | ((with_reducible refine at_f 22 ?_); refine ret_k (hv _ FR FR FR) fun _ _ _ => ?_)
    | simp (maxDischargeDepth := 3) only [↓X, ↓Y, ↓Q, S1, ↓reduceIte, Nat.reduceEqDiff, Nat.reduceAdd, Int.reduceLT, Int.reduceLE, Int.reduceNeg, Int.reduceBEq, Int.reduceBNe, Int.reduceEq, Nat.reduceLeDiff, Nat.reduceMul, Nat.reduceLT, natV, intV, putAt, idxOk, flatP, *, siteC]
    | simp (singlePass := true) (maxDischargeDepth := 99) only [*, S2, Nat.reduceLT, siteC])
    rename_i c1 x1 a1 d1 e1 f1 c2 x2 a2 d2 e2 f2 c3 x3 a3 d3 e3 f3 c4 x4 a4 d4 e4 f4 wv nv sv
    refine call_k (hrd2.out _ FR FR FR) ?_
    rintro _ w2 n2 s2 ⟨o, rfl, hoL⟩
    rw [if_pos rfl] at hoL
    have oo := hoL.one
    have co := cellsL_one oo
    have hOx := fun w' (h : Ext w2 w') => hoL.ext h
    replace hOx : Hid _ := hOx
    have hx2 := Ext.refl w2
    clear hoL
    (repeat' first
    | ((with_reducible refine at_row ?_); refine row1_k (by rfl) (by decide) fun _ _ _ _ _ _ _ => ?_)
    | with_reducible first | refine alloc_k fun _ _ _ _ _ _ => ?_ | refine row_k fun _ _ _ _ _ _ => ?_ | refine fork (fun _ => ?_) fun _ => ?_ | refine forkp (fun _ => ?_) fun _ => ?_ | refine forke (fun _ => ?_) fun _ _ => ?_ | refine tail_k fun _ _ _ => ?_ | refine ext_k fun _ _ _ => ?_ | refine need_a ?_ | refine st_agg (by kernel_rfl) rfl (by simp only [natV, intV, S3, *]) fun _ _ _ _ => ?_ | refine wpd_q_a ?_
    | simp (maxDischargeDepth := 3) only [↓X, ↓Y, ↓Q, S1, ↓reduceIte, Nat.reduceEqDiff, Nat.reduceAdd, Int.reduceLT, Int.reduceLE, Int.reduceNeg, Int.reduceBEq, Int.reduceBNe, Int.reduceEq, Nat.reduceLeDiff, Nat.reduceMul, Nat.reduceLT, natV, intV, putAt, idxOk, flatP, *, siteC]
    | simp (singlePass := true) (maxDischargeDepth := 99) only [*, S2, Nat.reduceLT, siteC])
    refine call_k (slicesCloneS (B := B) FR ((hP _ FR).s) (by omega)) ?_
    intro v3 w3 n3 s3 hst
    have os := hst.one
    have OS := hst.o
    clear hst
    (repeat' first
    | ((with_reducible refine at_row ?_); refine row1_k (by rfl) (by decide) fun _ _ _ _ _ _ _ => ?_)
    | with_reducible first | refine alloc_k fun _ _ _ _ _ _ => ?_ | refine row_k fun _ _ _ _ _ _ => ?_ | refine fork (fun _ => ?_) fun _ => ?_ | refine forkp (fun _ => ?_) fun _ => ?_ | refine forke (fun _ => ?_) fun _ _ => ?_ | refine tail_k fun _ _ _ => ?_ | refine ext_k fun _ _ _ => ?_ | refine need_a ?_ | refine st_agg (by kernel_rfl) rfl (by simp only [natV, intV, S3, *]) fun _ _ _ _ => ?_ | refine wpd_q_a ?_
    | simp (maxDischargeDepth := 3) only [↓X, ↓Y, ↓Q, S1, ↓reduceIte, Nat.reduceEqDiff, Nat.reduceAdd, Int.reduceLT, Int.reduceLE, Int.reduceNeg, Int.reduceBEq, Int.reduceBNe, Int.reduceEq, Nat.reduceLeDiff, Nat.reduceMul, Nat.reduceLT, natV, intV, putAt, idxOk, flatP, *, siteC]
    | simp (singlePass := true) (maxDischargeDepth := 99) only [*, S2, Nat.reduceLT, siteC])
    rename_i w4 n4 k4 s4
    refine ⟨_, rfl, _, _, rfl, ?_, ?_⟩
    · rw [if_pos rfl]
      exact (OS.1 _ FR).more FR
    · rw [if_pos rfl]
      exact ((hOx.out w3 FR).sc (d4.2.1 w3 FR) s4 (by decide) (by decide)).more FR
  · have e1 : (e == 0) = false := by simpa using h0
    clear hok hrd
    (repeat' first
    | ((with_reducible refine at_row ?_); refine row1_k (by rfl) (by decide) fun _ _ _ _ _ _ _ => ?_)
    | with_reducible first | refine alloc_k fun _ _ _ _ _ _ => ?_ | refine row_k fun _ _ _ _ _ _ => ?_ | refine fork (fun _ => ?_) fun _ => ?_ | refine forkp (fun _ => ?_) fun _ => ?_ | refine forke (fun _ => ?_) fun _ _ => ?_ | refine tail_k fun _ _ _ => ?_ | refine ext_k fun _ _ _ => ?_ | refine need_a ?_ | refine st_agg (by kernel_rfl) rfl (by simp only [natV, intV, S3, *]) fun _ _ _ _ => ?_ | refine wpd_q_a ?_
    | ((with_reducible refine at_f 22 ?_); refine ret_k (hv _ FR FR FR) fun _ _ _ => ?_)
    | simp (maxDischargeDepth := 3) only [↓X, ↓Y, ↓Q, S1, ↓reduceIte, Nat.reduceEqDiff, Nat.reduceAdd, Int.reduceLT, Int.reduceLE, Int.reduceNeg, Int.reduceBEq, Int.reduceBNe, Int.reduceEq, Nat.reduceLeDiff, Nat.reduceMul, Nat.reduceLT, natV, intV, putAt, idxOk, flatP, *, siteC]
    | simp (singlePass := true) (maxDischargeDepth := 99) only [*, S2, Nat.reduceLT, siteC])
    all_goals exact ⟨_, rfl, _, _, rfl, by rw [if_neg h0]; exact Own.nil _ _ _ _, by rw [if_neg h0]; exact OwnLL.nil _ _⟩
theorem ref20Reduce {e : Int} (hB : B ≤ w.heap.size) (hs : SiteR w B u s) (hl : WishR w B wv l) (hpl : PlanR w B sv av vs p) (he : planErr s (l.map (·.x)) p = e) : CallsV Tryz.prog 17 #[.agg (siteC u s).toArray, .agg #[wv], .agg #[sv, av]] w fun r w' => Ext w w' ∧ ∃ v0, r = .tuple #[v0, intV e] ∧ RedR w.heap.size w' v0 e p := by
  have hn : Now w := trivial
  have hx : Ext w w := Ext.refl w
  have hs' := hs.sk hB
  have hl' := hl.sk hB
  have hp' := hpl.sk hB
  have hS := hs'.2.2.2.2.2.2
  have hW := hl'.2.2
  have hP := hp'.2.2.2.2.2.2
  have hv := fun w' (h1 : Bl B w w') (h3 : B ≤ w'.heap.size) => ref20Valid h3 (hS w' h1) (hW w' h1) (hP w' h1)
  simp only [he] at hv
  have hok : e = 0 → Hid (Shape p ∧ (ofS p.after).1 = 0) := fun h => ⟨(planErr_ok (by rw [he]; exact h)).1, planErr_of (by rw [he]; exact h)⟩
  have hrd := fun w' (h1 : Bl B w w') (h3 : B ≤ w'.heap.size) => ref10Reduce h3 (hP w' h1).a
  replace hrd : Hid _ := hrd
  (refine callsV_of Tryz.func17 rfl (by kernel_rfl) (by kernel_rfl) ?_; rw [Tryz.results17])
  by_cases h0 : e = 0
  · subst h0
    obtain ⟨ho, ho0⟩ := (hok rfl).out
    have hsm := ho.small
    have hrd2 := hrd.out
    rw [ho0] at hrd2
    replace hrd2 : Hid _ := hrd2
    clear hok hrd
    (repeat' first
    | ((with_reducible refine at_row ?_); refine row1_k (by rfl) (by decide) fun _ _ _ _ _ _ _ => ?_)
    | with_reducible first | refine alloc_k fun _ _ _ _ _ _ => ?_ | refine row_k fun _ _ _ _ _ _ => ?_ | refine fork (fun _ => ?_) fun _ => ?_ | refine forkp (fun _ => ?_) fun _ => ?_ | refine forke (fun _ => ?_) fun _ _ => ?_ | refine tail_k fun _ _ _ => ?_ | refine ext_k fun _ _ _ => ?_ | refine need_a ?_ | refine st_agg (by kernel_rfl) rfl (by simp only [natV, intV, S3, *]) fun _ _ _ _ => ?_ | refine wpd_q_a ?_
    | ((with_reducible refine at_f 24 ?_); refine ret_k (hv _ FR FR) fun _ _ _ => ?_)
    | simp (maxDischargeDepth := 3) only [↓X, ↓Y, ↓Q, S1, ↓reduceIte, Nat.reduceEqDiff, Nat.reduceAdd, Int.reduceLT, Int.reduceLE, Int.reduceNeg, Int.reduceBEq, Int.reduceBNe, Int.reduceEq, Nat.reduceLeDiff, Nat.reduceMul, Nat.reduceLT, natV, intV, putAt, idxOk, flatP, *, siteC]
    | simp (singlePass := true) (maxDischargeDepth := 99) only [*, S2, Nat.reduceLT, siteC])
    rename_i c1 x1 a1 d1 e1 f1 c2 x2 a2 d2 e2 f2 c3 x3 a3 d3 e3 f3 c4 x4 a4 d4 e4 f4 wv nv sv
    refine call_k (hrd2.out _ FR FR) ?_
    rintro _ w2 n2 s2 ⟨o, rfl, hoL⟩
    rw [if_pos rfl] at hoL
    have oo := hoL.one
    have co := cellsL_one oo
    have hOx := fun w' (h : Ext w2 w') => hoL.ext h
    replace hOx : Hid _ := hOx
    have hx2 := Ext.refl w2
    clear hoL
    (repeat' first
    | ((with_reducible refine at_row ?_); refine row1_k (by rfl) (by decide) fun _ _ _ _ _ _ _ => ?_)
    | with_reducible first | refine alloc_k fun _ _ _ _ _ _ => ?_ | refine row_k fun _ _ _ _ _ _ => ?_ | refine fork (fun _ => ?_) fun _ => ?_ | refine forkp (fun _ => ?_) fun _ => ?_ | refine forke (fun _ => ?_) fun _ _ => ?_ | refine tail_k fun _ _ _ => ?_ | refine ext_k fun _ _ _ => ?_ | refine need_a ?_ | refine st_agg (by kernel_rfl) rfl (by simp only [natV, intV, S3, *]) fun _ _ _ _ => ?_ | refine wpd_q_a ?_
    | simp (maxDischargeDepth := 3) only [↓X, ↓Y, ↓Q, S1, ↓reduceIte, Nat.reduceEqDiff, Nat.reduceAdd, Int.reduceLT, Int.reduceLE, Int.reduceNeg, Int.reduceBEq, Int.reduceBNe, Int.reduceEq, Nat.reduceLeDiff, Nat.reduceMul, Nat.reduceLT, natV, intV, putAt, idxOk, flatP, *, siteC]
    | simp (singlePass := true) (maxDischargeDepth := 99) only [*, S2, Nat.reduceLT, siteC])
    refine newSt (B := B) (Own.nil _ _ _ _) ((hP _ FR).s) (by omega) ?_
    intro v3 w3 n3 s3 hst
    have os := hst.one
    have OS := hst.o
    clear hst
    (repeat' first
    | ((with_reducible refine at_row ?_); refine row1_k (by rfl) (by decide) fun _ _ _ _ _ _ _ => ?_)
    | with_reducible first | refine alloc_k fun _ _ _ _ _ _ => ?_ | refine row_k fun _ _ _ _ _ _ => ?_ | refine fork (fun _ => ?_) fun _ => ?_ | refine forkp (fun _ => ?_) fun _ => ?_ | refine forke (fun _ => ?_) fun _ _ => ?_ | refine tail_k fun _ _ _ => ?_ | refine ext_k fun _ _ _ => ?_ | refine need_a ?_ | refine st_agg (by kernel_rfl) rfl (by simp only [natV, intV, S3, *]) fun _ _ _ _ => ?_ | refine wpd_q_a ?_
    | simp (maxDischargeDepth := 3) only [↓X, ↓Y, ↓Q, S1, ↓reduceIte, Nat.reduceEqDiff, Nat.reduceAdd, Int.reduceLT, Int.reduceLE, Int.reduceNeg, Int.reduceBEq, Int.reduceBNe, Int.reduceEq, Nat.reduceLeDiff, Nat.reduceMul, Nat.reduceLT, natV, intV, putAt, idxOk, flatP, *, siteC]
    | simp (singlePass := true) (maxDischargeDepth := 99) only [*, S2, Nat.reduceLT, siteC])
    rename_i w4 n4 k4 s4
    refine ⟨_, rfl, _, _, rfl, ?_, ?_⟩
    · rw [if_pos rfl]
      exact (OS.1 _ FR).more FR
    · rw [if_pos rfl]
      exact ((hOx.out w3 FR).sc (d4.2.1 w3 FR) s4 (by decide) (by decide)).more FR
  · have e1 : (e == 0) = false := by simpa using h0
    clear hok hrd
    (repeat' first
    | ((with_reducible refine at_row ?_); refine row1_k (by rfl) (by decide) fun _ _ _ _ _ _ _ => ?_)
    | with_reducible first | refine alloc_k fun _ _ _ _ _ _ => ?_ | refine row_k fun _ _ _ _ _ _ => ?_ | refine fork (fun _ => ?_) fun _ => ?_ | refine forkp (fun _ => ?_) fun _ => ?_ | refine forke (fun _ => ?_) fun _ _ => ?_ | refine tail_k fun _ _ _ => ?_ | refine ext_k fun _ _ _ => ?_ | refine need_a ?_ | refine st_agg (by kernel_rfl) rfl (by simp only [natV, intV, S3, *]) fun _ _ _ _ => ?_ | refine wpd_q_a ?_
    | ((with_reducible refine at_f 24 ?_); refine ret_k (hv _ FR FR) fun _ _ _ => ?_)
    | simp (maxDischargeDepth := 3) only [↓X, ↓Y, ↓Q, S1, ↓reduceIte, Nat.reduceEqDiff, Nat.reduceAdd, Int.reduceLT, Int.reduceLE, Int.reduceNeg, Int.reduceBEq, Int.reduceBNe, Int.reduceEq, Nat.reduceLeDiff, Nat.reduceMul, Nat.reduceLT, natV, intV, putAt, idxOk, flatP, *, siteC]
    | simp (singlePass := true) (maxDischargeDepth := 99) only [*, S2, Nat.reduceLT, siteC])
    all_goals exact ⟨_, rfl, _, _, rfl, by rw [if_neg h0]; exact Own.nil _ _ _ _, by rw [if_neg h0]; exact OwnLL.nil _ _⟩
end
end Go.Proofs.YtgickfllblmhpaaGreatDoor
