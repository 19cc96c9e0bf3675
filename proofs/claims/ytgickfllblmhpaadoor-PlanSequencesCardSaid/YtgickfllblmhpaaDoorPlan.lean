/- The layer plan: Valid, open, ideal, asked, enabled, Ideals, Enabled. -/
import Derived.Test.YtgickfllblmhpaaDoorStep
import Derived.Test.YtgickfllblmhpaaDoorOrd
namespace Go.Proofs.YtgickfllblmhpaaDoor
set_option linter.unusedSimpArgs false
set_option linter.unusedVariables false
open Go Go.RowKit
set_option maxRecDepth 100000
set_option linter.unusedSectionVars false
theorem orderValid {w : World} {B : Nat} {v : Value} {vs : List Value} {after : List (List Int)} (hT : TabW w) (hB : B ≤ w.heap.size) (hv : LLR w B v vs after) : Ret Tryd.prog 28 #[v] w (intV (ofS after).1) := by
  refine callsV_of Tryd.func28 rfl (by kernel_rfl) (by kernel_rfl) ?_
  rw [Tryd.results28]
  simp only [↓X, ↓Y, V, U, Z, ↓Q, Tsl, Tarr, Ttk, Tfl, Tint, Tbool, Tbld, Tze, Tzel, Tcall, ↓reduceIte, Nat.reduceEqDiff, Nat.reduceAdd, Nat.add_zero, Nat.zero_add, Int.toNat_natCast, Int.natCast_nonneg, true_and, and_true, and_self, List.nil_append, List.cons_append, U2, List.getElem?_cons_zero, List.getElem?_cons_succ, List.append_nil, List.length_map, Bool.not_true, Bool.not_false, decide_true, decide_false, eq_self, ne_eq, not_false_eq_true, Int.reduceLT, Int.reduceLE, Int.reduceNeg, nat_lt0, now w]
  refine CallsV.mono (orderOf hT hB hv) fun r w1 ⟨hx1, nv, vd, va, hr, ⟨h1, h2, h3⟩, _⟩ => ?_
  subst hr
  simp only [↓X, ↓Y, V, U, Z, ↓Q, Tsl, Tarr, Ttk, Tfl, Tint, Tbool, Tbld, Tze, Tzel, Tcall, ↓reduceIte, Nat.reduceEqDiff, Nat.reduceAdd, Nat.add_zero, Nat.zero_add, Int.toNat_natCast, Int.natCast_nonneg, true_and, and_true, and_self, List.nil_append, List.cons_append, U2, List.getElem?_cons_zero, List.getElem?_cons_succ, List.append_nil, List.length_map, Bool.not_true, Bool.not_false, decide_true, decide_false, eq_self, ne_eq, not_false_eq_true, Int.reduceLT, Int.reduceLE, Int.reduceNeg, nat_lt0, now w1]
  refine alloc_intro fun b2 w2 hb2 hx2 hn2 => ?_
  simp only [↓X, ↓Y, V, U, Z, ↓Q, Tsl, Tarr, Ttk, Tfl, Tint, Tbool, Tbld, Tze, Tzel, Tcall, ↓reduceIte, Nat.reduceEqDiff, Nat.reduceAdd, Nat.add_zero, Nat.zero_add, Int.toNat_natCast, Int.natCast_nonneg, true_and, and_true, and_self, List.nil_append, List.cons_append, U2, List.getElem?_cons_zero, List.getElem?_cons_succ, List.append_nil, List.length_map, Bool.not_true, Bool.not_false, decide_true, decide_false, eq_self, ne_eq, not_false_eq_true, Int.reduceLT, Int.reduceLE, Int.reduceNeg, nat_lt0, now w2]
  refine storeAgg_intro (vs := [nv, vd, va]) (by kernel_rfl) hb2 rfl (by simp only [natV, intV, List.mem_cons, List.not_mem_nil, or_false, forall_eq_or_imp, forall_eq, one_int, one_bool, one_slice, one_ptr, and_self, h1, h2, h3]) fun w3 hb3 hc3 => ?_
  simp only [↓X, ↓Y, V, U, Z, ↓Q, Tsl, Tarr, Ttk, Tfl, Tint, Tbool, Tbld, Tze, Tzel, Tcall, ↓reduceIte, Nat.reduceEqDiff, Nat.reduceAdd, Nat.add_zero, Nat.zero_add, Int.toNat_natCast, Int.natCast_nonneg, true_and, and_true, and_self, List.nil_append, List.cons_append, U2, List.getElem?_cons_zero, List.getElem?_cons_succ, List.append_nil, List.length_map, Bool.not_true, Bool.not_false, decide_true, decide_false, eq_self, ne_eq, not_false_eq_true, Int.reduceLT, Int.reduceLE, Int.reduceNeg, nat_lt0, now w3]
  exact (hx1.trans hx2).trans' (hc3.below (Nat.le_trans hx1.size hn2) (hx1.trans hx2).size)
def planErrE (e : Int) (s : SiteD) (wl : List ServiceD) (p : PlanD) : Int :=
  if siteB s && wishB wl then
    if 12 < p.steps.length then 3
    else if p.after.length = p.steps.length ∧ p.steps.all (stepB s wl) = true then e else 1
  else 1
def planErr (s : SiteD) (wl : List ServiceD) (p : PlanD) : Int := planErrE (ofS p.after).1 s wl p
structure PlanR (w : World) (B : Nat) (sv av : Value) (vs : List Value) (p : PlanD) : Prop where
  s : Sl w B (some 4) 4 sv (p.steps.map stepV)
  a : LLR w B av vs p.after
theorem PlanR.ext {w w' : World} {B : Nat} {sv av : Value} {vs : List Value} {p : PlanD} (h : PlanR w B sv av vs p) (hx : Ext w w') (hB : B ≤ w.heap.size) : PlanR w' B sv av vs p := ⟨h.s.ext hx hB, h.a.ext hx hB⟩
theorem planValid1 {w : World} {B b3 b4 : Nat} {u : SiteVs} {s : SiteD} {wv : Value} {l : List SrvV} {st : StepD} (hB : B ≤ w.heap.size) (hs : SiteR w B u s) (hl : WishR w B wv l) (hb3 : Blk w b3 29 (siteC u s)) (hb4 : Blk w b4 32 [wv]) :
    Ret Tryd.prog 23 #[stepV st, .pointer (some ⟨b3, 0, none⟩), .pointer (some ⟨b4, 0, none⟩)] w (.bool (!stepB s (l.map (·.x)) st)) := by
  refine callsV_of Tryd.func23 rfl (by kernel_rfl) (by kernel_rfl) ?_
  rw [Tryd.results23]
  simp only [↓X, ↓Y, V, U, Z, ↓Q, Tsl, Tarr, Ttk, Tfl, Tint, Tbool, Tbld, Tze, Tzel, Tcall, ↓reduceIte, Nat.reduceEqDiff, Nat.reduceAdd, Nat.add_zero, Nat.zero_add, Int.toNat_natCast, Int.natCast_nonneg, true_and, and_true, and_self, List.nil_append, List.cons_append, U2, List.getElem?_cons_zero, List.getElem?_cons_succ, List.append_nil, List.length_map, Bool.not_true, Bool.not_false, decide_true, decide_false, eq_self, ne_eq, not_false_eq_true, Int.reduceLT, Int.reduceLE, Int.reduceNeg, nat_lt0, now w, stepV, stepC]
  refine alloc_intro fun b1 w1 hb1 hx1 _ => ?_
  simp only [↓X, ↓Y, V, U, Z, ↓Q, Tsl, Tarr, Ttk, Tfl, Tint, Tbool, Tbld, Tze, Tzel, Tcall, ↓reduceIte, Nat.reduceEqDiff, Nat.reduceAdd, Nat.add_zero, Nat.zero_add, Int.toNat_natCast, Int.natCast_nonneg, true_and, and_true, and_self, List.nil_append, List.cons_append, U2, List.getElem?_cons_zero, List.getElem?_cons_succ, List.append_nil, List.length_map, Bool.not_true, Bool.not_false, decide_true, decide_false, eq_self, ne_eq, not_false_eq_true, Int.reduceLT, Int.reduceLE, Int.reduceNeg, nat_lt0, now w1, hb1.cell, (hb3.ext hx1).cell, (hb4.ext hx1).cell, siteC]
  refine ret_bind' hx1 (stepValid (Nat.le_trans hB hx1.size) (hs.ext hx1 hB) (hl.ext hx1 hB)) fun w2 hx2 => ?_
  simp only [↓X, ↓Y, V, U, Z, ↓Q, Tsl, Tarr, Ttk, Tfl, Tint, Tbool, Tbld, Tze, Tzel, Tcall, ↓reduceIte, Nat.reduceEqDiff, Nat.reduceAdd, Nat.add_zero, Nat.zero_add, Int.toNat_natCast, Int.natCast_nonneg, true_and, and_true, and_self, List.nil_append, List.cons_append, U2, List.getElem?_cons_zero, List.getElem?_cons_succ, List.append_nil, List.length_map, Bool.not_true, Bool.not_false, decide_true, decide_false, eq_self, ne_eq, not_false_eq_true, Int.reduceLT, Int.reduceLE, Int.reduceNeg, nat_lt0, now w2]
  (repeat' apply And.intro) <;> first | rfl | assumption
set_option maxHeartbeats 1000000
section
variable {w : World} {B : Nat} {u : SiteVs} {s : SiteD} {wv sv av : Value} {vs : List Value} {l : List SrvV} {p : PlanD} (hT : TabW w) (hB : B ≤ w.heap.size) (hs : SiteR w B u s) (hl : WishR w B wv l) (hp : PlanR w B sv av vs p)
include hT hB hs hl hp
theorem planValid_core {e : Int} (hov : ∀ w', Ext w w' → Ret Tryd.prog 28 #[av] w' (intV e)) : Ret Tryd.prog 17 #[.agg (siteC u s).toArray, .agg #[wv], .agg #[sv, av]] w (intV (planErrE e s (l.map (·.x)) p)) := by
  refine callsV_of Tryd.func17 rfl (by kernel_rfl) (by kernel_rfl) ?_
  rw [Tryd.results17]
  simp only [↓X, ↓Y, V, U, Z, ↓Q, Tsl, Tarr, Ttk, Tfl, Tint, Tbool, Tbld, Tze, Tzel, Tcall, ↓reduceIte, Nat.reduceEqDiff, Nat.reduceAdd, Nat.add_zero, Nat.zero_add, Int.toNat_natCast, Int.natCast_nonneg, true_and, and_true, and_self, List.nil_append, List.cons_append, U2, List.getElem?_cons_zero, List.getElem?_cons_succ, List.append_nil, List.length_map, Bool.not_true, Bool.not_false, decide_true, decide_false, eq_self, ne_eq, not_false_eq_true, Int.reduceLT, Int.reduceLE, Int.reduceNeg, nat_lt0, now w, siteC]
  refine alloc_intro fun b1 w1 hb1 hx1 _ => ?_
  simp only [↓X, ↓Y, V, U, Z, ↓Q, Tsl, Tarr, Ttk, Tfl, Tint, Tbool, Tbld, Tze, Tzel, Tcall, ↓reduceIte, Nat.reduceEqDiff, Nat.reduceAdd, Nat.add_zero, Nat.zero_add, Int.toNat_natCast, Int.natCast_nonneg, true_and, and_true, and_self, List.nil_append, List.cons_append, U2, List.getElem?_cons_zero, List.getElem?_cons_succ, List.append_nil, List.length_map, Bool.not_true, Bool.not_false, decide_true, decide_false, eq_self, ne_eq, not_false_eq_true, Int.reduceLT, Int.reduceLE, Int.reduceNeg, nat_lt0, now w1]
  refine alloc_intro fun b2 w2 hb2 hx2 _ => ?_
  simp only [↓X, ↓Y, V, U, Z, ↓Q, Tsl, Tarr, Ttk, Tfl, Tint, Tbool, Tbld, Tze, Tzel, Tcall, ↓reduceIte, Nat.reduceEqDiff, Nat.reduceAdd, Nat.add_zero, Nat.zero_add, Int.toNat_natCast, Int.natCast_nonneg, true_and, and_true, and_self, List.nil_append, List.cons_append, U2, List.getElem?_cons_zero, List.getElem?_cons_succ, List.append_nil, List.length_map, Bool.not_true, Bool.not_false, decide_true, decide_false, eq_self, ne_eq, not_false_eq_true, Int.reduceLT, Int.reduceLE, Int.reduceNeg, nat_lt0, now w2]
  refine alloc_intro fun b3 w3 hb3 hx3 _ => ?_
  have hb1 := hb1.ext (hx2.trans hx3)
  have hb2 := hb2.ext hx3
  have hx3' := hx1.trans (hx2.trans hx3)
  have hs3 := hs.ext hx3' hB
  have hl3 := hl.ext hx3' hB
  have hp3 := hp.ext hx3' hB
  have hB3 := Nat.le_trans hB hx3'.size
  simp only [↓X, ↓Y, V, U, Z, ↓Q, Tsl, Tarr, Ttk, Tfl, Tint, Tbool, Tbld, Tze, Tzel, Tcall, ↓reduceIte, Nat.reduceEqDiff, Nat.reduceAdd, Nat.add_zero, Nat.zero_add, Int.toNat_natCast, Int.natCast_nonneg, true_and, and_true, and_self, List.nil_append, List.cons_append, U2, List.getElem?_cons_zero, List.getElem?_cons_succ, List.append_nil, List.length_map, Bool.not_true, Bool.not_false, decide_true, decide_false, eq_self, ne_eq, not_false_eq_true, Int.reduceLT, Int.reduceLE, Int.reduceNeg, nat_lt0, now w3, hb1.cell]
  refine ret_bind' (Ext.refl w3) (siteValid hB3 hs3) fun w4 hx4 => ?_
  cases c1 : siteB s
  · simp only [↓X, ↓Y, V, U, Z, ↓Q, Tsl, Tarr, Ttk, Tfl, Tint, Tbool, Tbld, Tze, Tzel, Tcall, ↓reduceIte, Nat.reduceEqDiff, Nat.reduceAdd, Nat.add_zero, Nat.zero_add, Int.toNat_natCast, Int.natCast_nonneg, true_and, and_true, and_self, List.nil_append, List.cons_append, U2, List.getElem?_cons_zero, List.getElem?_cons_succ, List.append_nil, List.length_map, Bool.not_true, Bool.not_false, decide_true, decide_false, eq_self, ne_eq, not_false_eq_true, Int.reduceLT, Int.reduceLE, Int.reduceNeg, nat_lt0, now w4, c1, (hb2.ext hx4).cell]
    exact ⟨by simp [planErrE, c1, intV], hx3'.trans hx4⟩
  simp only [↓X, ↓Y, V, U, Z, ↓Q, Tsl, Tarr, Ttk, Tfl, Tint, Tbool, Tbld, Tze, Tzel, Tcall, ↓reduceIte, Nat.reduceEqDiff, Nat.reduceAdd, Nat.add_zero, Nat.zero_add, Int.toNat_natCast, Int.natCast_nonneg, true_and, and_true, and_self, List.nil_append, List.cons_append, U2, List.getElem?_cons_zero, List.getElem?_cons_succ, List.append_nil, List.length_map, Bool.not_true, Bool.not_false, decide_true, decide_false, eq_self, ne_eq, not_false_eq_true, Int.reduceLT, Int.reduceLE, Int.reduceNeg, nat_lt0, now w4, c1, (hb2.ext hx4).cell]
  refine ret_bind' hx4 (worldValidWish (Nat.le_trans hB3 hx4.size) (hl3.ext hx4 hB3)) fun w5 hx5 => ?_
  cases c2 : wishB (l.map (·.x))
  · simp only [↓X, ↓Y, V, U, Z, ↓Q, Tsl, Tarr, Ttk, Tfl, Tint, Tbool, Tbld, Tze, Tzel, Tcall, ↓reduceIte, Nat.reduceEqDiff, Nat.reduceAdd, Nat.add_zero, Nat.zero_add, Int.toNat_natCast, Int.natCast_nonneg, true_and, and_true, and_self, List.nil_append, List.cons_append, U2, List.getElem?_cons_zero, List.getElem?_cons_succ, List.append_nil, List.length_map, Bool.not_true, Bool.not_false, decide_true, decide_false, eq_self, ne_eq, not_false_eq_true, Int.reduceLT, Int.reduceLE, Int.reduceNeg, nat_lt0, now w5, c2, (hb3.ext hx5).cell, hp.s.len_]
    exact ⟨by simp [planErrE, c2, intV], hx3'.trans hx5⟩
  simp only [↓X, ↓Y, V, U, Z, ↓Q, Tsl, Tarr, Ttk, Tfl, Tint, Tbool, Tbld, Tze, Tzel, Tcall, ↓reduceIte, Nat.reduceEqDiff, Nat.reduceAdd, Nat.add_zero, Nat.zero_add, Int.toNat_natCast, Int.natCast_nonneg, true_and, and_true, and_self, List.nil_append, List.cons_append, U2, List.getElem?_cons_zero, List.getElem?_cons_succ, List.append_nil, List.length_map, Bool.not_true, Bool.not_false, decide_true, decide_false, eq_self, ne_eq, not_false_eq_true, Int.reduceLT, Int.reduceLE, Int.reduceNeg, nat_lt0, now w5, c2, (hb3.ext hx5).cell, hp.s.len_]
  have hx5' := hx3'.trans hx5
  rcases Bool.eq_false_or_eq_true (decide (12 < (p.steps.length : Int))) with c3 | c3
  · simp only [↓X, ↓Y, V, U, Z, ↓Q, Tsl, Tarr, Ttk, Tfl, Tint, Tbool, Tbld, Tze, Tzel, Tcall, ↓reduceIte, Nat.reduceEqDiff, Nat.reduceAdd, Nat.add_zero, Nat.zero_add, Int.toNat_natCast, Int.natCast_nonneg, true_and, and_true, and_self, List.nil_append, List.cons_append, U2, List.getElem?_cons_zero, List.getElem?_cons_succ, List.append_nil, List.length_map, Bool.not_true, Bool.not_false, decide_true, decide_false, eq_self, ne_eq, not_false_eq_true, Int.reduceLT, Int.reduceLE, Int.reduceNeg, nat_lt0, now w5, c3, (hb3.ext hx5).cell, hp.s.len_, hp.a.len_]
    exact ⟨by have := of_decide_eq_true c3; simp only [planErrE, c1, c2, Bool.and_self, if_true, intV]; rw [if_pos (by omega)], hx5'⟩
  simp only [↓X, ↓Y, V, U, Z, ↓Q, Tsl, Tarr, Ttk, Tfl, Tint, Tbool, Tbld, Tze, Tzel, Tcall, ↓reduceIte, Nat.reduceEqDiff, Nat.reduceAdd, Nat.add_zero, Nat.zero_add, Int.toNat_natCast, Int.natCast_nonneg, true_and, and_true, and_self, List.nil_append, List.cons_append, U2, List.getElem?_cons_zero, List.getElem?_cons_succ, List.append_nil, List.length_map, Bool.not_true, Bool.not_false, decide_true, decide_false, eq_self, ne_eq, not_false_eq_true, Int.reduceLT, Int.reduceLE, Int.reduceNeg, nat_lt0, now w5, c3, (hb3.ext hx5).cell, hp.s.len_, hp.a.len_]
  have n12 : ¬ 12 < p.steps.length := by have := of_decide_eq_false c3; omega
  rcases Bool.eq_false_or_eq_true ((p.after.length : Int) != (p.steps.length : Int)) with c4 | c4
  · simp only [↓X, ↓Y, V, U, Z, ↓Q, Tsl, Tarr, Ttk, Tfl, Tint, Tbool, Tbld, Tze, Tzel, Tcall, ↓reduceIte, Nat.reduceEqDiff, Nat.reduceAdd, Nat.add_zero, Nat.zero_add, Int.toNat_natCast, Int.natCast_nonneg, true_and, and_true, and_self, List.nil_append, List.cons_append, U2, List.getElem?_cons_zero, List.getElem?_cons_succ, List.append_nil, List.length_map, Bool.not_true, Bool.not_false, decide_true, decide_false, eq_self, ne_eq, not_false_eq_true, Int.reduceLT, Int.reduceLE, Int.reduceNeg, nat_lt0, now w5, c4, (hb3.ext hx5).cell, hp.s.len_, hp.a.len_]
    exact ⟨by have : ¬ p.after.length = p.steps.length := (by simp at c4; omega); simp [planErrE, c1, c2, n12, this, intV], hx5'⟩
  simp only [↓X, ↓Y, V, U, Z, ↓Q, Tsl, Tarr, Ttk, Tfl, Tint, Tbool, Tbld, Tze, Tzel, Tcall, ↓reduceIte, Nat.reduceEqDiff, Nat.reduceAdd, Nat.add_zero, Nat.zero_add, Int.toNat_natCast, Int.natCast_nonneg, true_and, and_true, and_self, List.nil_append, List.cons_append, U2, List.getElem?_cons_zero, List.getElem?_cons_succ, List.append_nil, List.length_map, Bool.not_true, Bool.not_false, decide_true, decide_false, eq_self, ne_eq, not_false_eq_true, Int.reduceLT, Int.reduceLE, Int.reduceNeg, nat_lt0, now w5, c4, (hb3.ext hx5).cell, hp.s.len_, hp.a.len_]
  have c4' : p.after.length = p.steps.length := by simp at c4; omega
  have hB5 := Nat.le_trans hB3 hx5.size
  have hst : ∀ st ∈ p.steps, ∀ w', Ext w5 w' → Ret Tryd.prog 23 (stepV st :: [.pointer (some ⟨b1, 0, none⟩), .pointer (some ⟨b2, 0, none⟩)]).toArray w' (.bool (!stepB s (l.map (·.x)) st)) := fun st _ w' hx' =>
    planValid1 (Nat.le_trans hB5 hx'.size) (hs3.ext (hx5.trans hx') hB3) (hl3.ext (hx5.trans hx') hB3) (hb1.ext (hx5.trans hx')) (hb2.ext (hx5.trans hx'))
  have hss : Sl w5 B (some 4) 4 sv (p.steps.map stepV) := hp3.s.ext hx5 hB3
  have hcal : callable Tryd.prog 23 = true := by kernel_rfl
  have hcf := containsNot_Step hB5 hss hcal hst
  refine ret_bind' hx5 hcf fun w6 hx6 => ?_
  cases c5 : p.steps.all (stepB s (l.map (·.x)))
  · simp only [↓X, ↓Y, V, U, Z, ↓Q, Tsl, Tarr, Ttk, Tfl, Tint, Tbool, Tbld, Tze, Tzel, Tcall, ↓reduceIte, Nat.reduceEqDiff, Nat.reduceAdd, Nat.add_zero, Nat.zero_add, Int.toNat_natCast, Int.natCast_nonneg, true_and, and_true, and_self, List.nil_append, List.cons_append, U2, List.getElem?_cons_zero, List.getElem?_cons_succ, List.append_nil, List.length_map, Bool.not_true, Bool.not_false, decide_true, decide_false, eq_self, ne_eq, not_false_eq_true, Int.reduceLT, Int.reduceLE, Int.reduceNeg, nat_lt0, now w6]
    exact ⟨by simp only [planErrE, c1, c2, c5, n12, intV]; simp, hx3'.trans hx6⟩
  · simp only [↓X, ↓Y, V, U, Z, ↓Q, Tsl, Tarr, Ttk, Tfl, Tint, Tbool, Tbld, Tze, Tzel, Tcall, ↓reduceIte, Nat.reduceEqDiff, Nat.reduceAdd, Nat.add_zero, Nat.zero_add, Int.toNat_natCast, Int.natCast_nonneg, true_and, and_true, and_self, List.nil_append, List.cons_append, U2, List.getElem?_cons_zero, List.getElem?_cons_succ, List.append_nil, List.length_map, Bool.not_true, Bool.not_false, decide_true, decide_false, eq_self, ne_eq, not_false_eq_true, Int.reduceLT, Int.reduceLE, Int.reduceNeg, nat_lt0, now w6, (hb3.ext hx6).cell]
    refine ret_bind' hx6 (hov _ (hx3'.trans hx6)) fun w7 hx7 => ?_
    simp only [↓X, ↓Y, V, U, Z, ↓Q, Tsl, Tarr, Ttk, Tfl, Tint, Tbool, Tbld, Tze, Tzel, Tcall, ↓reduceIte, Nat.reduceEqDiff, Nat.reduceAdd, Nat.add_zero, Nat.zero_add, Int.toNat_natCast, Int.natCast_nonneg, true_and, and_true, and_self, List.nil_append, List.cons_append, U2, List.getElem?_cons_zero, List.getElem?_cons_succ, List.append_nil, List.length_map, Bool.not_true, Bool.not_false, decide_true, decide_false, eq_self, ne_eq, not_false_eq_true, Int.reduceLT, Int.reduceLE, Int.reduceNeg, nat_lt0, now w7, intV]
    exact ⟨by simp only [planErrE, c1, c2, c5, n12, c4']; simp, hx3'.trans hx7⟩
theorem planValid : Ret Tryd.prog 17 #[.agg (siteC u s).toArray, .agg #[wv], .agg #[sv, av]] w (intV (planErr s (l.map (·.x)) p)) :=
  planValid_core hT hB hs hl hp fun _ hx => orderValid (hT.ext hx) (Nat.le_trans hB hx.size) (hp.a.ext hx hB)
end
end Go.Proofs.YtgickfllblmhpaaDoor
