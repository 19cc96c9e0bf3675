/- The layer plan: asked, Ideals, Enabled, Sequence. -/
import Derived.Test.YtgickfllblmhpaaDoorPure
namespace Go.Proofs.YtgickfllblmhpaaDoor
set_option linter.unusedSimpArgs false
set_option linter.unusedVariables false
open Go Go.RowKit
set_option maxRecDepth 100000
set_option linter.unusedSectionVars false
set_option maxHeartbeats 1000000
def idealsL (p : PlanD) : List Nat := (List.range (2 ^ p.steps.length)).filter (idealB p)
def askedE (e : Int) (p : PlanD) (x : Int) : Int := if e = 0 then if idealI p x then 0 else 2 else e
section
variable {w : World} {B : Nat} {u : SiteVs} {s : SiteD} {wv sv av : Value} {vs : List Value} {l : List SrvV} {p : PlanD} (hT : TabW w) (hB : B ≤ w.heap.size) (hs : SiteR w B u s) (hl : WishR w B wv l) (hp : PlanR w B sv av vs p)
include hT hB hs hl hp
theorem planAsked {x e : Int} (he : planErr s (l.map (·.x)) p = e) : Ret Tryd.prog 19 #[.agg (siteC u s).toArray, .agg #[wv], .agg #[sv, av], intV x] w (intV (askedE e p x)) := by
  have hv := fun w' hx => planValid (w := w') (hT.ext hx) (Nat.le_trans hB (Ext.size hx)) (hs.ext hx hB) (hl.ext hx hB) (hp.ext hx hB)
  have hok := fun h => (planErr_ok (s := s) (wl := l.map (·.x)) (p := p) h).1
  rw [he] at hv hok
  refine callsV_of Tryd.func19 rfl (by kernel_rfl) (by kernel_rfl) ?_
  rw [Tryd.results19]
  simp only [↓X, ↓Y, V, U, Z, ↓Q, Tsl, Tarr, Ttk, Tfl, Tint, Tbool, Tbld, Tze, Tzel, Tcall, ↓reduceIte, Nat.reduceEqDiff, Nat.reduceAdd, Nat.add_zero, Nat.zero_add, Int.toNat_natCast, Int.natCast_nonneg, true_and, and_true, and_self, List.nil_append, List.cons_append, U2, List.getElem?_cons_zero, List.getElem?_cons_succ, List.append_nil, List.length_map, Bool.not_true, Bool.not_false, decide_true, decide_false, eq_self, ne_eq, not_false_eq_true, Int.reduceLT, Int.reduceLE, Int.reduceNeg, nat_lt0, now w, siteC, intV]
  refine alloc_intro fun b1 w1 hb1 hx1 _ => ?_
  simp only [↓X, ↓Y, V, U, Z, ↓Q, Tsl, Tarr, Ttk, Tfl, Tint, Tbool, Tbld, Tze, Tzel, Tcall, ↓reduceIte, Nat.reduceEqDiff, Nat.reduceAdd, Nat.add_zero, Nat.zero_add, Int.toNat_natCast, Int.natCast_nonneg, true_and, and_true, and_self, List.nil_append, List.cons_append, U2, List.getElem?_cons_zero, List.getElem?_cons_succ, List.append_nil, List.length_map, Bool.not_true, Bool.not_false, decide_true, decide_false, eq_self, ne_eq, not_false_eq_true, Int.reduceLT, Int.reduceLE, Int.reduceNeg, nat_lt0, now w1]
  refine alloc_intro fun b2 w2 hb2 hx2 _ => ?_
  simp only [↓X, ↓Y, V, U, Z, ↓Q, Tsl, Tarr, Ttk, Tfl, Tint, Tbool, Tbld, Tze, Tzel, Tcall, ↓reduceIte, Nat.reduceEqDiff, Nat.reduceAdd, Nat.add_zero, Nat.zero_add, Int.toNat_natCast, Int.natCast_nonneg, true_and, and_true, and_self, List.nil_append, List.cons_append, U2, List.getElem?_cons_zero, List.getElem?_cons_succ, List.append_nil, List.length_map, Bool.not_true, Bool.not_false, decide_true, decide_false, eq_self, ne_eq, not_false_eq_true, Int.reduceLT, Int.reduceLE, Int.reduceNeg, nat_lt0, now w2]
  refine alloc_intro fun b3 w3 hb3 hx3 _ => ?_
  have hx := hx1.trans (hx2.trans hx3)
  simp only [↓X, ↓Y, V, U, Z, ↓Q, Tsl, Tarr, Ttk, Tfl, Tint, Tbool, Tbld, Tze, Tzel, Tcall, ↓reduceIte, Nat.reduceEqDiff, Nat.reduceAdd, Nat.add_zero, Nat.zero_add, Int.toNat_natCast, Int.natCast_nonneg, true_and, and_true, and_self, List.nil_append, List.cons_append, U2, List.getElem?_cons_zero, List.getElem?_cons_succ, List.append_nil, List.length_map, Bool.not_true, Bool.not_false, decide_true, decide_false, eq_self, ne_eq, not_false_eq_true, Int.reduceLT, Int.reduceLE, Int.reduceNeg, nat_lt0, now w3, (hb1.ext (hx2.trans hx3)).cell, (hb2.ext hx3).cell, hb3.cell]
  refine ret_bind' (Ext.refl w3) (hv w3 hx) fun w4 hx4 => ?_
  cases c1 : e != 0
  · have e0 : e = 0 := by simpa using c1
    simp only [↓X, ↓Y, V, U, Z, ↓Q, Tsl, Tarr, Ttk, Tfl, Tint, Tbool, Tbld, Tze, Tzel, Tcall, ↓reduceIte, Nat.reduceEqDiff, Nat.reduceAdd, Nat.add_zero, Nat.zero_add, Int.toNat_natCast, Int.natCast_nonneg, true_and, and_true, and_self, List.nil_append, List.cons_append, U2, List.getElem?_cons_zero, List.getElem?_cons_succ, List.append_nil, List.length_map, Bool.not_true, Bool.not_false, decide_true, decide_false, eq_self, ne_eq, not_false_eq_true, Int.reduceLT, Int.reduceLE, Int.reduceNeg, nat_lt0, now w4, intV, c1, (hb3.ext hx4).cell]
    refine ret_bind' hx4 (planIdeal (Nat.le_trans hB (hx.trans hx4).size) (hp.ext (hx.trans hx4) hB) (hok e0)) fun w5 hx5 => ?_
    cases c2 : idealI p x
    · simp only [↓X, ↓Y, V, U, Z, ↓Q, Tsl, Tarr, Ttk, Tfl, Tint, Tbool, Tbld, Tze, Tzel, Tcall, ↓reduceIte, Nat.reduceEqDiff, Nat.reduceAdd, Nat.add_zero, Nat.zero_add, Int.toNat_natCast, Int.natCast_nonneg, true_and, and_true, and_self, List.nil_append, List.cons_append, U2, List.getElem?_cons_zero, List.getElem?_cons_succ, List.append_nil, List.length_map, Bool.not_true, Bool.not_false, decide_true, decide_false, eq_self, ne_eq, not_false_eq_true, Int.reduceLT, Int.reduceLE, Int.reduceNeg, nat_lt0, now w5]
      exact ⟨by simp [askedE, e0, c2], hx.trans hx5⟩
    · simp only [↓X, ↓Y, V, U, Z, ↓Q, Tsl, Tarr, Ttk, Tfl, Tint, Tbool, Tbld, Tze, Tzel, Tcall, ↓reduceIte, Nat.reduceEqDiff, Nat.reduceAdd, Nat.add_zero, Nat.zero_add, Int.toNat_natCast, Int.natCast_nonneg, true_and, and_true, and_self, List.nil_append, List.cons_append, U2, List.getElem?_cons_zero, List.getElem?_cons_succ, List.append_nil, List.length_map, Bool.not_true, Bool.not_false, decide_true, decide_false, eq_self, ne_eq, not_false_eq_true, Int.reduceLT, Int.reduceLE, Int.reduceNeg, nat_lt0, now w5]
      exact ⟨by simp [askedE, e0, c2], hx.trans hx5⟩
  · simp only [↓X, ↓Y, V, U, Z, ↓Q, Tsl, Tarr, Ttk, Tfl, Tint, Tbool, Tbld, Tze, Tzel, Tcall, ↓reduceIte, Nat.reduceEqDiff, Nat.reduceAdd, Nat.add_zero, Nat.zero_add, Int.toNat_natCast, Int.natCast_nonneg, true_and, and_true, and_self, List.nil_append, List.cons_append, U2, List.getElem?_cons_zero, List.getElem?_cons_succ, List.append_nil, List.length_map, Bool.not_true, Bool.not_false, decide_true, decide_false, eq_self, ne_eq, not_false_eq_true, Int.reduceLT, Int.reduceLE, Int.reduceNeg, nat_lt0, now w4, intV, c1]
    have e0 : e ≠ 0 := by simpa using c1
    exact ⟨by simp [askedE, e0], hx.trans hx4⟩
theorem planEnabledX {x e : Int} (he : planErr s (l.map (·.x)) p = e) : CallsV Tryd.prog 12 #[.agg (siteC u s).toArray, .agg #[wv], .agg #[sv, av], intV x] w fun r w' => Ext w w' ∧ ∃ v, r = .tuple #[v, intV (askedE e p x)] ∧
    Own w' w.heap.size 3 1 v ((if askedE e p x = 0 then enabledL p x.toNat else []).map natC) := by
  have hv := fun w' hx => planAsked (w := w') (x := x) (hT.ext hx) (Nat.le_trans hB (Ext.size hx)) (hs.ext hx hB) (hl.ext hx hB) (hp.ext hx hB) he
  have hok := fun h => (planErr_ok (s := s) (wl := l.map (·.x)) (p := p) h).1
  rw [he] at hok
  refine callsV_of Tryd.func12 rfl (by kernel_rfl) (by kernel_rfl) ?_
  rw [Tryd.results12]
  simp only [↓X, ↓Y, V, U, Z, ↓Q, Tsl, Tarr, Ttk, Tfl, Tint, Tbool, Tbld, Tze, Tzel, Tcall, ↓reduceIte, Nat.reduceEqDiff, Nat.reduceAdd, Nat.add_zero, Nat.zero_add, Int.toNat_natCast, Int.natCast_nonneg, true_and, and_true, and_self, List.nil_append, List.cons_append, U2, List.getElem?_cons_zero, List.getElem?_cons_succ, List.append_nil, List.length_map, Bool.not_true, Bool.not_false, decide_true, decide_false, eq_self, ne_eq, not_false_eq_true, Int.reduceLT, Int.reduceLE, Int.reduceNeg, nat_lt0, now w, siteC]
  refine alloc_intro fun b1 w1 hb1 hx1 _ => ?_
  simp only [↓X, ↓Y, V, U, Z, ↓Q, Tsl, Tarr, Ttk, Tfl, Tint, Tbool, Tbld, Tze, Tzel, Tcall, ↓reduceIte, Nat.reduceEqDiff, Nat.reduceAdd, Nat.add_zero, Nat.zero_add, Int.toNat_natCast, Int.natCast_nonneg, true_and, and_true, and_self, List.nil_append, List.cons_append, U2, List.getElem?_cons_zero, List.getElem?_cons_succ, List.append_nil, List.length_map, Bool.not_true, Bool.not_false, decide_true, decide_false, eq_self, ne_eq, not_false_eq_true, Int.reduceLT, Int.reduceLE, Int.reduceNeg, nat_lt0, now w1]
  refine alloc_intro fun b2 w2 hb2 hx2 _ => ?_
  simp only [↓X, ↓Y, V, U, Z, ↓Q, Tsl, Tarr, Ttk, Tfl, Tint, Tbool, Tbld, Tze, Tzel, Tcall, ↓reduceIte, Nat.reduceEqDiff, Nat.reduceAdd, Nat.add_zero, Nat.zero_add, Int.toNat_natCast, Int.natCast_nonneg, true_and, and_true, and_self, List.nil_append, List.cons_append, U2, List.getElem?_cons_zero, List.getElem?_cons_succ, List.append_nil, List.length_map, Bool.not_true, Bool.not_false, decide_true, decide_false, eq_self, ne_eq, not_false_eq_true, Int.reduceLT, Int.reduceLE, Int.reduceNeg, nat_lt0, now w2]
  refine alloc_intro fun b3 w3 hb3 hx3 _ => ?_
  have hx := hx1.trans (hx2.trans hx3)
  simp only [↓X, ↓Y, V, U, Z, ↓Q, Tsl, Tarr, Ttk, Tfl, Tint, Tbool, Tbld, Tze, Tzel, Tcall, ↓reduceIte, Nat.reduceEqDiff, Nat.reduceAdd, Nat.add_zero, Nat.zero_add, Int.toNat_natCast, Int.natCast_nonneg, true_and, and_true, and_self, List.nil_append, List.cons_append, U2, List.getElem?_cons_zero, List.getElem?_cons_succ, List.append_nil, List.length_map, Bool.not_true, Bool.not_false, decide_true, decide_false, eq_self, ne_eq, not_false_eq_true, Int.reduceLT, Int.reduceLE, Int.reduceNeg, nat_lt0, now w3, (hb1.ext (hx2.trans hx3)).cell, (hb2.ext hx3).cell, hb3.cell]
  refine ret_bind' (Ext.refl w3) (hv w3 hx) fun w4 hx4 => ?_
  cases c1 : askedE e p x != 0
  · have e0 : askedE e p x = 0 := by simpa using c1
    have he0 : e = 0 := by
      unfold askedE at e0
      split at e0
      · assumption
      · assumption
    have hid : idealI p x = true := by
      unfold askedE at e0
      rw [if_pos he0] at e0
      split at e0
      · assumption
      · cases e0
    have hsh := hok he0
    have hx0 : 0 ≤ x ∧ x.toNat < 2 ^ p.steps.length := by
      simp only [idealI, idealB, Bool.and_eq_true, decide_eq_true_eq] at hid
      exact ⟨hid.1, hid.2.1⟩
    obtain ⟨y, rfl⟩ := Int.eq_ofNat_of_zero_le hx0.1
    have hy : y < 4096 := Nat.lt_of_lt_of_le hx0.2 (two_pow_le hsh.small)
    simp only [↓X, ↓Y, V, U, Z, ↓Q, Tsl, Tarr, Ttk, Tfl, Tint, Tbool, Tbld, Tze, Tzel, Tcall, ↓reduceIte, Nat.reduceEqDiff, Nat.reduceAdd, Nat.add_zero, Nat.zero_add, Int.toNat_natCast, Int.natCast_nonneg, true_and, and_true, and_self, List.nil_append, List.cons_append, U2, List.getElem?_cons_zero, List.getElem?_cons_succ, List.append_nil, List.length_map, Bool.not_true, Bool.not_false, decide_true, decide_false, eq_self, ne_eq, not_false_eq_true, Int.reduceLT, Int.reduceLE, Int.reduceNeg, nat_lt0, now w4, intV, c1, (hb3.ext hx4).cell]
    have hx04 := hx.trans hx4
    refine CallsV.mono (planEnabled (Nat.le_trans hB hx04.size) (hp.ext hx04 hB) hsh hy) fun v w5 ⟨hx5, hown⟩ => ?_
    simp only [↓X, ↓Y, V, U, Z, ↓Q, Tsl, Tarr, Ttk, Tfl, Tint, Tbool, Tbld, Tze, Tzel, Tcall, ↓reduceIte, Nat.reduceEqDiff, Nat.reduceAdd, Nat.add_zero, Nat.zero_add, Int.toNat_natCast, Int.natCast_nonneg, true_and, and_true, and_self, List.nil_append, List.cons_append, U2, List.getElem?_cons_zero, List.getElem?_cons_succ, List.append_nil, List.length_map, Bool.not_true, Bool.not_false, decide_true, decide_false, eq_self, ne_eq, not_false_eq_true, Int.reduceLT, Int.reduceLE, Int.reduceNeg, nat_lt0, now w5]
    rw [e0]
    exact ⟨hx04.trans hx5, v, rfl, by simpa using hown.more hx04.size⟩
  · simp only [↓X, ↓Y, V, U, Z, ↓Q, Tsl, Tarr, Ttk, Tfl, Tint, Tbool, Tbld, Tze, Tzel, Tcall, ↓reduceIte, Nat.reduceEqDiff, Nat.reduceAdd, Nat.add_zero, Nat.zero_add, Int.toNat_natCast, Int.natCast_nonneg, true_and, and_true, and_self, List.nil_append, List.cons_append, U2, List.getElem?_cons_zero, List.getElem?_cons_succ, List.append_nil, List.length_map, Bool.not_true, Bool.not_false, decide_true, decide_false, eq_self, ne_eq, not_false_eq_true, Int.reduceLT, Int.reduceLE, Int.reduceNeg, nat_lt0, now w4, intV, c1]
    have e0 : askedE e p x ≠ 0 := by simpa using c1
    rw [if_neg e0]
    exact ⟨hx.trans hx4, _, rfl, Own.nil _ _ _ _⟩
end
end Go.Proofs.YtgickfllblmhpaaDoor
