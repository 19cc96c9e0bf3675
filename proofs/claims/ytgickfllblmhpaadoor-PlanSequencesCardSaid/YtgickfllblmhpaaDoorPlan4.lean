/- The layer plan: Ideals, Sequence. -/
import Derived.Test.YtgickfllblmhpaaDoorPlan3
namespace Go.Proofs.YtgickfllblmhpaaDoor
set_option linter.unusedSimpArgs false
set_option linter.unusedVariables false
open Go Go.RowKit
set_option maxRecDepth 100000
set_option linter.unusedSectionVars false
set_option maxHeartbeats 1000000
def seqF (p : PlanD) (set : Nat) : Nat → Nat → List Nat
  | 0, _ => []
  | f + 1, done => if done = set then [] else match (enabledL p done).find? fun i => set.testBit i with
    | none => []
    | some i => i :: seqF p set f (done ||| 2 ^ i)
theorem le_of_bits {a b : Nat} (h : ∀ j, a.testBit j = true → b.testBit j = true) : a ≤ b := by
  have : a ||| b = b := by
    apply Nat.eq_of_testBit_eq
    intro j
    rw [Nat.testBit_or]
    cases ha : a.testBit j
    · rfl
    · rw [h j ha]; rfl
  rw [← this]
  exact Nat.left_le_or
/-- An ideal that is not done has a step that can come next. -/
theorem next_some {p : PlanD} (ho : Shape p) (ha : Acyc p) {set done : Nat} (hi : idealB p set = true) (hsub : ∀ j, done.testBit j = true → set.testBit j = true) (hne : done ≠ set) :
    ∃ i, ((enabledL p done).find? fun i => set.testBit i) = some i ∧ i < p.steps.length ∧ set.testBit i = true ∧ done.testBit i = false ∧ openB p done i = true := by
  simp only [idealB, Bool.and_eq_true, decide_eq_true_eq] at hi
  have hT : sub set done < 2 ^ p.steps.length := sub_lt hi.1
  have h0 : sub set done ≠ 0 := by
    intro h
    apply hne
    apply Nat.eq_of_testBit_eq
    intro j
    have hb := testBit_sub set done j
    rw [h, Nat.zero_testBit] at hb
    cases hd : done.testBit j
    · cases hs : set.testBit j
      · rfl
      · rw [hd, hs] at hb; cases hb
    · exact (hsub j hd).symm
  obtain ⟨i, h1, hin, h2⟩ := ha _ hT h0
  rw [testBit_sub, Bool.and_eq_true, Bool.not_eq_true'] at h1
  have hop : openB p done i = true := by
    have h3 := hi.2 i hin h1.1
    simp only [openB, List.all_eq_true] at h3 ⊢
    intro k hk
    have h4 := h2 k hk
    rw [testBit_sub, h3 k hk, Bool.true_and, Bool.not_eq_false'] at h4
    exact h4
  cases hf : (enabledL p done).find? fun i => set.testBit i with
  | none =>
    rw [List.find?_eq_none] at hf
    exact absurd h1.1 (hf i (by simp [enabledL, hin, h1.2, hop]))
  | some q =>
    have hm := List.mem_of_find?_eq_some hf
    have hq := List.find?_some hf
    simp only [enabledL, List.mem_filter, List.mem_range, Bool.and_eq_true, Bool.not_eq_true'] at hm
    exact ⟨q, rfl, hm.1, hq, hm.2.1, hm.2.2⟩
section
variable {w : World} {B : Nat} {u : SiteVs} {s : SiteD} {wv sv av : Value} {vs : List Value} {l : List SrvV} {p : PlanD} (hT : TabW w) (hB : B ≤ w.heap.size) (hs : SiteR w B u s) (hl : WishR w B wv l) (hp : PlanR w B sv av vs p)
include hT hB hs hl hp
theorem planIdeals {e : Int} (he : planErr s (l.map (·.x)) p = e) : CallsV Tryd.prog 7 #[.agg (siteC u s).toArray, .agg #[wv], .agg #[sv, av]] w fun r w' => Ext w w' ∧ ∃ v, r = .tuple #[v, intV e] ∧
    Own w' w.heap.size 3 1 v ((if e = 0 then idealsL p else []).map natC) := by
  have hv := fun w' hx => planValid (w := w') (hT.ext hx) (Nat.le_trans hB (Ext.size hx)) (hs.ext hx hB) (hl.ext hx hB) (hp.ext hx hB)
  have hok := fun h => (planErr_ok (s := s) (wl := l.map (·.x)) (p := p) h).1
  rw [he] at hv hok
  refine callsV_of Tryd.func7 rfl (by kernel_rfl) (by kernel_rfl) ?_
  rw [Tryd.results7]
  simp only [↓X, ↓Y, V, U, Z, ↓Q, Tsl, Tarr, Ttk, Tfl, Tint, Tbool, Tbld, Tze, Tzel, Tcall, ↓reduceIte, Nat.reduceEqDiff, Nat.reduceAdd, Nat.add_zero, Nat.zero_add, Int.toNat_natCast, Int.natCast_nonneg, true_and, and_true, and_self, List.nil_append, List.cons_append, U2, List.getElem?_cons_zero, List.getElem?_cons_succ, List.append_nil, List.length_map, Bool.not_true, Bool.not_false, decide_true, decide_false, eq_self, ne_eq, not_false_eq_true, Int.reduceLT, Int.reduceLE, Int.reduceNeg, nat_lt0, now w, siteC]
  refine alloc_intro fun b1 w1 hb1 hx1 _ => ?_
  simp only [↓X, ↓Y, V, U, Z, ↓Q, Tsl, Tarr, Ttk, Tfl, Tint, Tbool, Tbld, Tze, Tzel, Tcall, ↓reduceIte, Nat.reduceEqDiff, Nat.reduceAdd, Nat.add_zero, Nat.zero_add, Int.toNat_natCast, Int.natCast_nonneg, true_and, and_true, and_self, List.nil_append, List.cons_append, U2, List.getElem?_cons_zero, List.getElem?_cons_succ, List.append_nil, List.length_map, Bool.not_true, Bool.not_false, decide_true, decide_false, eq_self, ne_eq, not_false_eq_true, Int.reduceLT, Int.reduceLE, Int.reduceNeg, nat_lt0, now w1]
  refine alloc_intro fun b2 w2 hb2 hx2 _ => ?_
  simp only [↓X, ↓Y, V, U, Z, ↓Q, Tsl, Tarr, Ttk, Tfl, Tint, Tbool, Tbld, Tze, Tzel, Tcall, ↓reduceIte, Nat.reduceEqDiff, Nat.reduceAdd, Nat.add_zero, Nat.zero_add, Int.toNat_natCast, Int.natCast_nonneg, true_and, and_true, and_self, List.nil_append, List.cons_append, U2, List.getElem?_cons_zero, List.getElem?_cons_succ, List.append_nil, List.length_map, Bool.not_true, Bool.not_false, decide_true, decide_false, eq_self, ne_eq, not_false_eq_true, Int.reduceLT, Int.reduceLE, Int.reduceNeg, nat_lt0, now w2]
  refine alloc_intro fun b3 w3 hb3 hx3 _ => ?_
  have hx := hx1.trans (hx2.trans hx3)
  simp only [↓X, ↓Y, V, U, Z, ↓Q, Tsl, Tarr, Ttk, Tfl, Tint, Tbool, Tbld, Tze, Tzel, Tcall, ↓reduceIte, Nat.reduceEqDiff, Nat.reduceAdd, Nat.add_zero, Nat.zero_add, Int.toNat_natCast, Int.natCast_nonneg, true_and, and_true, and_self, List.nil_append, List.cons_append, U2, List.getElem?_cons_zero, List.getElem?_cons_succ, List.append_nil, List.length_map, Bool.not_true, Bool.not_false, decide_true, decide_false, eq_self, ne_eq, not_false_eq_true, Int.reduceLT, Int.reduceLE, Int.reduceNeg, nat_lt0, now w3, (hb1.ext (hx2.trans hx3)).cell, (hb2.ext hx3).cell, hb3.cell]
  refine ret_bind' (Ext.refl w3) (hv w3 hx) fun w4 hx4 => ?_
  have hx04 := hx.trans hx4
  have hb3 := hb3.ext hx4
  cases c1 : e != 0
  · have e0 : e = 0 := by simpa using c1
    have hsh := hok e0
    have hsm := hsh.small
    have h2 := two_pow_le hsm
    have hsh' := shlI_nat (k := p.steps.length) (by omega)
    simp only [↓X, ↓Y, V, U, Z, ↓Q, Tsl, Tarr, Ttk, Tfl, Tint, Tbool, Tbld, Tze, Tzel, Tcall, ↓reduceIte, Nat.reduceEqDiff, Nat.reduceAdd, Nat.add_zero, Nat.zero_add, Int.toNat_natCast, Int.natCast_nonneg, true_and, and_true, and_self, List.nil_append, List.cons_append, U2, List.getElem?_cons_zero, List.getElem?_cons_succ, List.append_nil, List.length_map, Bool.not_true, Bool.not_false, decide_true, decide_false, eq_self, ne_eq, not_false_eq_true, Int.reduceLT, Int.reduceLE, Int.reduceNeg, nat_lt0, now w4, intV, c1, hb3.cell, hp.s.len_, hsh']
    refine loopX_intro (fun m g w' => ∃ (k : Nat) (v : Value), k + m = 2 ^ p.steps.length ∧ g 22 = .int .i64 k ∧ g 21 = .int .i64 ((2 ^ p.steps.length : Nat) : Int) ∧ g 5 = .pointer (some ⟨b3, 0, none⟩) ∧ g 9 = v ∧ Own w' w.heap.size 3 1 v (((List.range k).filter (idealB p)).map natC) ∧ Blk w' b3 36 [sv, av] ∧ Ext w w') (2 ^ p.steps.length) (by kernel_rfl) ?_ ?_
    · refine ⟨0, .slice none 0 0, by omega, ?_⟩
      simp only [↓X, ↓Y, V, U, Z, ↓Q, Tsl, Tarr, Ttk, Tfl, Tint, Tbool, Tbld, Tze, Tzel, Tcall, ↓reduceIte, Nat.reduceEqDiff, Nat.reduceAdd, Nat.add_zero, Nat.zero_add, Int.toNat_natCast, Int.natCast_nonneg, true_and, and_true, and_self, List.nil_append, List.cons_append, U2, List.getElem?_cons_zero, List.getElem?_cons_succ, List.append_nil, List.length_map, Bool.not_true, Bool.not_false, decide_true, decide_false, eq_self, ne_eq, not_false_eq_true, Int.reduceLT, Int.reduceLE, Int.reduceNeg, nat_lt0]
      (repeat' apply And.intro) <;> first | rfl | assumption | exact Own.nil _ _ _ _
    · rintro m g w5 ⟨k, v, hk, h22, h21, h5, h9, hown, hb3, hx5⟩
      by_cases hlt : k < 2 ^ p.steps.length
      · have hlen : ((List.range k).filter (idealB p)).length ≤ k := by have := List.length_filter_le (idealB p) (List.range k); simpa using this
        have hfil : ((List.range (k + 1)).filter (idealB p)) = ((List.range k).filter (idealB p)) ++ if idealB p k = true then [k] else [] := by
          rw [List.range_succ, List.filter_append]
          congr 1
          rw [List.filter_cons]
          split <;> simp_all
        have hii : idealI p (k : Int) = idealB p k := by simp [idealI]
        simp only [↓X, ↓Y, V, U, Z, ↓Q, Tsl, Tarr, Ttk, Tfl, Tint, Tbool, Tbld, Tze, Tzel, Tcall, ↓reduceIte, Nat.reduceEqDiff, Nat.reduceAdd, Nat.add_zero, Nat.zero_add, Int.toNat_natCast, Int.natCast_nonneg, true_and, and_true, and_self, List.nil_append, List.cons_append, U2, List.getElem?_cons_zero, List.getElem?_cons_succ, List.append_nil, List.length_map, Bool.not_true, Bool.not_false, decide_true, decide_false, eq_self, ne_eq, not_false_eq_true, Int.reduceLT, Int.reduceLE, Int.reduceNeg, nat_lt0, now w5, h22, h21, h5, Int.ofNat_lt, hlt, hb3.cell]
        refine ret_bind' (Ext.refl w5) (planIdeal (x := k) (Nat.le_trans hB hx5.size) (hp.ext hx5 hB) hsh) fun w6 hx6 => ?_
        rw [hii]
        cases c2 : idealB p k
        · simp only [↓X, ↓Y, V, U, Z, ↓Q, Tsl, Tarr, Ttk, Tfl, Tint, Tbool, Tbld, Tze, Tzel, Tcall, ↓reduceIte, Nat.reduceEqDiff, Nat.reduceAdd, Nat.add_zero, Nat.zero_add, Int.toNat_natCast, Int.natCast_nonneg, true_and, and_true, and_self, List.nil_append, List.cons_append, U2, List.getElem?_cons_zero, List.getElem?_cons_succ, List.append_nil, List.length_map, Bool.not_true, Bool.not_false, decide_true, decide_false, eq_self, ne_eq, not_false_eq_true, Int.reduceLT, Int.reduceLE, Int.reduceNeg, nat_lt0, now w6, h22, h21, h5, h9]
          refine ⟨m - 1, by omega, k + 1, v, ?_⟩
          rw [hfil, c2]
          (repeat' apply And.intro) <;> first | rfl | assumption | omega | rw [wrap_succ hlt (by omega)] | simpa using hown.ext hx6 | exact hb3.ext hx6 | exact hx5.trans hx6
        · simp only [↓X, ↓Y, V, U, Z, ↓Q, Tsl, Tarr, Ttk, Tfl, Tint, Tbool, Tbld, Tze, Tzel, Tcall, ↓reduceIte, Nat.reduceEqDiff, Nat.reduceAdd, Nat.add_zero, Nat.zero_add, Int.toNat_natCast, Int.natCast_nonneg, true_and, and_true, and_self, List.nil_append, List.cons_append, U2, List.getElem?_cons_zero, List.getElem?_cons_succ, List.append_nil, List.length_map, Bool.not_true, Bool.not_false, decide_true, decide_false, eq_self, ne_eq, not_false_eq_true, Int.reduceLT, Int.reduceLE, Int.reduceNeg, nat_lt0, now w6, h9, h22, h21, h5, idxOk, flatP, cellsL, List.length_cons, List.length_nil, Nat.reduceMul, Nat.reduceLeDiff, Nat.reduceLT]
          refine row_intro fun b7 w7 hb7 hx7 _ => ?_
          simp only [↓X, ↓Y, V, U, Z, ↓Q, Tsl, Tarr, Ttk, Tfl, Tint, Tbool, Tbld, Tze, Tzel, Tcall, ↓reduceIte, Nat.reduceEqDiff, Nat.reduceAdd, Nat.add_zero, Nat.zero_add, Int.toNat_natCast, Int.natCast_nonneg, true_and, and_true, and_self, List.nil_append, List.cons_append, U2, List.getElem?_cons_zero, List.getElem?_cons_succ, List.append_nil, List.length_map, Bool.not_true, Bool.not_false, decide_true, decide_false, eq_self, ne_eq, not_false_eq_true, Int.reduceLT, Int.reduceLE, Int.reduceNeg, nat_lt0, now w7, h9]
          have hx07 := hx5.trans (hx6.trans hx7)
          refine append_int (x := k) (hown.ext (hx6.trans hx7)) hb7 rfl (by simp [natC, intV, one_int]) (by omega) hx07.size fun v' w8 hown' hgr hbl _ => ?_
          have hb3' := grown_blk hgr (hb3.ext (hx6.trans hx7)) ((hown.ext (hx6.trans hx7)).ne (hb3.ext (hx6.trans hx7)) (by decide))
          simp only [↓X, ↓Y, V, U, Z, ↓Q, Tsl, Tarr, Ttk, Tfl, Tint, Tbool, Tbld, Tze, Tzel, Tcall, ↓reduceIte, Nat.reduceEqDiff, Nat.reduceAdd, Nat.add_zero, Nat.zero_add, Int.toNat_natCast, Int.natCast_nonneg, true_and, and_true, and_self, List.nil_append, List.cons_append, U2, List.getElem?_cons_zero, List.getElem?_cons_succ, List.append_nil, List.length_map, Bool.not_true, Bool.not_false, decide_true, decide_false, eq_self, ne_eq, not_false_eq_true, Int.reduceLT, Int.reduceLE, Int.reduceNeg, nat_lt0, now w8, h22, h21, h5]
          refine ⟨m - 1, by omega, k + 1, v', ?_⟩
          rw [hfil, c2]
          (repeat' apply And.intro) <;> first | rfl | assumption | omega | rw [wrap_succ hlt (by omega)] | exact hx07.trans' hbl | simpa using hown'
      · simp only [↓X, ↓Y, V, U, Z, ↓Q, Tsl, Tarr, Ttk, Tfl, Tint, Tbool, Tbld, Tze, Tzel, Tcall, ↓reduceIte, Nat.reduceEqDiff, Nat.reduceAdd, Nat.add_zero, Nat.zero_add, Int.toNat_natCast, Int.natCast_nonneg, true_and, and_true, and_self, List.nil_append, List.cons_append, U2, List.getElem?_cons_zero, List.getElem?_cons_succ, List.append_nil, List.length_map, Bool.not_true, Bool.not_false, decide_true, decide_false, eq_self, ne_eq, not_false_eq_true, Int.reduceLT, Int.reduceLE, Int.reduceNeg, nat_lt0, now w5, h22, h21, h9, Int.ofNat_lt, hlt]
        have hk' : k = 2 ^ p.steps.length := by omega
        subst hk'
        rw [e0]
        exact ⟨hx5, v, rfl, by simpa [idealsL] using hown⟩
  · simp only [↓X, ↓Y, V, U, Z, ↓Q, Tsl, Tarr, Ttk, Tfl, Tint, Tbool, Tbld, Tze, Tzel, Tcall, ↓reduceIte, Nat.reduceEqDiff, Nat.reduceAdd, Nat.add_zero, Nat.zero_add, Int.toNat_natCast, Int.natCast_nonneg, true_and, and_true, and_self, List.nil_append, List.cons_append, U2, List.getElem?_cons_zero, List.getElem?_cons_succ, List.append_nil, List.length_map, Bool.not_true, Bool.not_false, decide_true, decide_false, eq_self, ne_eq, not_false_eq_true, Int.reduceLT, Int.reduceLE, Int.reduceNeg, nat_lt0, now w4, intV, c1]
    have e0 : e ≠ 0 := by simpa using c1
    rw [if_neg e0]
    exact ⟨hx04, _, rfl, Own.nil _ _ _ _⟩
omit hT hB hs hl hp in
theorem planSequence1 {w : World} {b set k : Nat} (hk1 : k < 62) (hs : set < 4096) (hb : Blk w b 3 [natV set]) : Ret Tryd.prog 22 #[natV k, .pointer (some ⟨b, 0, none⟩)] w (.bool (set.testBit k)) := by
  refine callsV_of Tryd.func22 rfl (by kernel_rfl) (by kernel_rfl) ?_
  rw [Tryd.results22]
  have e := bit_eq1 (a := set) (k := k) (by omega) (by omega)
  simp only [↓X, ↓Y, V, U, Z, ↓Q, Tsl, Tarr, Ttk, Tfl, Tint, Tbool, Tbld, Tze, Tzel, Tcall, ↓reduceIte, Nat.reduceEqDiff, Nat.reduceAdd, Nat.add_zero, Nat.zero_add, Int.toNat_natCast, Int.natCast_nonneg, true_and, and_true, and_self, List.nil_append, List.cons_append, U2, List.getElem?_cons_zero, List.getElem?_cons_succ, List.append_nil, List.length_map, Bool.not_true, Bool.not_false, decide_true, decide_false, eq_self, ne_eq, not_false_eq_true, Int.reduceLT, Int.reduceLE, Int.reduceNeg, nat_lt0, now w, hb.cell, natV, intV, e]
  (repeat' apply And.intro) <;> first | rfl | assumption | exact Ext.refl _
theorem planSequence {x e : Int} (he : planErr s (l.map (·.x)) p = e) : CallsV Tryd.prog 8 #[.agg (siteC u s).toArray, .agg #[wv], .agg #[sv, av], intV x] w fun r w' => Ext w w' ∧ ∃ v, r = .tuple #[v, intV (askedE e p x)] ∧
    Own w' w.heap.size 3 1 v ((if askedE e p x = 0 then seqF p x.toNat 4096 0 else []).map natC) := by
  have hv := fun w' hx => planAsked (w := w') (x := x) (hT.ext hx) (Nat.le_trans hB (Ext.size hx)) (hs.ext hx hB) (hl.ext hx hB) (hp.ext hx hB) he
  have hok := fun h => planErr_ok (s := s) (wl := l.map (·.x)) (p := p) h
  rw [he] at hok
  refine callsV_of Tryd.func8 rfl (by kernel_rfl) (by kernel_rfl) ?_
  rw [Tryd.results8]
  simp only [↓X, ↓Y, V, U, Z, ↓Q, Tsl, Tarr, Ttk, Tfl, Tint, Tbool, Tbld, Tze, Tzel, Tcall, ↓reduceIte, Nat.reduceEqDiff, Nat.reduceAdd, Nat.add_zero, Nat.zero_add, Int.toNat_natCast, Int.natCast_nonneg, true_and, and_true, and_self, List.nil_append, List.cons_append, U2, List.getElem?_cons_zero, List.getElem?_cons_succ, List.append_nil, List.length_map, Bool.not_true, Bool.not_false, decide_true, decide_false, eq_self, ne_eq, not_false_eq_true, Int.reduceLT, Int.reduceLE, Int.reduceNeg, nat_lt0, now w, siteC]
  refine alloc_intro fun b1 w1 hb1 hx1 _ => ?_
  simp only [↓X, ↓Y, V, U, Z, ↓Q, Tsl, Tarr, Ttk, Tfl, Tint, Tbool, Tbld, Tze, Tzel, Tcall, ↓reduceIte, Nat.reduceEqDiff, Nat.reduceAdd, Nat.add_zero, Nat.zero_add, Int.toNat_natCast, Int.natCast_nonneg, true_and, and_true, and_self, List.nil_append, List.cons_append, U2, List.getElem?_cons_zero, List.getElem?_cons_succ, List.append_nil, List.length_map, Bool.not_true, Bool.not_false, decide_true, decide_false, eq_self, ne_eq, not_false_eq_true, Int.reduceLT, Int.reduceLE, Int.reduceNeg, nat_lt0, now w1]
  refine alloc_intro fun b2 w2 hb2 hx2 _ => ?_
  simp only [↓X, ↓Y, V, U, Z, ↓Q, Tsl, Tarr, Ttk, Tfl, Tint, Tbool, Tbld, Tze, Tzel, Tcall, ↓reduceIte, Nat.reduceEqDiff, Nat.reduceAdd, Nat.add_zero, Nat.zero_add, Int.toNat_natCast, Int.natCast_nonneg, true_and, and_true, and_self, List.nil_append, List.cons_append, U2, List.getElem?_cons_zero, List.getElem?_cons_succ, List.append_nil, List.length_map, Bool.not_true, Bool.not_false, decide_true, decide_false, eq_self, ne_eq, not_false_eq_true, Int.reduceLT, Int.reduceLE, Int.reduceNeg, nat_lt0, now w2]
  refine alloc_intro fun b3 w3 hb3 hx3 _ => ?_
  simp only [↓X, ↓Y, V, U, Z, ↓Q, Tsl, Tarr, Ttk, Tfl, Tint, Tbool, Tbld, Tze, Tzel, Tcall, ↓reduceIte, Nat.reduceEqDiff, Nat.reduceAdd, Nat.add_zero, Nat.zero_add, Int.toNat_natCast, Int.natCast_nonneg, true_and, and_true, and_self, List.nil_append, List.cons_append, U2, List.getElem?_cons_zero, List.getElem?_cons_succ, List.append_nil, List.length_map, Bool.not_true, Bool.not_false, decide_true, decide_false, eq_self, ne_eq, not_false_eq_true, Int.reduceLT, Int.reduceLE, Int.reduceNeg, nat_lt0, now w3, intV]
  refine alloc_intro fun b4 w4 hb4 hx4 hn4 => ?_
  have hx := hx1.trans (hx2.trans (hx3.trans hx4))
  simp only [↓X, ↓Y, V, U, Z, ↓Q, Tsl, Tarr, Ttk, Tfl, Tint, Tbool, Tbld, Tze, Tzel, Tcall, ↓reduceIte, Nat.reduceEqDiff, Nat.reduceAdd, Nat.add_zero, Nat.zero_add, Int.toNat_natCast, Int.natCast_nonneg, true_and, and_true, and_self, List.nil_append, List.cons_append, U2, List.getElem?_cons_zero, List.getElem?_cons_succ, List.append_nil, List.length_map, Bool.not_true, Bool.not_false, decide_true, decide_false, eq_self, ne_eq, not_false_eq_true, Int.reduceLT, Int.reduceLE, Int.reduceNeg, nat_lt0, now w4, (hb1.ext (hx2.trans (hx3.trans hx4))).cell, (hb2.ext (hx3.trans hx4)).cell, (hb3.ext hx4).cell, hb4.cell]
  refine ret_bind' (Ext.refl w4) (hv w4 hx) fun w5 hx5 => ?_
  have hx05 := hx.trans hx5
  have hb3 := hb3.ext (hx4.trans hx5)
  have hb4 := hb4.ext hx5
  have hb4l := hb4.lt
  cases c1 : askedE e p x != 0
  · have e0 : askedE e p x = 0 := by simpa using c1
    have he0 : e = 0 := by
      unfold askedE at e0
      split at e0
      · assumption
      · assumption
    have hid : idealI p x = true := by
      unfold askedE at e0
      rw [if_pos he0] at e0
      split at e0
      · assumption
      · cases e0
    obtain ⟨hsh, hac⟩ := hok he0
    simp only [idealI, Bool.and_eq_true, decide_eq_true_eq] at hid
    obtain ⟨set, rfl⟩ := Int.eq_ofNat_of_zero_le hid.1
    have hib : idealB p set = true := hid.2
    have hlt2 : set < 2 ^ p.steps.length := by simp only [idealB, Bool.and_eq_true, decide_eq_true_eq] at hib; exact hib.1
    have hsm := hsh.small
    have h2 := two_pow_le hsm
    simp only [↓X, ↓Y, V, U, Z, ↓Q, Tsl, Tarr, Ttk, Tfl, Tint, Tbool, Tbld, Tze, Tzel, Tcall, ↓reduceIte, Nat.reduceEqDiff, Nat.reduceAdd, Nat.add_zero, Nat.zero_add, Int.toNat_natCast, Int.natCast_nonneg, true_and, and_true, and_self, List.nil_append, List.cons_append, U2, List.getElem?_cons_zero, List.getElem?_cons_succ, List.append_nil, List.length_map, Bool.not_true, Bool.not_false, decide_true, decide_false, eq_self, ne_eq, not_false_eq_true, Int.reduceLT, Int.reduceLE, Int.reduceNeg, nat_lt0, now w5, intV, c1]
    refine loopX_intro (fun m g w' => ∃ (f done : Nat) (out : List Nat) (v : Value), m + done = set ∧ set ≤ f + done ∧ out.length + f = 4096 ∧ (∀ j, done.testBit j = true → set.testBit j = true) ∧ g 12 = .int .i64 done ∧ g 7 = .pointer (some ⟨b4, 0, none⟩) ∧ g 6 = .pointer (some ⟨b3, 0, none⟩) ∧ g 11 = v ∧
      out ++ seqF p set f done = seqF p set 4096 0 ∧ Own w' w5.heap.size 3 1 v (out.map natC) ∧ Blk w' b3 36 [sv, av] ∧ Blk w' b4 3 [natV set] ∧ Ext w5 w') set (by kernel_rfl) ?_ ?_
    · refine ⟨4096, 0, [], .slice none 0 0, by omega, ?_⟩
      simp only [↓X, ↓Y, V, U, Z, ↓Q, Tsl, Tarr, Ttk, Tfl, Tint, Tbool, Tbld, Tze, Tzel, Tcall, ↓reduceIte, Nat.reduceEqDiff, Nat.reduceAdd, Nat.add_zero, Nat.zero_add, Int.toNat_natCast, Int.natCast_nonneg, true_and, and_true, and_self, List.nil_append, List.cons_append, U2, List.getElem?_cons_zero, List.getElem?_cons_succ, List.append_nil, List.length_map, Bool.not_true, Bool.not_false, decide_true, decide_false, eq_self, ne_eq, not_false_eq_true, Int.reduceLT, Int.reduceLE, Int.reduceNeg, nat_lt0]
      (repeat' apply And.intro) <;> first | rfl | assumption | omega | exact Ext.refl _ | (simp; done) | exact Own.nil _ _ _ _ | exact hb4 | (intro j hj; rw [Nat.zero_testBit] at hj; cases hj)
    · rintro m g w6 ⟨f, done, out, v, hm, hf, hof, hsub, h12, h7, h6, h11, hseq, hown, hb3, hb4, hx56⟩
      have hx6 := hx05.trans hx56
      cases c2 : (done : Int) != (set : Int)
      · have hd : done = set := by have : (done : Int) = set := (by simpa using c2); omega
        have hnil : seqF p set f done = [] := by
          cases f with
          | zero => rfl
          | succ f => rw [seqF, if_pos hd]
        rw [hnil, List.append_nil] at hseq
        simp only [↓X, ↓Y, V, U, Z, ↓Q, Tsl, Tarr, Ttk, Tfl, Tint, Tbool, Tbld, Tze, Tzel, Tcall, ↓reduceIte, Nat.reduceEqDiff, Nat.reduceAdd, Nat.add_zero, Nat.zero_add, Int.toNat_natCast, Int.natCast_nonneg, true_and, and_true, and_self, List.nil_append, List.cons_append, U2, List.getElem?_cons_zero, List.getElem?_cons_succ, List.append_nil, List.length_map, Bool.not_true, Bool.not_false, decide_true, decide_false, eq_self, ne_eq, not_false_eq_true, Int.reduceLT, Int.reduceLE, Int.reduceNeg, nat_lt0, now w6, h12, h7, hb4.cell, natV, intV, c2, h11]
        rw [e0, if_pos rfl]
        rw [← hseq]
        exact ⟨hx6, v, rfl, hown.more hx05.size⟩
      · have hd : done ≠ set := by have : ¬ (done : Int) = set := (by simpa using c2); omega
        have hdle := le_of_bits hsub
        obtain ⟨f', rfl⟩ : ∃ f', f = f' + 1 := ⟨f - 1, by omega⟩
        obtain ⟨q, hq, hqn, hqs, hqd, _⟩ := next_some hsh hac hib hsub hd
        rw [seqF, if_neg hd, hq] at hseq
        simp only at hseq
        simp only [↓X, ↓Y, V, U, Z, ↓Q, Tsl, Tarr, Ttk, Tfl, Tint, Tbool, Tbld, Tze, Tzel, Tcall, ↓reduceIte, Nat.reduceEqDiff, Nat.reduceAdd, Nat.add_zero, Nat.zero_add, Int.toNat_natCast, Int.natCast_nonneg, true_and, and_true, and_self, List.nil_append, List.cons_append, U2, List.getElem?_cons_zero, List.getElem?_cons_succ, List.append_nil, List.length_map, Bool.not_true, Bool.not_false, decide_true, decide_false, eq_self, ne_eq, not_false_eq_true, Int.reduceLT, Int.reduceLE, Int.reduceNeg, nat_lt0, now w6, h12, h7, h6, hb4.cell, hb3.cell, natV, intV, c2]
        refine CallsV.mono (planEnabled (Nat.le_trans hB hx6.size) (hp.ext hx6 hB) hsh (set := done) (by omega)) fun vn w7 ⟨hx7, hown7⟩ => ?_
        have hb4' := hb4.ext hx7
        have hsl := hown7.sl1 (f := natV)
        simp only [↓X, ↓Y, V, U, Z, ↓Q, Tsl, Tarr, Ttk, Tfl, Tint, Tbool, Tbld, Tze, Tzel, Tcall, ↓reduceIte, Nat.reduceEqDiff, Nat.reduceAdd, Nat.add_zero, Nat.zero_add, Int.toNat_natCast, Int.natCast_nonneg, true_and, and_true, and_self, List.nil_append, List.cons_append, U2, List.getElem?_cons_zero, List.getElem?_cons_succ, List.append_nil, List.length_map, Bool.not_true, Bool.not_false, decide_true, decide_false, eq_self, ne_eq, not_false_eq_true, Int.reduceLT, Int.reduceLE, Int.reduceNeg, nat_lt0, now w7, h7]
        have hcal : callable Tryd.prog 22 = true := by kernel_rfl
        have hst : ∀ k ∈ enabledL p done, ∀ w', Ext w7 w' → Ret Tryd.prog 22 (natV k :: [.pointer (some ⟨b4, 0, none⟩)]).toArray w' (.bool (set.testBit k)) := fun k hk w' hx' =>
          planSequence1 (by have := (List.mem_filter.1 hk).1; have := List.mem_range.1 this; omega) (by omega) (hb4'.ext hx')
        refine ret_bind' (Ext.refl w7) (indexFunc_int (Nat.le_refl _) hsl hcal hst) fun w8 hx8 => ?_
        rcases fidx_cases (fun k : Nat => set.testBit k) (enabledL p done) with ⟨_, h2⟩ | ⟨i, hi, h1, h2⟩
        · rw [hq] at h2; cases h2
        · rw [hq] at h2
          have hqi : (enabledL p done)[i] = q := (Option.some.inj h2).symm
          have hat := (hsl.ext hx8 (Nat.le_refl _)).at_ i hi
          rw [hqi] at hat
          rw [h1]
          have hshq := shlI_nat (k := q) (by omega)
          have hp1 : 2 ^ q < 2 ^ p.steps.length := Nat.pow_lt_pow_right (by decide) hqn
          have horq : orI .i64 (done : Int) ((2 ^ q : Nat) : Int) = ((done ||| 2 ^ q : Nat) : Int) := orI_nat (by omega) (by omega)
          simp only [↓X, ↓Y, V, U, Z, ↓Q, Tsl, Tarr, Ttk, Tfl, Tint, Tbool, Tbld, Tze, Tzel, Tcall, ↓reduceIte, Nat.reduceEqDiff, Nat.reduceAdd, Nat.add_zero, Nat.zero_add, Int.toNat_natCast, Int.natCast_nonneg, true_and, and_true, and_self, List.nil_append, List.cons_append, U2, List.getElem?_cons_zero, List.getElem?_cons_succ, List.append_nil, List.length_map, Bool.not_true, Bool.not_false, decide_true, decide_false, eq_self, ne_eq, not_false_eq_true, Int.reduceLT, Int.reduceLE, Int.reduceNeg, nat_lt0, now w8, h11, Int.ofNat_lt, hi, hsl.len_, hat, natV, intV, idxOk, flatP, cellsL, List.length_cons, List.length_nil, Nat.reduceMul, Nat.reduceLeDiff, Nat.reduceLT]
          refine row_intro fun b9 w9 hb9 hx9 _ => ?_
          have hx69 := hx7.trans (hx8.trans hx9)
          simp only [↓X, ↓Y, V, U, Z, ↓Q, Tsl, Tarr, Ttk, Tfl, Tint, Tbool, Tbld, Tze, Tzel, Tcall, ↓reduceIte, Nat.reduceEqDiff, Nat.reduceAdd, Nat.add_zero, Nat.zero_add, Int.toNat_natCast, Int.natCast_nonneg, true_and, and_true, and_self, List.nil_append, List.cons_append, U2, List.getElem?_cons_zero, List.getElem?_cons_succ, List.append_nil, List.length_map, Bool.not_true, Bool.not_false, decide_true, decide_false, eq_self, ne_eq, not_false_eq_true, Int.reduceLT, Int.reduceLE, Int.reduceNeg, nat_lt0, now w9, h11]
          refine append_int (x := q) (hown.ext hx69) hb9 rfl (by simp [natC, intV, one_int]) (by omega) (hx56.trans hx69).size fun v' w10 hown' hgr hbl _ => ?_
          have hb3' := grown_blk hgr (hb3.ext hx69) ((hown.ext hx69).ne (hb3.ext hx69) (by decide))
          have hb4'' := grown_blk hgr (hb4.ext hx69) (fun he => by have h1 := (hown.lt b4 he).1; have h2 := hb4l; omega)
          have hn9 := hown7.ext (hx8.trans hx9)
          have hn10 := hn9.keep (w' := w10) fun b hb => hgr.block b (hn9.lt b hb).2 fun he => by
            have h1 := (hown.lt b he.symm).2
            have h2 := (hown7.lt b hb).1
            omega
          have hat' := (hn10.sl1 (f := natV)).at_ i hi
          rw [hqi] at hat'
          simp only [↓X, ↓Y, V, U, Z, ↓Q, Tsl, Tarr, Ttk, Tfl, Tint, Tbool, Tbld, Tze, Tzel, Tcall, ↓reduceIte, Nat.reduceEqDiff, Nat.reduceAdd, Nat.add_zero, Nat.zero_add, Int.toNat_natCast, Int.natCast_nonneg, true_and, and_true, and_self, List.nil_append, List.cons_append, U2, List.getElem?_cons_zero, List.getElem?_cons_succ, List.append_nil, List.length_map, Bool.not_true, Bool.not_false, decide_true, decide_false, eq_self, ne_eq, not_false_eq_true, Int.reduceLT, Int.reduceLE, Int.reduceNeg, nat_lt0, now w10, h12, Int.ofNat_lt, hi, hsl.len_, hat', natV, intV, hshq, horq, h7, h6]
          have hgt : done < done ||| 2 ^ q := by
            refine Nat.lt_of_le_of_ne Nat.left_le_or fun he => ?_
            have := congrArg (fun x => x.testBit q) he
            simp only [Nat.testBit_or, hqd, Nat.testBit_two_pow_self, Bool.or_true] at this
            cases this
          have hsub' : ∀ j, (done ||| 2 ^ q).testBit j = true → set.testBit j = true := by
            intro j hj
            rw [Nat.testBit_or, Nat.testBit_two_pow] at hj
            rcases Bool.or_eq_true _ _ ▸ hj with h | h
            · exact hsub j h
            · have : q = j := by simpa using h
              rw [← this]; exact hqs
          have hle' := le_of_bits hsub'
          refine ⟨set - (done ||| 2 ^ q), by omega, f', done ||| 2 ^ q, out ++ [q], v', ?_⟩
          (repeat' apply And.intro) <;> first | rfl | assumption | omega | (simp; omega) | (rw [← hseq]; simp; done) | exact (hx56.trans hx69).trans' hbl
  · simp only [↓X, ↓Y, V, U, Z, ↓Q, Tsl, Tarr, Ttk, Tfl, Tint, Tbool, Tbld, Tze, Tzel, Tcall, ↓reduceIte, Nat.reduceEqDiff, Nat.reduceAdd, Nat.add_zero, Nat.zero_add, Int.toNat_natCast, Int.natCast_nonneg, true_and, and_true, and_self, List.nil_append, List.cons_append, U2, List.getElem?_cons_zero, List.getElem?_cons_succ, List.append_nil, List.length_map, Bool.not_true, Bool.not_false, decide_true, decide_false, eq_self, ne_eq, not_false_eq_true, Int.reduceLT, Int.reduceLE, Int.reduceNeg, nat_lt0, now w5, intV, c1]
    have e0 : askedE e p x ≠ 0 := by simpa using c1
    rw [if_neg e0]
    exact ⟨hx05, _, rfl, Own.nil _ _ _ _⟩
end
end Go.Proofs.YtgickfllblmhpaaDoor
