/- The layer plan: open, ideal, enabled. -/
import Derived.Test.YtgickfllblmhpaaDoorPlan
namespace Go.Proofs.YtgickfllblmhpaaDoor
set_option linter.unusedSimpArgs false
set_option linter.unusedVariables false
open Go Go.RowKit
set_option maxRecDepth 100000
set_option linter.unusedSectionVars false
/-- A plan whose shape is right. -/
structure Shape (p : PlanD) : Prop where
  len : p.after.length = p.steps.length
  small : p.steps.length ≤ 12
  range : ∀ l ∈ p.after, ∀ k ∈ l, 0 ≤ k ∧ k < (p.steps.length : Int)
def openB (p : PlanD) (set i : Nat) : Bool := (p.after.getD i []).all fun k => set.testBit k.toNat
def idealB (p : PlanD) (set : Nat) : Bool := decide (set < 2 ^ p.steps.length) && decide (∀ i, i < p.steps.length → set.testBit i = true → openB p set i = true)
def idealI (p : PlanD) (x : Int) : Bool := decide (0 ≤ x) && idealB p x.toNat
def enabledL (p : PlanD) (set : Nat) : List Nat := (List.range p.steps.length).filter fun i => !set.testBit i && openB p set i
section
variable {w : World} {B : Nat} {sv av : Value} {vs : List Value} {p : PlanD} (hB : B ≤ w.heap.size) (hp : PlanR w B sv av vs p) (ho : Shape p)
include hB hp ho
omit hB hp ho in
theorem planOpen1 {w : World} {b set : Nat} {k : Int} (hk0 : 0 ≤ k) (hk1 : k < 62) (hs : set < 4096) (hb : Blk w b 3 [natV set]) : Ret Tryd.prog 58 #[intV k, .pointer (some ⟨b, 0, none⟩)] w (.bool (!set.testBit k.toNat)) := by
  refine callsV_of Tryd.func58 rfl (by kernel_rfl) (by kernel_rfl) ?_
  rw [Tryd.results58]
  obtain ⟨y, rfl⟩ := Int.eq_ofNat_of_zero_le hk0
  have e := bit_eq0 (a := set) (k := y) (by omega) (by omega)
  simp only [↓X, ↓Y, V, U, Z, ↓Q, Tsl, Tarr, Ttk, Tfl, Tint, Tbool, Tbld, Tze, Tzel, Tcall, ↓reduceIte, Nat.reduceEqDiff, Nat.reduceAdd, Nat.add_zero, Nat.zero_add, Int.toNat_natCast, Int.natCast_nonneg, true_and, and_true, and_self, List.nil_append, List.cons_append, U2, List.getElem?_cons_zero, List.getElem?_cons_succ, List.append_nil, List.length_map, Bool.not_true, Bool.not_false, decide_true, decide_false, eq_self, ne_eq, not_false_eq_true, Int.reduceLT, Int.reduceLE, Int.reduceNeg, nat_lt0, now w, hb.cell, natV, intV, e]
  (repeat' apply And.intro) <;> first | rfl | assumption | exact Ext.refl _
theorem planOpen {set i : Nat} (hs : set < 4096) (hi : i < p.steps.length) : Ret Tryd.prog 29 #[.agg #[sv, av], natV set, natV i] w (.bool (openB p set i)) := by
  refine callsV_of Tryd.func29 rfl (by kernel_rfl) (by kernel_rfl) ?_
  rw [Tryd.results29]
  simp only [↓X, ↓Y, V, U, Z, ↓Q, Tsl, Tarr, Ttk, Tfl, Tint, Tbool, Tbld, Tze, Tzel, Tcall, ↓reduceIte, Nat.reduceEqDiff, Nat.reduceAdd, Nat.add_zero, Nat.zero_add, Int.toNat_natCast, Int.natCast_nonneg, true_and, and_true, and_self, List.nil_append, List.cons_append, U2, List.getElem?_cons_zero, List.getElem?_cons_succ, List.append_nil, List.length_map, Bool.not_true, Bool.not_false, decide_true, decide_false, eq_self, ne_eq, not_false_eq_true, Int.reduceLT, Int.reduceLE, Int.reduceNeg, nat_lt0, now w, natV, intV]
  refine alloc_intro fun b1 w1 hb1 hx1 _ => ?_
  simp only [↓X, ↓Y, V, U, Z, ↓Q, Tsl, Tarr, Ttk, Tfl, Tint, Tbool, Tbld, Tze, Tzel, Tcall, ↓reduceIte, Nat.reduceEqDiff, Nat.reduceAdd, Nat.add_zero, Nat.zero_add, Int.toNat_natCast, Int.natCast_nonneg, true_and, and_true, and_self, List.nil_append, List.cons_append, U2, List.getElem?_cons_zero, List.getElem?_cons_succ, List.append_nil, List.length_map, Bool.not_true, Bool.not_false, decide_true, decide_false, eq_self, ne_eq, not_false_eq_true, Int.reduceLT, Int.reduceLE, Int.reduceNeg, nat_lt0, now w1]
  refine alloc_intro fun b2 w2 hb2 hx2 _ => ?_
  have hx := hx1.trans hx2
  have ha := hp.a.ext hx hB
  have hB2 := Nat.le_trans hB hx.size
  have hia : i < p.after.length := by rw [ho.len]; exact hi
  obtain ⟨u, hu, hsu⟩ := ha.get hia
  simp only [↓X, ↓Y, V, U, Z, ↓Q, Tsl, Tarr, Ttk, Tfl, Tint, Tbool, Tbld, Tze, Tzel, Tcall, ↓reduceIte, Nat.reduceEqDiff, Nat.reduceAdd, Nat.add_zero, Nat.zero_add, Int.toNat_natCast, Int.natCast_nonneg, true_and, and_true, and_self, List.nil_append, List.cons_append, U2, List.getElem?_cons_zero, List.getElem?_cons_succ, List.append_nil, List.length_map, Bool.not_true, Bool.not_false, decide_true, decide_false, eq_self, ne_eq, not_false_eq_true, Int.reduceLT, Int.reduceLE, Int.reduceNeg, nat_lt0, now w2, (hb1.ext hx2).cell, Int.ofNat_lt, hia, hp.a.len_, hu]
  have hst : ∀ k ∈ p.after[i], ∀ w', Ext w2 w' → Ret Tryd.prog 58 (intV k :: [.pointer (some ⟨b2, 0, none⟩)]).toArray w' (.bool (!set.testBit k.toNat)) := fun k hk w' hx' => by
    obtain ⟨h1, h2⟩ := ho.range _ (List.getElem_mem hia) k hk
    exact planOpen1 h1 (by have := ho.small; omega) hs (hb2.ext hx')
  have hcal : callable Tryd.prog 58 = true := by kernel_rfl
  refine ret_bind' hx (containsNot_int hB2 hsu hcal hst) fun w3 hx3 => ?_
  simp only [↓X, ↓Y, V, U, Z, ↓Q, Tsl, Tarr, Ttk, Tfl, Tint, Tbool, Tbld, Tze, Tzel, Tcall, ↓reduceIte, Nat.reduceEqDiff, Nat.reduceAdd, Nat.add_zero, Nat.zero_add, Int.toNat_natCast, Int.natCast_nonneg, true_and, and_true, and_self, List.nil_append, List.cons_append, U2, List.getElem?_cons_zero, List.getElem?_cons_succ, List.append_nil, List.length_map, Bool.not_true, Bool.not_false, decide_true, decide_false, eq_self, ne_eq, not_false_eq_true, Int.reduceLT, Int.reduceLE, Int.reduceNeg, nat_lt0, now w3, Bool.not_not]
  exact ⟨by simp [openB, List.getD_eq_getElem?_getD, List.getElem?_eq_getElem hia], hx3⟩
theorem planIdeal {x : Int} : Ret Tryd.prog 18 #[.agg #[sv, av], intV x] w (.bool (idealI p x)) := by
  refine callsV_of Tryd.func18 rfl (by kernel_rfl) (by kernel_rfl) ?_
  rw [Tryd.results18]
  have hsm := ho.small
  have h2 := two_pow_le hsm
  have hsh := shlI_nat (k := p.steps.length) (by omega)
  simp only [↓X, ↓Y, V, U, Z, ↓Q, Tsl, Tarr, Ttk, Tfl, Tint, Tbool, Tbld, Tze, Tzel, Tcall, ↓reduceIte, Nat.reduceEqDiff, Nat.reduceAdd, Nat.add_zero, Nat.zero_add, Int.toNat_natCast, Int.natCast_nonneg, true_and, and_true, and_self, List.nil_append, List.cons_append, U2, List.getElem?_cons_zero, List.getElem?_cons_succ, List.append_nil, List.length_map, Bool.not_true, Bool.not_false, decide_true, decide_false, eq_self, ne_eq, not_false_eq_true, Int.reduceLT, Int.reduceLE, Int.reduceNeg, nat_lt0, now w, intV]
  refine alloc_intro fun b1 w1 hb1 hx1 _ => ?_
  simp only [↓X, ↓Y, V, U, Z, ↓Q, Tsl, Tarr, Ttk, Tfl, Tint, Tbool, Tbld, Tze, Tzel, Tcall, ↓reduceIte, Nat.reduceEqDiff, Nat.reduceAdd, Nat.add_zero, Nat.zero_add, Int.toNat_natCast, Int.natCast_nonneg, true_and, and_true, and_self, List.nil_append, List.cons_append, U2, List.getElem?_cons_zero, List.getElem?_cons_succ, List.append_nil, List.length_map, Bool.not_true, Bool.not_false, decide_true, decide_false, eq_self, ne_eq, not_false_eq_true, Int.reduceLT, Int.reduceLE, Int.reduceNeg, nat_lt0, now w1, hb1.cell]
  rcases Bool.eq_false_or_eq_true (decide (x < 0)) with c1 | c1
  · simp only [↓X, ↓Y, V, U, Z, ↓Q, Tsl, Tarr, Ttk, Tfl, Tint, Tbool, Tbld, Tze, Tzel, Tcall, ↓reduceIte, Nat.reduceEqDiff, Nat.reduceAdd, Nat.add_zero, Nat.zero_add, Int.toNat_natCast, Int.natCast_nonneg, true_and, and_true, and_self, List.nil_append, List.cons_append, U2, List.getElem?_cons_zero, List.getElem?_cons_succ, List.append_nil, List.length_map, Bool.not_true, Bool.not_false, decide_true, decide_false, eq_self, ne_eq, not_false_eq_true, Int.reduceLT, Int.reduceLE, Int.reduceNeg, nat_lt0, now w1, c1, hb1.cell]
    have := of_decide_eq_true c1
    exact ⟨by simp [idealI]; omega, hx1⟩
  have c1' := of_decide_eq_false c1
  obtain ⟨set, rfl⟩ := Int.eq_ofNat_of_zero_le (Int.not_lt.mp c1')
  rcases Bool.eq_false_or_eq_true (decide (((2 ^ p.steps.length : Nat) : Int) ≤ (set : Int))) with c2 | c2
  · simp only [↓X, ↓Y, V, U, Z, ↓Q, Tsl, Tarr, Ttk, Tfl, Tint, Tbool, Tbld, Tze, Tzel, Tcall, ↓reduceIte, Nat.reduceEqDiff, Nat.reduceAdd, Nat.add_zero, Nat.zero_add, Int.toNat_natCast, Int.natCast_nonneg, true_and, and_true, and_self, List.nil_append, List.cons_append, U2, List.getElem?_cons_zero, List.getElem?_cons_succ, List.append_nil, List.length_map, Bool.not_true, Bool.not_false, decide_true, decide_false, eq_self, ne_eq, not_false_eq_true, Int.reduceLT, Int.reduceLE, Int.reduceNeg, nat_lt0, now w1, c1, c2, hb1.cell, hp.s.len_, hsh]
    have := of_decide_eq_true c2
    exact ⟨by simp [idealI, idealB]; omega, hx1⟩
  have c2' : set < 2 ^ p.steps.length := by have := of_decide_eq_false c2; omega
  simp only [↓X, ↓Y, V, U, Z, ↓Q, Tsl, Tarr, Ttk, Tfl, Tint, Tbool, Tbld, Tze, Tzel, Tcall, ↓reduceIte, Nat.reduceEqDiff, Nat.reduceAdd, Nat.add_zero, Nat.zero_add, Int.toNat_natCast, Int.natCast_nonneg, true_and, and_true, and_self, List.nil_append, List.cons_append, U2, List.getElem?_cons_zero, List.getElem?_cons_succ, List.append_nil, List.length_map, Bool.not_true, Bool.not_false, decide_true, decide_false, eq_self, ne_eq, not_false_eq_true, Int.reduceLT, Int.reduceLE, Int.reduceNeg, nat_lt0, now w1, c1, c2, hb1.cell, hp.s.len_, hsh]
  refine loopX_intro (fun m g w' => ∃ (k : Nat), k + m = p.steps.length ∧ g 19 = .int .i64 k ∧ g 18 = .int .i64 p.steps.length ∧ g 1 = .int .i64 set ∧ g 2 = .pointer (some ⟨b1, 0, none⟩) ∧ (∀ i, i < k → set.testBit i = true → openB p set i = true) ∧ Ext w1 w') p.steps.length (by kernel_rfl) ?_ ?_
  · refine ⟨0, by omega, ?_⟩
    simp only [↓X, ↓Y, V, U, Z, ↓Q, Tsl, Tarr, Ttk, Tfl, Tint, Tbool, Tbld, Tze, Tzel, Tcall, ↓reduceIte, Nat.reduceEqDiff, Nat.reduceAdd, Nat.add_zero, Nat.zero_add, Int.toNat_natCast, Int.natCast_nonneg, true_and, and_true, and_self, List.nil_append, List.cons_append, U2, List.getElem?_cons_zero, List.getElem?_cons_succ, List.append_nil, List.length_map, Bool.not_true, Bool.not_false, decide_true, decide_false, eq_self, ne_eq, not_false_eq_true, Int.reduceLT, Int.reduceLE, Int.reduceNeg, nat_lt0]
    (repeat' apply And.intro) <;> first | rfl | assumption | exact fun i h => absurd h (by omega) | exact Ext.refl _
  · rintro m g w2 ⟨k, hk, h19, h18, h1, h2', hall, hx2⟩
    by_cases hlt : k < p.steps.length
    · have e := bit_eq1 (a := set) (k := k) (by omega) (by omega)
      simp only [↓X, ↓Y, V, U, Z, ↓Q, Tsl, Tarr, Ttk, Tfl, Tint, Tbool, Tbld, Tze, Tzel, Tcall, ↓reduceIte, Nat.reduceEqDiff, Nat.reduceAdd, Nat.add_zero, Nat.zero_add, Int.toNat_natCast, Int.natCast_nonneg, true_and, and_true, and_self, List.nil_append, List.cons_append, U2, List.getElem?_cons_zero, List.getElem?_cons_succ, List.append_nil, List.length_map, Bool.not_true, Bool.not_false, decide_true, decide_false, eq_self, ne_eq, not_false_eq_true, Int.reduceLT, Int.reduceLE, Int.reduceNeg, nat_lt0, now w2, h19, h18, h1, h2', Int.ofNat_lt, hlt, e, (hb1.ext hx2).cell]
      cases c3 : set.testBit k
      · simp only [↓X, ↓Y, V, U, Z, ↓Q, Tsl, Tarr, Ttk, Tfl, Tint, Tbool, Tbld, Tze, Tzel, Tcall, ↓reduceIte, Nat.reduceEqDiff, Nat.reduceAdd, Nat.add_zero, Nat.zero_add, Int.toNat_natCast, Int.natCast_nonneg, true_and, and_true, and_self, List.nil_append, List.cons_append, U2, List.getElem?_cons_zero, List.getElem?_cons_succ, List.append_nil, List.length_map, Bool.not_true, Bool.not_false, decide_true, decide_false, eq_self, ne_eq, not_false_eq_true, Int.reduceLT, Int.reduceLE, Int.reduceNeg, nat_lt0, now w2, h19, h18, h1, h2', c3]
        refine ⟨m - 1, by omega, k + 1, ?_⟩
        (repeat' apply And.intro) <;> first | rfl | assumption | omega | rw [wrap_succ hlt (by omega)] | (intro i hi hb; rcases Nat.lt_or_eq_of_le (Nat.le_of_lt_succ hi) with h | rfl; exact hall i h hb; rw [c3] at hb; cases hb)
      · simp only [↓X, ↓Y, V, U, Z, ↓Q, Tsl, Tarr, Ttk, Tfl, Tint, Tbool, Tbld, Tze, Tzel, Tcall, ↓reduceIte, Nat.reduceEqDiff, Nat.reduceAdd, Nat.add_zero, Nat.zero_add, Int.toNat_natCast, Int.natCast_nonneg, true_and, and_true, and_self, List.nil_append, List.cons_append, U2, List.getElem?_cons_zero, List.getElem?_cons_succ, List.append_nil, List.length_map, Bool.not_true, Bool.not_false, decide_true, decide_false, eq_self, ne_eq, not_false_eq_true, Int.reduceLT, Int.reduceLE, Int.reduceNeg, nat_lt0, now w2, h19, h18, h1, h2', c3, (hb1.ext hx2).cell]
        have hxx := hx1.trans hx2
        refine ret_bind' hx2 (planOpen (Nat.le_trans hB hxx.size) (hp.ext hxx hB) ho (set := set) (i := k) (by omega) hlt) fun w3 hx3 => ?_
        cases c4 : openB p set k
        · simp only [↓X, ↓Y, V, U, Z, ↓Q, Tsl, Tarr, Ttk, Tfl, Tint, Tbool, Tbld, Tze, Tzel, Tcall, ↓reduceIte, Nat.reduceEqDiff, Nat.reduceAdd, Nat.add_zero, Nat.zero_add, Int.toNat_natCast, Int.natCast_nonneg, true_and, and_true, and_self, List.nil_append, List.cons_append, U2, List.getElem?_cons_zero, List.getElem?_cons_succ, List.append_nil, List.length_map, Bool.not_true, Bool.not_false, decide_true, decide_false, eq_self, ne_eq, not_false_eq_true, Int.reduceLT, Int.reduceLE, Int.reduceNeg, nat_lt0, now w3, h19, h18, h1, h2']
          refine ⟨?_, hx1.trans hx3⟩
          have : ¬ ∀ i, i < p.steps.length → set.testBit i = true → openB p set i = true := fun h => by rw [h k hlt c3] at c4; cases c4
          simp [idealI, idealB, this]
        · simp only [↓X, ↓Y, V, U, Z, ↓Q, Tsl, Tarr, Ttk, Tfl, Tint, Tbool, Tbld, Tze, Tzel, Tcall, ↓reduceIte, Nat.reduceEqDiff, Nat.reduceAdd, Nat.add_zero, Nat.zero_add, Int.toNat_natCast, Int.natCast_nonneg, true_and, and_true, and_self, List.nil_append, List.cons_append, U2, List.getElem?_cons_zero, List.getElem?_cons_succ, List.append_nil, List.length_map, Bool.not_true, Bool.not_false, decide_true, decide_false, eq_self, ne_eq, not_false_eq_true, Int.reduceLT, Int.reduceLE, Int.reduceNeg, nat_lt0, now w3, h19, h18, h1, h2']
          refine ⟨m - 1, by omega, k + 1, ?_⟩
          (repeat' apply And.intro) <;> first | rfl | assumption | omega | rw [wrap_succ hlt (by omega)] | (intro i hi hb; rcases Nat.lt_or_eq_of_le (Nat.le_of_lt_succ hi) with h | rfl; exact hall i h hb; exact c4)
    · simp only [↓X, ↓Y, V, U, Z, ↓Q, Tsl, Tarr, Ttk, Tfl, Tint, Tbool, Tbld, Tze, Tzel, Tcall, ↓reduceIte, Nat.reduceEqDiff, Nat.reduceAdd, Nat.add_zero, Nat.zero_add, Int.toNat_natCast, Int.natCast_nonneg, true_and, and_true, and_self, List.nil_append, List.cons_append, U2, List.getElem?_cons_zero, List.getElem?_cons_succ, List.append_nil, List.length_map, Bool.not_true, Bool.not_false, decide_true, decide_false, eq_self, ne_eq, not_false_eq_true, Int.reduceLT, Int.reduceLE, Int.reduceNeg, nat_lt0, now w2, h19, h18, Int.ofNat_lt, hlt]
      have hk' : k = p.steps.length := by omega
      subst hk'
      exact ⟨by simp only [idealI, idealB, Int.toNat_natCast, c2', decide_true, Bool.true_and, Int.natCast_nonneg]; rw [decide_eq_true hall], hx1.trans hx2⟩
theorem planEnabled {set : Nat} (hs : set < 4096) : CallsV Tryd.prog 20 #[.agg #[sv, av], natV set] w fun v w' => Ext w w' ∧ Own w' w.heap.size 3 1 v ((enabledL p set).map natC) := by
  refine callsV_of Tryd.func20 rfl (by kernel_rfl) (by kernel_rfl) ?_
  rw [Tryd.results20]
  have hsm := ho.small
  simp only [↓X, ↓Y, V, U, Z, ↓Q, Tsl, Tarr, Ttk, Tfl, Tint, Tbool, Tbld, Tze, Tzel, Tcall, ↓reduceIte, Nat.reduceEqDiff, Nat.reduceAdd, Nat.add_zero, Nat.zero_add, Int.toNat_natCast, Int.natCast_nonneg, true_and, and_true, and_self, List.nil_append, List.cons_append, U2, List.getElem?_cons_zero, List.getElem?_cons_succ, List.append_nil, List.length_map, Bool.not_true, Bool.not_false, decide_true, decide_false, eq_self, ne_eq, not_false_eq_true, Int.reduceLT, Int.reduceLE, Int.reduceNeg, nat_lt0, now w, natV, intV]
  refine alloc_intro fun b1 w1 hb1 hx1 _ => ?_
  simp only [↓X, ↓Y, V, U, Z, ↓Q, Tsl, Tarr, Ttk, Tfl, Tint, Tbool, Tbld, Tze, Tzel, Tcall, ↓reduceIte, Nat.reduceEqDiff, Nat.reduceAdd, Nat.add_zero, Nat.zero_add, Int.toNat_natCast, Int.natCast_nonneg, true_and, and_true, and_self, List.nil_append, List.cons_append, U2, List.getElem?_cons_zero, List.getElem?_cons_succ, List.append_nil, List.length_map, Bool.not_true, Bool.not_false, decide_true, decide_false, eq_self, ne_eq, not_false_eq_true, Int.reduceLT, Int.reduceLE, Int.reduceNeg, nat_lt0, now w1, hb1.cell, hp.s.len_]
  refine loopX_intro (fun m g w' => ∃ (k : Nat) (v : Value), k + m = p.steps.length ∧ g 10 = .int .i64 k ∧ g 9 = .int .i64 p.steps.length ∧ g 1 = .int .i64 set ∧ g 2 = .pointer (some ⟨b1, 0, none⟩) ∧ g 5 = v ∧ Own w' w.heap.size 3 1 v (((List.range k).filter fun i => !set.testBit i && openB p set i).map natC) ∧ Blk w' b1 36 [sv, av] ∧ Ext w w') p.steps.length (by kernel_rfl) ?_ ?_
  · refine ⟨0, .slice none 0 0, by omega, ?_⟩
    simp only [↓X, ↓Y, V, U, Z, ↓Q, Tsl, Tarr, Ttk, Tfl, Tint, Tbool, Tbld, Tze, Tzel, Tcall, ↓reduceIte, Nat.reduceEqDiff, Nat.reduceAdd, Nat.add_zero, Nat.zero_add, Int.toNat_natCast, Int.natCast_nonneg, true_and, and_true, and_self, List.nil_append, List.cons_append, U2, List.getElem?_cons_zero, List.getElem?_cons_succ, List.append_nil, List.length_map, Bool.not_true, Bool.not_false, decide_true, decide_false, eq_self, ne_eq, not_false_eq_true, Int.reduceLT, Int.reduceLE, Int.reduceNeg, nat_lt0]
    (repeat' apply And.intro) <;> first | rfl | assumption | exact hx1 | exact Own.nil _ _ _ _ | exact hb1
  · rintro m g w2 ⟨k, v, hk, h10, h9, h1, h2, h5, hown, hb1, hx2⟩
    by_cases hlt : k < p.steps.length
    · have e := bit_eq0 (a := set) (k := k) (by omega) (by omega)
      have hlen : ((List.range k).filter fun i => !set.testBit i && openB p set i).length ≤ k := by have := List.length_filter_le (fun i => !set.testBit i && openB p set i) (List.range k); simpa using this
      have hfil : ((List.range (k + 1)).filter fun i => !set.testBit i && openB p set i) = ((List.range k).filter fun i => !set.testBit i && openB p set i) ++ if (!set.testBit k && openB p set k) = true then [k] else [] := by
        rw [List.range_succ, List.filter_append]
        congr 1
        rw [List.filter_cons]
        split <;> simp_all
      simp only [↓X, ↓Y, V, U, Z, ↓Q, Tsl, Tarr, Ttk, Tfl, Tint, Tbool, Tbld, Tze, Tzel, Tcall, ↓reduceIte, Nat.reduceEqDiff, Nat.reduceAdd, Nat.add_zero, Nat.zero_add, Int.toNat_natCast, Int.natCast_nonneg, true_and, and_true, and_self, List.nil_append, List.cons_append, U2, List.getElem?_cons_zero, List.getElem?_cons_succ, List.append_nil, List.length_map, Bool.not_true, Bool.not_false, decide_true, decide_false, eq_self, ne_eq, not_false_eq_true, Int.reduceLT, Int.reduceLE, Int.reduceNeg, nat_lt0, now w2, h10, h9, h1, h2, Int.ofNat_lt, hlt, e, hb1.cell]
      cases c3 : set.testBit k
      · simp only [↓X, ↓Y, V, U, Z, ↓Q, Tsl, Tarr, Ttk, Tfl, Tint, Tbool, Tbld, Tze, Tzel, Tcall, ↓reduceIte, Nat.reduceEqDiff, Nat.reduceAdd, Nat.add_zero, Nat.zero_add, Int.toNat_natCast, Int.natCast_nonneg, true_and, and_true, and_self, List.nil_append, List.cons_append, U2, List.getElem?_cons_zero, List.getElem?_cons_succ, List.append_nil, List.length_map, Bool.not_true, Bool.not_false, decide_true, decide_false, eq_self, ne_eq, not_false_eq_true, Int.reduceLT, Int.reduceLE, Int.reduceNeg, nat_lt0, now w2, h10, h9, h1, h2, c3, hb1.cell]
        refine ret_bind' (Ext.refl w2) (planOpen (Nat.le_trans hB hx2.size) (hp.ext hx2 hB) ho (set := set) (i := k) (by omega) hlt) fun w3 hx3 => ?_
        cases c4 : openB p set k
        · simp only [↓X, ↓Y, V, U, Z, ↓Q, Tsl, Tarr, Ttk, Tfl, Tint, Tbool, Tbld, Tze, Tzel, Tcall, ↓reduceIte, Nat.reduceEqDiff, Nat.reduceAdd, Nat.add_zero, Nat.zero_add, Int.toNat_natCast, Int.natCast_nonneg, true_and, and_true, and_self, List.nil_append, List.cons_append, U2, List.getElem?_cons_zero, List.getElem?_cons_succ, List.append_nil, List.length_map, Bool.not_true, Bool.not_false, decide_true, decide_false, eq_self, ne_eq, not_false_eq_true, Int.reduceLT, Int.reduceLE, Int.reduceNeg, nat_lt0, now w3, h10, h9, h1, h2, h5]
          refine ⟨m - 1, by omega, k + 1, v, ?_⟩
          rw [hfil, c3, c4]
          (repeat' apply And.intro) <;> first | rfl | assumption | omega | rw [wrap_succ hlt (by omega)] | simpa using hown.ext hx3 | exact hb1.ext hx3 | exact hx2.trans hx3
        · simp only [↓X, ↓Y, V, U, Z, ↓Q, Tsl, Tarr, Ttk, Tfl, Tint, Tbool, Tbld, Tze, Tzel, Tcall, ↓reduceIte, Nat.reduceEqDiff, Nat.reduceAdd, Nat.add_zero, Nat.zero_add, Int.toNat_natCast, Int.natCast_nonneg, true_and, and_true, and_self, List.nil_append, List.cons_append, U2, List.getElem?_cons_zero, List.getElem?_cons_succ, List.append_nil, List.length_map, Bool.not_true, Bool.not_false, decide_true, decide_false, eq_self, ne_eq, not_false_eq_true, Int.reduceLT, Int.reduceLE, Int.reduceNeg, nat_lt0, now w3, h5, h10, h9, h1, h2, idxOk, flatP, cellsL, List.length_cons, List.length_nil, Nat.reduceMul, Nat.reduceLeDiff, Nat.reduceLT]
          refine row_intro fun b4 w4 hb4 hx4 _ => ?_
          simp only [↓X, ↓Y, V, U, Z, ↓Q, Tsl, Tarr, Ttk, Tfl, Tint, Tbool, Tbld, Tze, Tzel, Tcall, ↓reduceIte, Nat.reduceEqDiff, Nat.reduceAdd, Nat.add_zero, Nat.zero_add, Int.toNat_natCast, Int.natCast_nonneg, true_and, and_true, and_self, List.nil_append, List.cons_append, U2, List.getElem?_cons_zero, List.getElem?_cons_succ, List.append_nil, List.length_map, Bool.not_true, Bool.not_false, decide_true, decide_false, eq_self, ne_eq, not_false_eq_true, Int.reduceLT, Int.reduceLE, Int.reduceNeg, nat_lt0, now w4, h5]
          have hx04 := hx2.trans (hx3.trans hx4)
          refine append_int (x := k) (hown.ext (hx3.trans hx4)) hb4 rfl (by simp [natC, intV, one_int]) (by omega) hx04.size fun v' w5 hown' hgr hbl _ => ?_
          have hb1' := grown_blk hgr (hb1.ext (hx3.trans hx4)) ((hown.ext (hx3.trans hx4)).ne (hb1.ext (hx3.trans hx4)) (by decide))
          simp only [↓X, ↓Y, V, U, Z, ↓Q, Tsl, Tarr, Ttk, Tfl, Tint, Tbool, Tbld, Tze, Tzel, Tcall, ↓reduceIte, Nat.reduceEqDiff, Nat.reduceAdd, Nat.add_zero, Nat.zero_add, Int.toNat_natCast, Int.natCast_nonneg, true_and, and_true, and_self, List.nil_append, List.cons_append, U2, List.getElem?_cons_zero, List.getElem?_cons_succ, List.append_nil, List.length_map, Bool.not_true, Bool.not_false, decide_true, decide_false, eq_self, ne_eq, not_false_eq_true, Int.reduceLT, Int.reduceLE, Int.reduceNeg, nat_lt0, now w5, h10, h9, h1, h2]
          refine ⟨m - 1, by omega, k + 1, v', ?_⟩
          rw [hfil, c3, c4]
          (repeat' apply And.intro) <;> first | rfl | assumption | omega | rw [wrap_succ hlt (by omega)] | exact hx04.trans' hbl | simpa using hown'
      · simp only [↓X, ↓Y, V, U, Z, ↓Q, Tsl, Tarr, Ttk, Tfl, Tint, Tbool, Tbld, Tze, Tzel, Tcall, ↓reduceIte, Nat.reduceEqDiff, Nat.reduceAdd, Nat.add_zero, Nat.zero_add, Int.toNat_natCast, Int.natCast_nonneg, true_and, and_true, and_self, List.nil_append, List.cons_append, U2, List.getElem?_cons_zero, List.getElem?_cons_succ, List.append_nil, List.length_map, Bool.not_true, Bool.not_false, decide_true, decide_false, eq_self, ne_eq, not_false_eq_true, Int.reduceLT, Int.reduceLE, Int.reduceNeg, nat_lt0, now w2, h10, h9, h1, h2, h5, c3]
        refine ⟨m - 1, by omega, k + 1, v, ?_⟩
        rw [hfil, c3]
        (repeat' apply And.intro) <;> first | rfl | assumption | omega | rw [wrap_succ hlt (by omega)] | simpa using hown
    · simp only [↓X, ↓Y, V, U, Z, ↓Q, Tsl, Tarr, Ttk, Tfl, Tint, Tbool, Tbld, Tze, Tzel, Tcall, ↓reduceIte, Nat.reduceEqDiff, Nat.reduceAdd, Nat.add_zero, Nat.zero_add, Int.toNat_natCast, Int.natCast_nonneg, true_and, and_true, and_self, List.nil_append, List.cons_append, U2, List.getElem?_cons_zero, List.getElem?_cons_succ, List.append_nil, List.length_map, Bool.not_true, Bool.not_false, decide_true, decide_false, eq_self, ne_eq, not_false_eq_true, Int.reduceLT, Int.reduceLE, Int.reduceNeg, nat_lt0, now w2, h10, h9, h5, Int.ofNat_lt, hlt]
      have hk' : k = p.steps.length := by omega
      subst hk'
      exact ⟨hx2, hown⟩
end
end Go.Proofs.YtgickfllblmhpaaDoor
