/- The statement PlanGrows, walked. -/
import Derived.Test.YtgickfllblmhpaaDoorSeq20
namespace Go.Proofs.YtgickfllblmhpaaDoor
set_option linter.unusedSimpArgs false
set_option linter.unusedVariables false
open Go Go.RowKit
set_option maxRecDepth 100000
set_option linter.unusedSectionVars false
set_option maxHeartbeats 2000000
/-- Each ideal that is not empty is one with a step that it enabled. -/
theorem ideal_last {p : PlanD} {set : Nat} (ho : Shape p) (ha : Acyc p) (hi : idealB p set = true) : ∀ f done, idealB p done = true → (∀ j, done.testBit j = true → set.testBit j = true) → set ≤ f + done → done ≠ set →
    ∃ d q, idealB p d = true ∧ q < p.steps.length ∧ d.testBit q = false ∧ openB p d q = true ∧ d ||| 2 ^ q = set
  | 0, done, _, hsub, hf, hne => by have := le_of_bits hsub; omega
  | f + 1, done, hd, hsub, hf, hne => by
    rcases seq_step ho ha hi hd hsub hf with ⟨h, _⟩ | ⟨f', q, h1, h2, h3, h4, h5, h6, h7⟩
    · exact absurd h hne
    · by_cases he : done ||| 2 ^ q = set
      · exact ⟨done, q, hd, h2, h3, h4, he⟩
      · have hgt : done < done ||| 2 ^ q := by
          refine Nat.lt_of_le_of_ne Nat.left_le_or fun he => ?_
          have := congrArg (fun x => x.testBit q) he
          simp only [Nat.testBit_or, h3, Nat.testBit_two_pow_self, Bool.or_true] at this
          cases this
        exact ideal_last ho ha hi f _ h5 h6 (by omega) he
def grownB (p : PlanD) (l : List Nat) (x : Nat) : Bool := x == 0 || l.any fun d => (enabledL p d).any fun q => x == d ||| 2 ^ q
theorem mem_enabled {p : PlanD} {d q : Nat} : q ∈ enabledL p d ↔ q < p.steps.length ∧ d.testBit q = false ∧ openB p d q = true := by
  simp only [enabledL, List.mem_filter, List.mem_range, Bool.and_eq_true, Bool.not_eq_true']
theorem ideals_sorted (p : PlanD) {i j : Nat} (hij : i < j) (hj : j < (idealsL p).length) : (idealsL p)[i] < (idealsL p)[j] := by
  have h : (idealsL p).Pairwise (· < ·) := (List.pairwise_lt_range).filter _
  exact List.pairwise_iff_getElem.1 h i j (by omega) hj hij
theorem grown_seen {p : PlanD} (ho : Shape p) (ha : Acyc p) {k : Nat} (hk : k < (idealsL p).length) : grownB p ((idealsL p).take k) (idealsL p)[k] = true := by
  have hid := mem_ideals.1 (List.getElem_mem hk)
  by_cases h0 : (idealsL p)[k] = 0
  · simp [grownB, h0]
  · obtain ⟨d, q, h1, h2, h3, h4, h5⟩ := ideal_last ho ha hid (idealsL p)[k] 0 (idealB_zero p) (fun j hj => by rw [Nat.zero_testBit] at hj; cases hj) (by omega) (by omega)
    obtain ⟨i, hi, he⟩ := List.getElem_of_mem (mem_ideals.2 h1)
    have hgt : d < d ||| 2 ^ q := by
      refine Nat.lt_of_le_of_ne Nat.left_le_or fun he => ?_
      have := congrArg (fun x => x.testBit q) he
      simp only [Nat.testBit_or, h3, Nat.testBit_two_pow_self, Bool.or_true] at this
      cases this
    have hik : i < k := by
      rcases Nat.lt_trichotomy i k with h | h | h
      · exact h
      · subst h; omega
      · have := ideals_sorted p h hi; omega
    simp only [grownB, Bool.or_eq_true, List.any_eq_true, beq_iff_eq]
    right
    refine ⟨d, ?_, q, mem_enabled.2 ⟨h2, h3, h4⟩, h5.symm⟩
    rw [← he]
    exact List.mem_take_iff_getElem.2 ⟨i, by omega, rfl⟩
theorem grown_all {p : PlanD} (ho : Shape p) (ha : Acyc p) (x : Nat) : grownB p (idealsL p) x = idealB p x := by
  rw [Bool.eq_iff_iff]
  constructor
  · intro h
    simp only [grownB, Bool.or_eq_true, List.any_eq_true, beq_iff_eq] at h
    rcases h with rfl | ⟨d, hd, q, hq, rfl⟩
    · exact idealB_zero p
    · obtain ⟨h1, h2, h3⟩ := mem_enabled.1 hq
      exact ideal_with (mem_ideals.1 hd) h1 h3
  · intro h
    obtain ⟨k, hk, rfl⟩ := List.getElem_of_mem (mem_ideals.2 h)
    have := grown_seen ho ha hk
    simp only [grownB, Bool.or_eq_true, List.any_eq_true] at this ⊢
    rcases this with h | ⟨d, hd, h⟩
    · exact .inl h
    · exact .inr ⟨d, List.mem_of_mem_take hd, h⟩
section
variable {w : World} {B : Nat} {u : SiteVs} {s : SiteD} {wv sv av : Value} {vs : List Value} {l : List SrvV} {p : PlanD}
theorem lawPlanGrows (hT : TabW w) (hB : B ≤ w.heap.size) (hs : SiteR w B u s) (hl : WishR w B wv l) (hp : PlanR w B sv av vs p) : Ret Tryd.prog 4 #[.agg (siteC u s).toArray, .agg #[wv], .agg #[sv, av]] w (.bool true) := by
  have hs' := hs.sk hB
  have hl' := hl.sk hB
  have hp' := hp.sk hB
  have hT' := fun w' (h : Ext w w') => hT.ext h
  have hS := hs'.2.2.2.2.2.2
  have hW := hl'.2
  have hP := hp'.2.2.2.2.2.2
  have hn : Now w := trivial
  have hx : Ext w w := Ext.refl w
  obtain ⟨e, he⟩ : ∃ e, Hid (planErr s (l.map (·.x)) p = e) := ⟨_, rfl⟩
  have hok := fun h => (planErr_ok (s := s) (wl := l.map (·.x)) (p := p) h)
  rw [he.out] at hok
  refine callsV_of Tryd.func4 rfl (by kernel_rfl) (by kernel_rfl) ?_
  rw [Tryd.results4]
  (repeat' first
    | with_reducible refine alloc_k fun _ _ _ _ _ _ => ?_
    | with_reducible refine row_k fun _ _ _ _ _ _ => ?_
    | with_reducible refine fork (fun _ => ?_) (fun _ => ?_)
    | with_reducible refine tail_k fun _ _ _ => ?_
    | with_reducible refine ext_k fun _ _ _ => ?_
    | with_reducible refine need (by first | kernel_rfl | omega | assumption) ?_
    | with_reducible refine st_agg (by kernel_rfl) rfl (by simp only [natV, intV, List.mem_cons, List.not_mem_nil, or_false, forall_eq_or_imp, forall_eq, one_int, one_bool, one_slice, one_ptr, and_self, *]) fun _ _ _ _ => ?_
    | with_reducible refine wpd_quiet_lit (by kernel_rfl) (by kernel_rfl) (by kernel_rfl) ?_
    | ((with_reducible refine at_f 5 ?_); refine retb_k (law20few (B := B) (by simp (singlePass := true) (maxDischargeDepth := 99) only [*, Nat.le_refl, not_false_eq_true, and_self]) (hS _ (by simp (singlePass := true) (maxDischargeDepth := 99) only [*, Nat.le_refl, not_false_eq_true, and_self])) (hW _ (by simp (singlePass := true) (maxDischargeDepth := 99) only [*, Nat.le_refl, not_false_eq_true, and_self])) (hP _ (by simp (singlePass := true) (maxDischargeDepth := 99) only [*, Nat.le_refl, not_false_eq_true, and_self]))) fun _ _ _ _ => ?_)
    | ((with_reducible refine at_f 6 ?_); refine ret_k (law20live (hT' _ (by simp (singlePass := true) (maxDischargeDepth := 99) only [*, Nat.le_refl, not_false_eq_true, and_self]))) fun _ _ _ => ?_)
    | simp (maxDischargeDepth := 3) only [↓X, ↓Y, V, U, Z, ↓Q, Tsl, Tarr, Ttk, Tfl, Tint, Tbool, Tbld, Tze, Tzel, Tcall, ↓reduceIte, Nat.reduceEqDiff, Nat.reduceAdd, Nat.add_zero, Nat.zero_add, Int.toNat_natCast, Int.natCast_nonneg, true_and, and_true, and_self, List.nil_append, List.cons_append, U2, List.getElem?_cons_zero, List.getElem?_cons_succ, List.append_nil, List.length_map, Bool.not_true, Bool.not_false, decide_true, decide_false, eq_self, ne_eq, not_false_eq_true, Int.reduceLT, Int.reduceLE, Int.reduceNeg, nat_lt0, mid_none, mid_some, natV, intV, Int.ofNat_lt, Int.ofNat_le, Int.toNat_zero, Nat.mul_one, Nat.zero_mul, add_none, Nat.le_refl, Nat.lt_irrefl, nat0, bne_self_eq_false, beq_self_eq_true, Int.reduceBEq, Int.reduceBNe, Int.reduceEq, Bool.false_eq_true, Bool.true_or, Bool.false_or, Bool.true_and, Bool.false_and, Bool.or_true, Bool.or_false, Bool.and_true, Bool.and_false, putAt, List.set_cons_zero, List.set_cons_succ, List.length_cons, List.length_nil, Nat.reduceLeDiff, idxOk, flatP, Nat.reduceMul, Nat.reduceLT, *, siteC]
    | simp (singlePass := true) (maxDischargeDepth := 99) only [*, Nat.le_refl, not_false_eq_true, and_self, siteC])
  refine call_k (planIdeals (B := B) (by simp (singlePass := true) (maxDischargeDepth := 99) only [*, Nat.le_refl, not_false_eq_true, and_self]) (by simp (singlePass := true) (maxDischargeDepth := 99) only [*, Nat.le_refl, not_false_eq_true, and_self]) (hS _ (by simp (singlePass := true) (maxDischargeDepth := 99) only [*, Nat.le_refl, not_false_eq_true, and_self])) (hW _ (by simp (singlePass := true) (maxDischargeDepth := 99) only [*, Nat.le_refl, not_false_eq_true, and_self])) (hP _ (by simp (singlePass := true) (maxDischargeDepth := 99) only [*, Nat.le_refl, not_false_eq_true, and_self])) he.out) ?_
  rintro _ w1 n1 s1 ⟨v1, rfl, hown⟩
  by_cases e0 : e = 0
  · subst e0
    obtain ⟨hsh, hac⟩ := hok rfl
    clear hok
    rw [if_pos rfl] at hown
    have h1 := (hown.sl1 (f := natV)).k (Nat.le_refl _)
    have hle : (idealsL p).length ≤ 4096 := Nat.le_trans (List.length_filter_le _ _) (by simpa using two_pow_le hsh.small)
    have hsm := hsh.small
    (repeat' first
    | with_reducible refine alloc_k fun _ _ _ _ _ _ => ?_
    | with_reducible refine row_k fun _ _ _ _ _ _ => ?_
    | with_reducible refine fork (fun _ => ?_) (fun _ => ?_)
    | with_reducible refine tail_k fun _ _ _ => ?_
    | with_reducible refine ext_k fun _ _ _ => ?_
    | with_reducible refine need (by first | kernel_rfl | omega | assumption) ?_
    | with_reducible refine st_agg (by kernel_rfl) rfl (by simp only [natV, intV, List.mem_cons, List.not_mem_nil, or_false, forall_eq_or_imp, forall_eq, one_int, one_bool, one_slice, one_ptr, and_self, *]) fun _ _ _ _ => ?_
    | with_reducible refine wpd_quiet_lit (by kernel_rfl) (by kernel_rfl) (by kernel_rfl) ?_
    | simp (maxDischargeDepth := 3) only [↓X, ↓Y, V, U, Z, ↓Q, Tsl, Tarr, Ttk, Tfl, Tint, Tbool, Tbld, Tze, Tzel, Tcall, ↓reduceIte, Nat.reduceEqDiff, Nat.reduceAdd, Nat.add_zero, Nat.zero_add, Int.toNat_natCast, Int.natCast_nonneg, true_and, and_true, and_self, List.nil_append, List.cons_append, U2, List.getElem?_cons_zero, List.getElem?_cons_succ, List.append_nil, List.length_map, Bool.not_true, Bool.not_false, decide_true, decide_false, eq_self, ne_eq, not_false_eq_true, Int.reduceLT, Int.reduceLE, Int.reduceNeg, nat_lt0, mid_none, mid_some, natV, intV, Int.ofNat_lt, Int.ofNat_le, Int.toNat_zero, Nat.mul_one, Nat.zero_mul, add_none, Nat.le_refl, Nat.lt_irrefl, nat0, bne_self_eq_false, beq_self_eq_true, Int.reduceBEq, Int.reduceBNe, Int.reduceEq, Bool.false_eq_true, Bool.true_or, Bool.false_or, Bool.true_and, Bool.false_and, Bool.or_true, Bool.or_false, Bool.and_true, Bool.and_false, putAt, List.set_cons_zero, List.set_cons_succ, List.length_cons, List.length_nil, Nat.reduceLeDiff, idxOk, flatP, Nat.reduceMul, Nat.reduceLT, *]
    | simp (singlePass := true) (maxDischargeDepth := 99) only [*, Nat.le_refl, not_false_eq_true, and_self])
    refine loop_k p.steps.length (fun g0 k g _ => g 10 = .int .i64 k ∧ g 9 = .int .i64 ((2 ^ k : Nat) : Int) ∧ (g 3 = g0 3 ∧ g 4 = g0 4 ∧ g 5 = g0 5 ∧ g 7 = g0 7)) (by kernel_rfl) (by omega) ?_ ?_ ?_
    · (repeat' first
    | with_reducible refine alloc_k fun _ _ _ _ _ _ => ?_
    | with_reducible refine row_k fun _ _ _ _ _ _ => ?_
    | with_reducible refine fork (fun _ => ?_) (fun _ => ?_)
    | with_reducible refine tail_k fun _ _ _ => ?_
    | with_reducible refine ext_k fun _ _ _ => ?_
    | with_reducible refine need (by first | kernel_rfl | omega | assumption) ?_
    | with_reducible refine st_agg (by kernel_rfl) rfl (by simp only [natV, intV, List.mem_cons, List.not_mem_nil, or_false, forall_eq_or_imp, forall_eq, one_int, one_bool, one_slice, one_ptr, and_self, *]) fun _ _ _ _ => ?_
    | with_reducible refine wpd_quiet_lit (by kernel_rfl) (by kernel_rfl) (by kernel_rfl) ?_
    | simp (maxDischargeDepth := 3) only [↓X, ↓Y, V, U, Z, ↓Q, Tsl, Tarr, Ttk, Tfl, Tint, Tbool, Tbld, Tze, Tzel, Tcall, ↓reduceIte, Nat.reduceEqDiff, Nat.reduceAdd, Nat.add_zero, Nat.zero_add, Int.toNat_natCast, Int.natCast_nonneg, true_and, and_true, and_self, List.nil_append, List.cons_append, U2, List.getElem?_cons_zero, List.getElem?_cons_succ, List.append_nil, List.length_map, Bool.not_true, Bool.not_false, decide_true, decide_false, eq_self, ne_eq, not_false_eq_true, Int.reduceLT, Int.reduceLE, Int.reduceNeg, nat_lt0, mid_none, mid_some, natV, intV, Int.ofNat_lt, Int.ofNat_le, Int.toNat_zero, Nat.mul_one, Nat.zero_mul, add_none, Nat.le_refl, Nat.lt_irrefl, nat0, bne_self_eq_false, beq_self_eq_true, Int.reduceBEq, Int.reduceBNe, Int.reduceEq, Bool.false_eq_true, Bool.true_or, Bool.false_or, Bool.true_and, Bool.false_and, Bool.or_true, Bool.or_false, Bool.and_true, Bool.and_false, putAt, List.set_cons_zero, List.set_cons_succ, List.length_cons, List.length_nil, Nat.reduceLeDiff, idxOk, flatP, Nat.reduceMul, Nat.reduceLT, *]
    | simp (singlePass := true) (maxDischargeDepth := 99) only [*, Nat.le_refl, not_false_eq_true, and_self])
      rfl
    · rintro k m g w2 hk hlt _ _ _ hw ⟨hi, h9, hf⟩
      simp (maxDischargeDepth := 3) only [U, ↓reduceIte, Nat.reduceEqDiff, *] at hf
      have hw2 : IntKind.i64.wrap (2 * ((2 ^ k : Nat) : Int)) = ((2 ^ (k + 1) : Nat) : Int) := by
        have := two_pow_le (k := k + 1) (by omega)
        rw [show 2 * ((2 ^ k : Nat) : Int) = ((2 ^ (k + 1) : Nat) : Int) by rw [Nat.pow_succ]; omega, wrap_nat (by omega)]
      (repeat' first
    | with_reducible refine alloc_k fun _ _ _ _ _ _ => ?_
    | with_reducible refine row_k fun _ _ _ _ _ _ => ?_
    | with_reducible refine fork (fun _ => ?_) (fun _ => ?_)
    | with_reducible refine tail_k fun _ _ _ => ?_
    | with_reducible refine ext_k fun _ _ _ => ?_
    | with_reducible refine need (by first | kernel_rfl | omega | assumption) ?_
    | with_reducible refine st_agg (by kernel_rfl) rfl (by simp only [natV, intV, List.mem_cons, List.not_mem_nil, or_false, forall_eq_or_imp, forall_eq, one_int, one_bool, one_slice, one_ptr, and_self, *]) fun _ _ _ _ => ?_
    | with_reducible refine wpd_quiet_lit (by kernel_rfl) (by kernel_rfl) (by kernel_rfl) ?_
    | simp (maxDischargeDepth := 3) only [↓X, ↓Y, V, U, Z, ↓Q, Tsl, Tarr, Ttk, Tfl, Tint, Tbool, Tbld, Tze, Tzel, Tcall, ↓reduceIte, Nat.reduceEqDiff, Nat.reduceAdd, Nat.add_zero, Nat.zero_add, Int.toNat_natCast, Int.natCast_nonneg, true_and, and_true, and_self, List.nil_append, List.cons_append, U2, List.getElem?_cons_zero, List.getElem?_cons_succ, List.append_nil, List.length_map, Bool.not_true, Bool.not_false, decide_true, decide_false, eq_self, ne_eq, not_false_eq_true, Int.reduceLT, Int.reduceLE, Int.reduceNeg, nat_lt0, mid_none, mid_some, natV, intV, Int.ofNat_lt, Int.ofNat_le, Int.toNat_zero, Nat.mul_one, Nat.zero_mul, add_none, Nat.le_refl, Nat.lt_irrefl, nat0, bne_self_eq_false, beq_self_eq_true, Int.reduceBEq, Int.reduceBNe, Int.reduceEq, Bool.false_eq_true, Bool.true_or, Bool.false_or, Bool.true_and, Bool.false_and, Bool.or_true, Bool.or_false, Bool.and_true, Bool.and_false, putAt, List.set_cons_zero, List.set_cons_succ, List.length_cons, List.length_nil, Nat.reduceLeDiff, idxOk, flatP, Nat.reduceMul, Nat.reduceLT, *]
    | simp (singlePass := true) (maxDischargeDepth := 99) only [*, Nat.le_refl, not_false_eq_true, and_self])
      refine next_k hk hlt ?_ (by simp (singlePass := true) (maxDischargeDepth := 99) only [*, Nat.le_refl, not_false_eq_true, and_self])
      (repeat' first
    | with_reducible refine alloc_k fun _ _ _ _ _ _ => ?_
    | with_reducible refine row_k fun _ _ _ _ _ _ => ?_
    | with_reducible refine fork (fun _ => ?_) (fun _ => ?_)
    | with_reducible refine tail_k fun _ _ _ => ?_
    | with_reducible refine ext_k fun _ _ _ => ?_
    | with_reducible refine need (by first | kernel_rfl | omega | assumption) ?_
    | with_reducible refine st_agg (by kernel_rfl) rfl (by simp only [natV, intV, List.mem_cons, List.not_mem_nil, or_false, forall_eq_or_imp, forall_eq, one_int, one_bool, one_slice, one_ptr, and_self, *]) fun _ _ _ _ => ?_
    | with_reducible refine wpd_quiet_lit (by kernel_rfl) (by kernel_rfl) (by kernel_rfl) ?_
    | simp (maxDischargeDepth := 3) only [↓X, ↓Y, V, U, Z, ↓Q, Tsl, Tarr, Ttk, Tfl, Tint, Tbool, Tbld, Tze, Tzel, Tcall, ↓reduceIte, Nat.reduceEqDiff, Nat.reduceAdd, Nat.add_zero, Nat.zero_add, Int.toNat_natCast, Int.natCast_nonneg, true_and, and_true, and_self, List.nil_append, List.cons_append, U2, List.getElem?_cons_zero, List.getElem?_cons_succ, List.append_nil, List.length_map, Bool.not_true, Bool.not_false, decide_true, decide_false, eq_self, ne_eq, not_false_eq_true, Int.reduceLT, Int.reduceLE, Int.reduceNeg, nat_lt0, mid_none, mid_some, natV, intV, Int.ofNat_lt, Int.ofNat_le, Int.toNat_zero, Nat.mul_one, Nat.zero_mul, add_none, Nat.le_refl, Nat.lt_irrefl, nat0, bne_self_eq_false, beq_self_eq_true, Int.reduceBEq, Int.reduceBNe, Int.reduceEq, Bool.false_eq_true, Bool.true_or, Bool.false_or, Bool.true_and, Bool.false_and, Bool.or_true, Bool.or_false, Bool.and_true, Bool.and_false, putAt, List.set_cons_zero, List.set_cons_succ, List.length_cons, List.length_nil, Nat.reduceLeDiff, idxOk, flatP, Nat.reduceMul, Nat.reduceLT, *]
    | simp (singlePass := true) (maxDischargeDepth := 99) only [*, Nat.le_refl, not_false_eq_true, and_self])
    · rintro g w2 n2 s2 _ ⟨hi, h9, hf⟩
      simp (maxDischargeDepth := 3) only [U, ↓reduceIte, Nat.reduceEqDiff, *] at hf
      have hN0 : 0 < 2 ^ p.steps.length := Nat.pow_pos (by decide)
      have hNl := two_pow_le hsm
      have hin : Hid (∀ x, idealB p x = true → x < 2 ^ p.steps.length) := fun x h => by simp only [idealB, Bool.and_eq_true, decide_eq_true_eq] at h; exact h.1
      have hids : Hid (idealsL p = (List.range (2 ^ p.steps.length)).filter (idealB p)) := rfl
      generalize 2 ^ p.steps.length = N at *
      (repeat' first
    | with_reducible refine alloc_k fun _ _ _ _ _ _ => ?_
    | with_reducible refine row_k fun _ _ _ _ _ _ => ?_
    | with_reducible refine fork (fun _ => ?_) (fun _ => ?_)
    | with_reducible refine tail_k fun _ _ _ => ?_
    | with_reducible refine ext_k fun _ _ _ => ?_
    | with_reducible refine need (by first | kernel_rfl | omega | assumption) ?_
    | with_reducible refine st_agg (by kernel_rfl) rfl (by simp only [natV, intV, List.mem_cons, List.not_mem_nil, or_false, forall_eq_or_imp, forall_eq, one_int, one_bool, one_slice, one_ptr, and_self, *]) fun _ _ _ _ => ?_
    | with_reducible refine wpd_quiet_lit (by kernel_rfl) (by kernel_rfl) (by kernel_rfl) ?_
    | simp (maxDischargeDepth := 3) only [↓X, ↓Y, V, U, Z, ↓Q, Tsl, Tarr, Ttk, Tfl, Tint, Tbool, Tbld, Tze, Tzel, Tcall, ↓reduceIte, Nat.reduceEqDiff, Nat.reduceAdd, Nat.add_zero, Nat.zero_add, Int.toNat_natCast, Int.natCast_nonneg, true_and, and_true, and_self, List.nil_append, List.cons_append, U2, List.getElem?_cons_zero, List.getElem?_cons_succ, List.append_nil, List.length_map, Bool.not_true, Bool.not_false, decide_true, decide_false, eq_self, ne_eq, not_false_eq_true, Int.reduceLT, Int.reduceLE, Int.reduceNeg, nat_lt0, mid_none, mid_some, natV, intV, Int.ofNat_lt, Int.ofNat_le, Int.toNat_zero, Nat.mul_one, Nat.zero_mul, add_none, Nat.le_refl, Nat.lt_irrefl, nat0, bne_self_eq_false, beq_self_eq_true, Int.reduceBEq, Int.reduceBNe, Int.reduceEq, Bool.false_eq_true, Bool.true_or, Bool.false_or, Bool.true_and, Bool.false_and, Bool.or_true, Bool.or_false, Bool.and_true, Bool.and_false, putAt, List.set_cons_zero, List.set_cons_succ, List.length_cons, List.length_nil, Nat.reduceLeDiff, idxOk, flatP, Nat.reduceMul, Nat.reduceLT, *]
    | simp (singlePass := true) (maxDischargeDepth := 99) only [*, Nat.le_refl, not_false_eq_true, and_self])
      refine mk_one_k rfl (by decide) (by omega) fun b w3 n3 k3 s3 q3 => ?_
      rw [show List.replicate N (Value.bool false) = (List.range N).map fun x => Value.bool ((fun _ => false) x) by rw [List.map_const']; simp] at k3
      (repeat' first
    | with_reducible refine alloc_k fun _ _ _ _ _ _ => ?_
    | with_reducible refine row_k fun _ _ _ _ _ _ => ?_
    | with_reducible refine fork (fun _ => ?_) (fun _ => ?_)
    | with_reducible refine tail_k fun _ _ _ => ?_
    | with_reducible refine ext_k fun _ _ _ => ?_
    | with_reducible refine need (by first | kernel_rfl | omega | assumption) ?_
    | with_reducible refine st_agg (by kernel_rfl) rfl (by simp only [natV, intV, List.mem_cons, List.not_mem_nil, or_false, forall_eq_or_imp, forall_eq, one_int, one_bool, one_slice, one_ptr, and_self, *]) fun _ _ _ _ => ?_
    | with_reducible refine wpd_quiet_lit (by kernel_rfl) (by kernel_rfl) (by kernel_rfl) ?_
    | simp (maxDischargeDepth := 3) only [↓X, ↓Y, V, U, Z, ↓Q, Tsl, Tarr, Ttk, Tfl, Tint, Tbool, Tbld, Tze, Tzel, Tcall, ↓reduceIte, Nat.reduceEqDiff, Nat.reduceAdd, Nat.add_zero, Nat.zero_add, Int.toNat_natCast, Int.natCast_nonneg, true_and, and_true, and_self, List.nil_append, List.cons_append, U2, List.getElem?_cons_zero, List.getElem?_cons_succ, List.append_nil, List.length_map, Bool.not_true, Bool.not_false, decide_true, decide_false, eq_self, ne_eq, not_false_eq_true, Int.reduceLT, Int.reduceLE, Int.reduceNeg, nat_lt0, mid_none, mid_some, natV, intV, Int.ofNat_lt, Int.ofNat_le, Int.toNat_zero, Nat.mul_one, Nat.zero_mul, add_none, Nat.le_refl, Nat.lt_irrefl, nat0, bne_self_eq_false, beq_self_eq_true, Int.reduceBEq, Int.reduceBNe, Int.reduceEq, Bool.false_eq_true, Bool.true_or, Bool.false_or, Bool.true_and, Bool.false_and, Bool.or_true, Bool.or_false, Bool.and_true, Bool.and_false, putAt, List.set_cons_zero, List.set_cons_succ, List.length_cons, List.length_nil, Nat.reduceLeDiff, idxOk, flatP, Nat.reduceMul, Nat.reduceLT, *]
    | simp (singlePass := true) (maxDischargeDepth := 99) only [*, Nat.le_refl, not_false_eq_true, and_self])
      refine st_one (by kernel_rfl) (by simpa using hN0) rfl fun w4 n4 k4 s4 => ?_
      have hF : ((List.range N).map fun x => Value.bool ((fun _ => false) x)).set 0 (.bool true) = (List.range N).map fun x => Value.bool (grownB p [] x) := by rw [rb_set]; simp [grownB]
      rw [hF] at k4
      (repeat' first
    | with_reducible refine alloc_k fun _ _ _ _ _ _ => ?_
    | with_reducible refine row_k fun _ _ _ _ _ _ => ?_
    | with_reducible refine fork (fun _ => ?_) (fun _ => ?_)
    | with_reducible refine tail_k fun _ _ _ => ?_
    | with_reducible refine ext_k fun _ _ _ => ?_
    | with_reducible refine need (by first | kernel_rfl | omega | assumption) ?_
    | with_reducible refine st_agg (by kernel_rfl) rfl (by simp only [natV, intV, List.mem_cons, List.not_mem_nil, or_false, forall_eq_or_imp, forall_eq, one_int, one_bool, one_slice, one_ptr, and_self, *]) fun _ _ _ _ => ?_
    | with_reducible refine wpd_quiet_lit (by kernel_rfl) (by kernel_rfl) (by kernel_rfl) ?_
    | simp (maxDischargeDepth := 3) only [↓X, ↓Y, V, U, Z, ↓Q, Tsl, Tarr, Ttk, Tfl, Tint, Tbool, Tbld, Tze, Tzel, Tcall, ↓reduceIte, Nat.reduceEqDiff, Nat.reduceAdd, Nat.add_zero, Nat.zero_add, Int.toNat_natCast, Int.natCast_nonneg, true_and, and_true, and_self, List.nil_append, List.cons_append, U2, List.getElem?_cons_zero, List.getElem?_cons_succ, List.append_nil, List.length_map, Bool.not_true, Bool.not_false, decide_true, decide_false, eq_self, ne_eq, not_false_eq_true, Int.reduceLT, Int.reduceLE, Int.reduceNeg, nat_lt0, mid_none, mid_some, natV, intV, Int.ofNat_lt, Int.ofNat_le, Int.toNat_zero, Nat.mul_one, Nat.zero_mul, add_none, Nat.le_refl, Nat.lt_irrefl, nat0, bne_self_eq_false, beq_self_eq_true, Int.reduceBEq, Int.reduceBNe, Int.reduceEq, Bool.false_eq_true, Bool.true_or, Bool.false_or, Bool.true_and, Bool.false_and, Bool.or_true, Bool.or_false, Bool.and_true, Bool.and_false, putAt, List.set_cons_zero, List.set_cons_succ, List.length_cons, List.length_nil, Nat.reduceLeDiff, idxOk, flatP, Nat.reduceMul, Nat.reduceLT, *]
    | simp (singlePass := true) (maxDischargeDepth := 99) only [*, Nat.le_refl, not_false_eq_true, and_self])
      refine loop_b b (idealsL p).length (fun g0 k g w' => g 12 = .int .i64 k ∧ (g 3 = g0 3 ∧ g 4 = g0 4 ∧ g 5 = g0 5 ∧ g 7 = g0 7 ∧ g 9 = g0 9 ∧ g 11 = g0 11) ∧ Blk w' b 4 ((List.range N).map fun x => Value.bool (grownB p ((idealsL p).take k) x))) (by kernel_rfl) (by omega) (by simp (singlePass := true) (maxDischargeDepth := 99) only [*, Nat.le_refl, not_false_eq_true, and_self]) ?_ ?_ ?_
      · (repeat' first
    | with_reducible refine alloc_k fun _ _ _ _ _ _ => ?_
    | with_reducible refine row_k fun _ _ _ _ _ _ => ?_
    | with_reducible refine fork (fun _ => ?_) (fun _ => ?_)
    | with_reducible refine tail_k fun _ _ _ => ?_
    | with_reducible refine ext_k fun _ _ _ => ?_
    | with_reducible refine need (by first | kernel_rfl | omega | assumption) ?_
    | with_reducible refine st_agg (by kernel_rfl) rfl (by simp only [natV, intV, List.mem_cons, List.not_mem_nil, or_false, forall_eq_or_imp, forall_eq, one_int, one_bool, one_slice, one_ptr, and_self, *]) fun _ _ _ _ => ?_
    | with_reducible refine wpd_quiet_lit (by kernel_rfl) (by kernel_rfl) (by kernel_rfl) ?_
    | simp (maxDischargeDepth := 3) only [↓X, ↓Y, V, U, Z, ↓Q, Tsl, Tarr, Ttk, Tfl, Tint, Tbool, Tbld, Tze, Tzel, Tcall, ↓reduceIte, Nat.reduceEqDiff, Nat.reduceAdd, Nat.add_zero, Nat.zero_add, Int.toNat_natCast, Int.natCast_nonneg, true_and, and_true, and_self, List.nil_append, List.cons_append, U2, List.getElem?_cons_zero, List.getElem?_cons_succ, List.append_nil, List.length_map, Bool.not_true, Bool.not_false, decide_true, decide_false, eq_self, ne_eq, not_false_eq_true, Int.reduceLT, Int.reduceLE, Int.reduceNeg, nat_lt0, mid_none, mid_some, natV, intV, Int.ofNat_lt, Int.ofNat_le, Int.toNat_zero, Nat.mul_one, Nat.zero_mul, add_none, Nat.le_refl, Nat.lt_irrefl, nat0, bne_self_eq_false, beq_self_eq_true, Int.reduceBEq, Int.reduceBNe, Int.reduceEq, Bool.false_eq_true, Bool.true_or, Bool.false_or, Bool.true_and, Bool.false_and, Bool.or_true, Bool.or_false, Bool.and_true, Bool.and_false, putAt, List.set_cons_zero, List.set_cons_succ, List.length_cons, List.length_nil, Nat.reduceLeDiff, idxOk, flatP, Nat.reduceMul, Nat.reduceLT, *, List.take_zero]
    | simp (singlePass := true) (maxDischargeDepth := 99) only [*, Nat.le_refl, not_false_eq_true, and_self, List.take_zero])
      · rintro k m g w5 hk hlt n5 s5 b5 l5 hw ⟨hi, hf, hbk⟩
        simp (maxDischargeDepth := 3) only [U, ↓reduceIte, Nat.reduceEqDiff, *] at hf
        have k5 := hbk.bk
        have hd := mem_ideals.1 (List.getElem_mem hlt)
        have hseen := grown_seen hsh hac hlt
        have hord := ideals_sorted p (i := k - 1) (j := k)
        generalize hdk : (idealsL p)[k] = d at *
        have hdN := hin.out d hd
        have hNd : ¬ N ≤ d := by omega
        have hdl := idealB_lt hsh hd
        have hgd := rb_get (F := grownB p ((idealsL p).take k)) hdN
        have hgrow : (fun x : Nat => grownB p ((idealsL p).take k) x || (enabledL p d).any fun q => x == d ||| 2 ^ q) = grownB p ((idealsL p).take (k + 1)) := by
          funext x
          simp only [grownB, any_take hlt, hdk, Bool.or_assoc]
        have hgrow : Hid (((List.range N).map fun x => Value.bool (grownB p ((idealsL p).take k) x || (enabledL p d).any fun q => x == d ||| 2 ^ q)) = (List.range N).map fun x => Value.bool (grownB p ((idealsL p).take (k + 1)) x)) := congrArg (fun F : Nat → Bool => (List.range N).map fun x => Value.bool (F x)) hgrow
        have henl : (enabledL p d).length ≤ 12 := Nat.le_trans (List.length_filter_le _ _) (by simpa using hsm)
        have ha0 : askedE 0 p (d : Int) = 0 := by simp [askedE, idealI, hd]
        obtain ⟨c, hc⟩ : ∃ c, decide ((0 : Int) < (k : Int)) = c := ⟨_, rfl⟩
        have hprev : c = true → IntKind.i64.wrap ((k : Int) - 1) = ((k - 1 : Nat) : Int) ∧ k - 1 < (idealsL p).length ∧ ∀ h : k - 1 < (idealsL p).length, ¬ d ≤ (idealsL p)[k - 1] := by
          intro h
          rw [h] at hc
          have h0 : 0 < k := by have := of_decide_eq_true hc; omega
          refine ⟨by rw [show (k : Int) - 1 = ((k - 1 : Nat) : Int) by omega, wrap_nat (by omega)], by omega, fun h1 => ?_⟩
          have := hord (by omega) hlt
          omega
        clear hord
        cases c
        · clear hprev
          (repeat' first
    | ((with_reducible refine wpd_at 18 ?_); refine wpd_mid (m := 7) (by kernel_rfl) (by kernel_rfl) (by kernel_rfl) rfl ?_)
    | with_reducible refine alloc_k fun _ _ _ _ _ _ => ?_
    | with_reducible refine row_k fun _ _ _ _ _ _ => ?_
    | with_reducible refine fork (fun _ => ?_) (fun _ => ?_)
    | with_reducible refine tail_k fun _ _ _ => ?_
    | with_reducible refine ext_k fun _ _ _ => ?_
    | with_reducible refine need (by first | kernel_rfl | omega | assumption) ?_
    | with_reducible refine st_agg (by kernel_rfl) rfl (by simp only [natV, intV, List.mem_cons, List.not_mem_nil, or_false, forall_eq_or_imp, forall_eq, one_int, one_bool, one_slice, one_ptr, and_self, *]) fun _ _ _ _ => ?_
    | with_reducible refine wpd_quiet_lit (by kernel_rfl) (by kernel_rfl) (by kernel_rfl) ?_
    | simp (maxDischargeDepth := 3) only [↓X, ↓Y, V, U, Z, ↓Q, Tsl, Tarr, Ttk, Tfl, Tint, Tbool, Tbld, Tze, Tzel, Tcall, ↓reduceIte, Nat.reduceEqDiff, Nat.reduceAdd, Nat.add_zero, Nat.zero_add, Int.toNat_natCast, Int.natCast_nonneg, true_and, and_true, and_self, List.nil_append, List.cons_append, U2, List.getElem?_cons_zero, List.getElem?_cons_succ, List.append_nil, List.length_map, Bool.not_true, Bool.not_false, decide_true, decide_false, eq_self, ne_eq, not_false_eq_true, Int.reduceLT, Int.reduceLE, Int.reduceNeg, nat_lt0, mid_none, mid_some, natV, intV, Int.ofNat_lt, Int.ofNat_le, Int.toNat_zero, Nat.mul_one, Nat.zero_mul, add_none, Nat.le_refl, Nat.lt_irrefl, nat0, bne_self_eq_false, beq_self_eq_true, Int.reduceBEq, Int.reduceBNe, Int.reduceEq, Bool.false_eq_true, Bool.true_or, Bool.false_or, Bool.true_and, Bool.false_and, Bool.or_true, Bool.or_false, Bool.and_true, Bool.and_false, putAt, List.set_cons_zero, List.set_cons_succ, List.length_cons, List.length_nil, Nat.reduceLeDiff, idxOk, flatP, Nat.reduceMul, Nat.reduceLT, *]
    | simp (singlePass := true) (maxDischargeDepth := 99) only [*, Nat.le_refl, not_false_eq_true, and_self])
          refine call_k (planEnabledX (B := B) (x := (d : Int)) (by simp (singlePass := true) (maxDischargeDepth := 99) only [*, Nat.le_refl, not_false_eq_true, and_self]) (by simp (singlePass := true) (maxDischargeDepth := 99) only [*, Nat.le_refl, not_false_eq_true, and_self]) (hS _ (by simp (singlePass := true) (maxDischargeDepth := 99) only [*, Nat.le_refl, not_false_eq_true, and_self])) (hW _ (by simp (singlePass := true) (maxDischargeDepth := 99) only [*, Nat.le_refl, not_false_eq_true, and_self])) (hP _ (by simp (singlePass := true) (maxDischargeDepth := 99) only [*, Nat.le_refl, not_false_eq_true, and_self])) he.out) ?_
          rintro _ w6 n6 s6 ⟨v6, rfl, hown6⟩
          rw [ha0, if_pos rfl] at hown6
          have h6 := (hown6.sl1 (f := natV)).k (Nat.le_refl _)
          have hne6 := hown6.far (b := b) (by simp (singlePass := true) (maxDischargeDepth := 99) only [*, Nat.le_refl, not_false_eq_true, and_self])
          simp only [Int.toNat_natCast] at h6
          (repeat' first
    | with_reducible refine alloc_k fun _ _ _ _ _ _ => ?_
    | with_reducible refine row_k fun _ _ _ _ _ _ => ?_
    | with_reducible refine fork (fun _ => ?_) (fun _ => ?_)
    | with_reducible refine tail_k fun _ _ _ => ?_
    | with_reducible refine ext_k fun _ _ _ => ?_
    | with_reducible refine need (by first | kernel_rfl | omega | assumption) ?_
    | with_reducible refine st_agg (by kernel_rfl) rfl (by simp only [natV, intV, List.mem_cons, List.not_mem_nil, or_false, forall_eq_or_imp, forall_eq, one_int, one_bool, one_slice, one_ptr, and_self, *]) fun _ _ _ _ => ?_
    | with_reducible refine wpd_quiet_lit (by kernel_rfl) (by kernel_rfl) (by kernel_rfl) ?_
    | simp (maxDischargeDepth := 3) only [↓X, ↓Y, V, U, Z, ↓Q, Tsl, Tarr, Ttk, Tfl, Tint, Tbool, Tbld, Tze, Tzel, Tcall, ↓reduceIte, Nat.reduceEqDiff, Nat.reduceAdd, Nat.add_zero, Nat.zero_add, Int.toNat_natCast, Int.natCast_nonneg, true_and, and_true, and_self, List.nil_append, List.cons_append, U2, List.getElem?_cons_zero, List.getElem?_cons_succ, List.append_nil, List.length_map, Bool.not_true, Bool.not_false, decide_true, decide_false, eq_self, ne_eq, not_false_eq_true, Int.reduceLT, Int.reduceLE, Int.reduceNeg, nat_lt0, mid_none, mid_some, natV, intV, Int.ofNat_lt, Int.ofNat_le, Int.toNat_zero, Nat.mul_one, Nat.zero_mul, add_none, Nat.le_refl, Nat.lt_irrefl, nat0, bne_self_eq_false, beq_self_eq_true, Int.reduceBEq, Int.reduceBNe, Int.reduceEq, Bool.false_eq_true, Bool.true_or, Bool.false_or, Bool.true_and, Bool.false_and, Bool.or_true, Bool.or_false, Bool.and_true, Bool.and_false, putAt, List.set_cons_zero, List.set_cons_succ, List.length_cons, List.length_nil, Nat.reduceLeDiff, idxOk, flatP, Nat.reduceMul, Nat.reduceLT, *, ha0]
    | simp (singlePass := true) (maxDischargeDepth := 99) only [*, Nat.le_refl, not_false_eq_true, and_self, ha0])
          refine loop_b b (enabledL p d).length (fun g0 k' g w' => g 15 = .int .i64 k' ∧ (g 3 = g0 3 ∧ g 4 = g0 4 ∧ g 5 = g0 5 ∧ g 7 = g0 7 ∧ g 9 = g0 9 ∧ g 11 = g0 11 ∧ g 12 = g0 12 ∧ g 13 = g0 13) ∧ Blk w' b 4 ((List.range N).map fun x => Value.bool (grownB p ((idealsL p).take k) x || ((enabledL p d).take k').any fun q => x == d ||| 2 ^ q))) (by kernel_rfl) (by omega) (by simp (singlePass := true) (maxDischargeDepth := 99) only [*, Nat.le_refl, not_false_eq_true, and_self]) ?_ ?_ ?_
          · (repeat' first
    | with_reducible refine alloc_k fun _ _ _ _ _ _ => ?_
    | with_reducible refine row_k fun _ _ _ _ _ _ => ?_
    | with_reducible refine fork (fun _ => ?_) (fun _ => ?_)
    | with_reducible refine tail_k fun _ _ _ => ?_
    | with_reducible refine ext_k fun _ _ _ => ?_
    | with_reducible refine need (by first | kernel_rfl | omega | assumption) ?_
    | with_reducible refine st_agg (by kernel_rfl) rfl (by simp only [natV, intV, List.mem_cons, List.not_mem_nil, or_false, forall_eq_or_imp, forall_eq, one_int, one_bool, one_slice, one_ptr, and_self, *]) fun _ _ _ _ => ?_
    | with_reducible refine wpd_quiet_lit (by kernel_rfl) (by kernel_rfl) (by kernel_rfl) ?_
    | simp (maxDischargeDepth := 3) only [↓X, ↓Y, V, U, Z, ↓Q, Tsl, Tarr, Ttk, Tfl, Tint, Tbool, Tbld, Tze, Tzel, Tcall, ↓reduceIte, Nat.reduceEqDiff, Nat.reduceAdd, Nat.add_zero, Nat.zero_add, Int.toNat_natCast, Int.natCast_nonneg, true_and, and_true, and_self, List.nil_append, List.cons_append, U2, List.getElem?_cons_zero, List.getElem?_cons_succ, List.append_nil, List.length_map, Bool.not_true, Bool.not_false, decide_true, decide_false, eq_self, ne_eq, not_false_eq_true, Int.reduceLT, Int.reduceLE, Int.reduceNeg, nat_lt0, mid_none, mid_some, natV, intV, Int.ofNat_lt, Int.ofNat_le, Int.toNat_zero, Nat.mul_one, Nat.zero_mul, add_none, Nat.le_refl, Nat.lt_irrefl, nat0, bne_self_eq_false, beq_self_eq_true, Int.reduceBEq, Int.reduceBNe, Int.reduceEq, Bool.false_eq_true, Bool.true_or, Bool.false_or, Bool.true_and, Bool.false_and, Bool.or_true, Bool.or_false, Bool.and_true, Bool.and_false, putAt, List.set_cons_zero, List.set_cons_succ, List.length_cons, List.length_nil, Nat.reduceLeDiff, idxOk, flatP, Nat.reduceMul, Nat.reduceLT, *, List.take_zero, List.any_nil]
    | simp (singlePass := true) (maxDischargeDepth := 99) only [*, Nat.le_refl, not_false_eq_true, and_self, List.take_zero, List.any_nil])
          · rintro k' m' g w7 hk' hlt' n7 s7 b7 l7 hw7 ⟨hi', hf', hbk'⟩
            simp (maxDischargeDepth := 3) only [U, ↓reduceIte, Nat.reduceEqDiff, *] at hf'
            have k7 := hbk'.bk
            obtain ⟨e1, e2, e3⟩ := mem_enabled.1 (List.getElem_mem hlt')
            have hat := any_take hlt'
            generalize hqk : (enabledL p d)[k'] = q at *
            have hqs : ¬ p.steps.length ≤ q := by omega
            have hadd := add_bit hdl (by omega) e2
            have hnx := hin.out _ (ideal_with hd e1 e3)
            generalize hxx : d ||| 2 ^ q = x at *
            have hst : ((List.range N).map fun y => Value.bool (grownB p ((idealsL p).take k) y || ((enabledL p d).take k').any fun q => y == d ||| 2 ^ q)).set x (.bool true) = (List.range N).map fun y => Value.bool (grownB p ((idealsL p).take k) y || ((enabledL p d).take (k' + 1)).any fun q => y == d ||| 2 ^ q) := by
              rw [rb_set (F := fun y => grownB p ((idealsL p).take k) y || ((enabledL p d).take k').any fun q => y == d ||| 2 ^ q)]
              simp only [hat, hxx, Bool.or_assoc]
            clear hxx hat
            (repeat' first
    | ((with_reducible refine wpd_at 26 ?_); refine wpd_cmid (m := 11) (by kernel_rfl) (by kernel_rfl) (by kernel_rfl) rfl ?_)
    | with_reducible refine alloc_k fun _ _ _ _ _ _ => ?_
    | with_reducible refine row_k fun _ _ _ _ _ _ => ?_
    | with_reducible refine fork (fun _ => ?_) (fun _ => ?_)
    | with_reducible refine tail_k fun _ _ _ => ?_
    | with_reducible refine ext_k fun _ _ _ => ?_
    | with_reducible refine need (by first | kernel_rfl | omega | assumption) ?_
    | with_reducible refine st_agg (by kernel_rfl) rfl (by simp only [natV, intV, List.mem_cons, List.not_mem_nil, or_false, forall_eq_or_imp, forall_eq, one_int, one_bool, one_slice, one_ptr, and_self, *]) fun _ _ _ _ => ?_
    | with_reducible refine wpd_quiet_lit (by kernel_rfl) (by kernel_rfl) (by kernel_rfl) ?_
    | ((with_reducible refine at_q 9 ?_); refine qret_k (fun _ _ _ => ref20In hdl (by omega)) ?_)
    | ((with_reducible refine at_q 11 ?_); refine qret_k (fun _ _ _ => ref20With hdl (by omega)) ?_)
    | simp (maxDischargeDepth := 3) only [↓X, ↓Y, V, U, Z, ↓Q, Tsl, Tarr, Ttk, Tfl, Tint, Tbool, Tbld, Tze, Tzel, Tcall, ↓reduceIte, Nat.reduceEqDiff, Nat.reduceAdd, Nat.add_zero, Nat.zero_add, Int.toNat_natCast, Int.natCast_nonneg, true_and, and_true, and_self, List.nil_append, List.cons_append, U2, List.getElem?_cons_zero, List.getElem?_cons_succ, List.append_nil, List.length_map, Bool.not_true, Bool.not_false, decide_true, decide_false, eq_self, ne_eq, not_false_eq_true, Int.reduceLT, Int.reduceLE, Int.reduceNeg, nat_lt0, mid_none, mid_some, natV, intV, Int.ofNat_lt, Int.ofNat_le, Int.toNat_zero, Nat.mul_one, Nat.zero_mul, add_none, Nat.le_refl, Nat.lt_irrefl, nat0, bne_self_eq_false, beq_self_eq_true, Int.reduceBEq, Int.reduceBNe, Int.reduceEq, Bool.false_eq_true, Bool.true_or, Bool.false_or, Bool.true_and, Bool.false_and, Bool.or_true, Bool.or_false, Bool.and_true, Bool.and_false, putAt, List.set_cons_zero, List.set_cons_succ, List.length_cons, List.length_nil, Nat.reduceLeDiff, idxOk, flatP, Nat.reduceMul, Nat.reduceLT, *]
    | simp (singlePass := true) (maxDischargeDepth := 99) only [*, Nat.le_refl, not_false_eq_true, and_self])
            refine st_one (by kernel_rfl) ?_ rfl fun w8 n8 k8 s8 => ?_
            · simpa using hnx
            rw [hst] at k8
            (repeat' first
    | with_reducible refine alloc_k fun _ _ _ _ _ _ => ?_
    | with_reducible refine row_k fun _ _ _ _ _ _ => ?_
    | with_reducible refine fork (fun _ => ?_) (fun _ => ?_)
    | with_reducible refine tail_k fun _ _ _ => ?_
    | with_reducible refine ext_k fun _ _ _ => ?_
    | with_reducible refine need (by first | kernel_rfl | omega | assumption) ?_
    | with_reducible refine st_agg (by kernel_rfl) rfl (by simp only [natV, intV, List.mem_cons, List.not_mem_nil, or_false, forall_eq_or_imp, forall_eq, one_int, one_bool, one_slice, one_ptr, and_self, *]) fun _ _ _ _ => ?_
    | with_reducible refine wpd_quiet_lit (by kernel_rfl) (by kernel_rfl) (by kernel_rfl) ?_
    | simp (maxDischargeDepth := 3) only [↓X, ↓Y, V, U, Z, ↓Q, Tsl, Tarr, Ttk, Tfl, Tint, Tbool, Tbld, Tze, Tzel, Tcall, ↓reduceIte, Nat.reduceEqDiff, Nat.reduceAdd, Nat.add_zero, Nat.zero_add, Int.toNat_natCast, Int.natCast_nonneg, true_and, and_true, and_self, List.nil_append, List.cons_append, U2, List.getElem?_cons_zero, List.getElem?_cons_succ, List.append_nil, List.length_map, Bool.not_true, Bool.not_false, decide_true, decide_false, eq_self, ne_eq, not_false_eq_true, Int.reduceLT, Int.reduceLE, Int.reduceNeg, nat_lt0, mid_none, mid_some, natV, intV, Int.ofNat_lt, Int.ofNat_le, Int.toNat_zero, Nat.mul_one, Nat.zero_mul, add_none, Nat.le_refl, Nat.lt_irrefl, nat0, bne_self_eq_false, beq_self_eq_true, Int.reduceBEq, Int.reduceBNe, Int.reduceEq, Bool.false_eq_true, Bool.true_or, Bool.false_or, Bool.true_and, Bool.false_and, Bool.or_true, Bool.or_false, Bool.and_true, Bool.and_false, putAt, List.set_cons_zero, List.set_cons_succ, List.length_cons, List.length_nil, Nat.reduceLeDiff, idxOk, flatP, Nat.reduceMul, Nat.reduceLT, *]
    | simp (singlePass := true) (maxDischargeDepth := 99) only [*, Nat.le_refl, not_false_eq_true, and_self])
            refine next_b hk' hlt' ?_ (by simp (singlePass := true) (maxDischargeDepth := 99) only [*, Nat.le_refl, not_false_eq_true, and_self])
            (repeat' first
    | with_reducible refine alloc_k fun _ _ _ _ _ _ => ?_
    | with_reducible refine row_k fun _ _ _ _ _ _ => ?_
    | with_reducible refine fork (fun _ => ?_) (fun _ => ?_)
    | with_reducible refine tail_k fun _ _ _ => ?_
    | with_reducible refine ext_k fun _ _ _ => ?_
    | with_reducible refine need (by first | kernel_rfl | omega | assumption) ?_
    | with_reducible refine st_agg (by kernel_rfl) rfl (by simp only [natV, intV, List.mem_cons, List.not_mem_nil, or_false, forall_eq_or_imp, forall_eq, one_int, one_bool, one_slice, one_ptr, and_self, *]) fun _ _ _ _ => ?_
    | with_reducible refine wpd_quiet_lit (by kernel_rfl) (by kernel_rfl) (by kernel_rfl) ?_
    | simp (maxDischargeDepth := 3) only [↓X, ↓Y, V, U, Z, ↓Q, Tsl, Tarr, Ttk, Tfl, Tint, Tbool, Tbld, Tze, Tzel, Tcall, ↓reduceIte, Nat.reduceEqDiff, Nat.reduceAdd, Nat.add_zero, Nat.zero_add, Int.toNat_natCast, Int.natCast_nonneg, true_and, and_true, and_self, List.nil_append, List.cons_append, U2, List.getElem?_cons_zero, List.getElem?_cons_succ, List.append_nil, List.length_map, Bool.not_true, Bool.not_false, decide_true, decide_false, eq_self, ne_eq, not_false_eq_true, Int.reduceLT, Int.reduceLE, Int.reduceNeg, nat_lt0, mid_none, mid_some, natV, intV, Int.ofNat_lt, Int.ofNat_le, Int.toNat_zero, Nat.mul_one, Nat.zero_mul, add_none, Nat.le_refl, Nat.lt_irrefl, nat0, bne_self_eq_false, beq_self_eq_true, Int.reduceBEq, Int.reduceBNe, Int.reduceEq, Bool.false_eq_true, Bool.true_or, Bool.false_or, Bool.true_and, Bool.false_and, Bool.or_true, Bool.or_false, Bool.and_true, Bool.and_false, putAt, List.set_cons_zero, List.set_cons_succ, List.length_cons, List.length_nil, Nat.reduceLeDiff, idxOk, flatP, Nat.reduceMul, Nat.reduceLT, *]
    | simp (singlePass := true) (maxDischargeDepth := 99) only [*, Nat.le_refl, not_false_eq_true, and_self])
          · rintro g w7 n7 s7 b7 l7 ⟨hi', hf', hbk'⟩
            simp (maxDischargeDepth := 3) only [U, ↓reduceIte, Nat.reduceEqDiff, *] at hf'
            rw [take_all, hgrow.out] at hbk'
            have k7 := hbk'.bk
            (repeat' first
    | with_reducible refine alloc_k fun _ _ _ _ _ _ => ?_
    | with_reducible refine row_k fun _ _ _ _ _ _ => ?_
    | with_reducible refine fork (fun _ => ?_) (fun _ => ?_)
    | with_reducible refine tail_k fun _ _ _ => ?_
    | with_reducible refine ext_k fun _ _ _ => ?_
    | with_reducible refine need (by first | kernel_rfl | omega | assumption) ?_
    | with_reducible refine st_agg (by kernel_rfl) rfl (by simp only [natV, intV, List.mem_cons, List.not_mem_nil, or_false, forall_eq_or_imp, forall_eq, one_int, one_bool, one_slice, one_ptr, and_self, *]) fun _ _ _ _ => ?_
    | with_reducible refine wpd_quiet_lit (by kernel_rfl) (by kernel_rfl) (by kernel_rfl) ?_
    | simp (maxDischargeDepth := 3) only [↓X, ↓Y, V, U, Z, ↓Q, Tsl, Tarr, Ttk, Tfl, Tint, Tbool, Tbld, Tze, Tzel, Tcall, ↓reduceIte, Nat.reduceEqDiff, Nat.reduceAdd, Nat.add_zero, Nat.zero_add, Int.toNat_natCast, Int.natCast_nonneg, true_and, and_true, and_self, List.nil_append, List.cons_append, U2, List.getElem?_cons_zero, List.getElem?_cons_succ, List.append_nil, List.length_map, Bool.not_true, Bool.not_false, decide_true, decide_false, eq_self, ne_eq, not_false_eq_true, Int.reduceLT, Int.reduceLE, Int.reduceNeg, nat_lt0, mid_none, mid_some, natV, intV, Int.ofNat_lt, Int.ofNat_le, Int.toNat_zero, Nat.mul_one, Nat.zero_mul, add_none, Nat.le_refl, Nat.lt_irrefl, nat0, bne_self_eq_false, beq_self_eq_true, Int.reduceBEq, Int.reduceBNe, Int.reduceEq, Bool.false_eq_true, Bool.true_or, Bool.false_or, Bool.true_and, Bool.false_and, Bool.or_true, Bool.or_false, Bool.and_true, Bool.and_false, putAt, List.set_cons_zero, List.set_cons_succ, List.length_cons, List.length_nil, Nat.reduceLeDiff, idxOk, flatP, Nat.reduceMul, Nat.reduceLT, *]
    | simp (singlePass := true) (maxDischargeDepth := 99) only [*, Nat.le_refl, not_false_eq_true, and_self])
            refine next_b hk hlt ?_ (by simp (singlePass := true) (maxDischargeDepth := 99) only [*, Nat.le_refl, not_false_eq_true, and_self])
            (repeat' first
    | with_reducible refine alloc_k fun _ _ _ _ _ _ => ?_
    | with_reducible refine row_k fun _ _ _ _ _ _ => ?_
    | with_reducible refine fork (fun _ => ?_) (fun _ => ?_)
    | with_reducible refine tail_k fun _ _ _ => ?_
    | with_reducible refine ext_k fun _ _ _ => ?_
    | with_reducible refine need (by first | kernel_rfl | omega | assumption) ?_
    | with_reducible refine st_agg (by kernel_rfl) rfl (by simp only [natV, intV, List.mem_cons, List.not_mem_nil, or_false, forall_eq_or_imp, forall_eq, one_int, one_bool, one_slice, one_ptr, and_self, *]) fun _ _ _ _ => ?_
    | with_reducible refine wpd_quiet_lit (by kernel_rfl) (by kernel_rfl) (by kernel_rfl) ?_
    | simp (maxDischargeDepth := 3) only [↓X, ↓Y, V, U, Z, ↓Q, Tsl, Tarr, Ttk, Tfl, Tint, Tbool, Tbld, Tze, Tzel, Tcall, ↓reduceIte, Nat.reduceEqDiff, Nat.reduceAdd, Nat.add_zero, Nat.zero_add, Int.toNat_natCast, Int.natCast_nonneg, true_and, and_true, and_self, List.nil_append, List.cons_append, U2, List.getElem?_cons_zero, List.getElem?_cons_succ, List.append_nil, List.length_map, Bool.not_true, Bool.not_false, decide_true, decide_false, eq_self, ne_eq, not_false_eq_true, Int.reduceLT, Int.reduceLE, Int.reduceNeg, nat_lt0, mid_none, mid_some, natV, intV, Int.ofNat_lt, Int.ofNat_le, Int.toNat_zero, Nat.mul_one, Nat.zero_mul, add_none, Nat.le_refl, Nat.lt_irrefl, nat0, bne_self_eq_false, beq_self_eq_true, Int.reduceBEq, Int.reduceBNe, Int.reduceEq, Bool.false_eq_true, Bool.true_or, Bool.false_or, Bool.true_and, Bool.false_and, Bool.or_true, Bool.or_false, Bool.and_true, Bool.and_false, putAt, List.set_cons_zero, List.set_cons_succ, List.length_cons, List.length_nil, Nat.reduceLeDiff, idxOk, flatP, Nat.reduceMul, Nat.reduceLT, *]
    | simp (singlePass := true) (maxDischargeDepth := 99) only [*, Nat.le_refl, not_false_eq_true, and_self])
        · have hp3 := hprev rfl
          clear hprev
          (repeat' first
    | ((with_reducible refine wpd_at 18 ?_); refine wpd_mid (m := 7) (by kernel_rfl) (by kernel_rfl) (by kernel_rfl) rfl ?_)
    | with_reducible refine alloc_k fun _ _ _ _ _ _ => ?_
    | with_reducible refine row_k fun _ _ _ _ _ _ => ?_
    | with_reducible refine fork (fun _ => ?_) (fun _ => ?_)
    | with_reducible refine tail_k fun _ _ _ => ?_
    | with_reducible refine ext_k fun _ _ _ => ?_
    | with_reducible refine need (by first | kernel_rfl | omega | assumption) ?_
    | with_reducible refine st_agg (by kernel_rfl) rfl (by simp only [natV, intV, List.mem_cons, List.not_mem_nil, or_false, forall_eq_or_imp, forall_eq, one_int, one_bool, one_slice, one_ptr, and_self, *]) fun _ _ _ _ => ?_
    | with_reducible refine wpd_quiet_lit (by kernel_rfl) (by kernel_rfl) (by kernel_rfl) ?_
    | simp (maxDischargeDepth := 3) only [↓X, ↓Y, V, U, Z, ↓Q, Tsl, Tarr, Ttk, Tfl, Tint, Tbool, Tbld, Tze, Tzel, Tcall, ↓reduceIte, Nat.reduceEqDiff, Nat.reduceAdd, Nat.add_zero, Nat.zero_add, Int.toNat_natCast, Int.natCast_nonneg, true_and, and_true, and_self, List.nil_append, List.cons_append, U2, List.getElem?_cons_zero, List.getElem?_cons_succ, List.append_nil, List.length_map, Bool.not_true, Bool.not_false, decide_true, decide_false, eq_self, ne_eq, not_false_eq_true, Int.reduceLT, Int.reduceLE, Int.reduceNeg, nat_lt0, mid_none, mid_some, natV, intV, Int.ofNat_lt, Int.ofNat_le, Int.toNat_zero, Nat.mul_one, Nat.zero_mul, add_none, Nat.le_refl, Nat.lt_irrefl, nat0, bne_self_eq_false, beq_self_eq_true, Int.reduceBEq, Int.reduceBNe, Int.reduceEq, Bool.false_eq_true, Bool.true_or, Bool.false_or, Bool.true_and, Bool.false_and, Bool.or_true, Bool.or_false, Bool.and_true, Bool.and_false, putAt, List.set_cons_zero, List.set_cons_succ, List.length_cons, List.length_nil, Nat.reduceLeDiff, idxOk, flatP, Nat.reduceMul, Nat.reduceLT, *]
    | simp (singlePass := true) (maxDischargeDepth := 99) only [*, Nat.le_refl, not_false_eq_true, and_self])
          refine call_k (planEnabledX (B := B) (x := (d : Int)) (by simp (singlePass := true) (maxDischargeDepth := 99) only [*, Nat.le_refl, not_false_eq_true, and_self]) (by simp (singlePass := true) (maxDischargeDepth := 99) only [*, Nat.le_refl, not_false_eq_true, and_self]) (hS _ (by simp (singlePass := true) (maxDischargeDepth := 99) only [*, Nat.le_refl, not_false_eq_true, and_self])) (hW _ (by simp (singlePass := true) (maxDischargeDepth := 99) only [*, Nat.le_refl, not_false_eq_true, and_self])) (hP _ (by simp (singlePass := true) (maxDischargeDepth := 99) only [*, Nat.le_refl, not_false_eq_true, and_self])) he.out) ?_
          rintro _ w6 n6 s6 ⟨v6, rfl, hown6⟩
          rw [ha0, if_pos rfl] at hown6
          have h6 := (hown6.sl1 (f := natV)).k (Nat.le_refl _)
          have hne6 := hown6.far (b := b) (by simp (singlePass := true) (maxDischargeDepth := 99) only [*, Nat.le_refl, not_false_eq_true, and_self])
          simp only [Int.toNat_natCast] at h6
          (repeat' first
    | with_reducible refine alloc_k fun _ _ _ _ _ _ => ?_
    | with_reducible refine row_k fun _ _ _ _ _ _ => ?_
    | with_reducible refine fork (fun _ => ?_) (fun _ => ?_)
    | with_reducible refine tail_k fun _ _ _ => ?_
    | with_reducible refine ext_k fun _ _ _ => ?_
    | with_reducible refine need (by first | kernel_rfl | omega | assumption) ?_
    | with_reducible refine st_agg (by kernel_rfl) rfl (by simp only [natV, intV, List.mem_cons, List.not_mem_nil, or_false, forall_eq_or_imp, forall_eq, one_int, one_bool, one_slice, one_ptr, and_self, *]) fun _ _ _ _ => ?_
    | with_reducible refine wpd_quiet_lit (by kernel_rfl) (by kernel_rfl) (by kernel_rfl) ?_
    | simp (maxDischargeDepth := 3) only [↓X, ↓Y, V, U, Z, ↓Q, Tsl, Tarr, Ttk, Tfl, Tint, Tbool, Tbld, Tze, Tzel, Tcall, ↓reduceIte, Nat.reduceEqDiff, Nat.reduceAdd, Nat.add_zero, Nat.zero_add, Int.toNat_natCast, Int.natCast_nonneg, true_and, and_true, and_self, List.nil_append, List.cons_append, U2, List.getElem?_cons_zero, List.getElem?_cons_succ, List.append_nil, List.length_map, Bool.not_true, Bool.not_false, decide_true, decide_false, eq_self, ne_eq, not_false_eq_true, Int.reduceLT, Int.reduceLE, Int.reduceNeg, nat_lt0, mid_none, mid_some, natV, intV, Int.ofNat_lt, Int.ofNat_le, Int.toNat_zero, Nat.mul_one, Nat.zero_mul, add_none, Nat.le_refl, Nat.lt_irrefl, nat0, bne_self_eq_false, beq_self_eq_true, Int.reduceBEq, Int.reduceBNe, Int.reduceEq, Bool.false_eq_true, Bool.true_or, Bool.false_or, Bool.true_and, Bool.false_and, Bool.or_true, Bool.or_false, Bool.and_true, Bool.and_false, putAt, List.set_cons_zero, List.set_cons_succ, List.length_cons, List.length_nil, Nat.reduceLeDiff, idxOk, flatP, Nat.reduceMul, Nat.reduceLT, *, ha0]
    | simp (singlePass := true) (maxDischargeDepth := 99) only [*, Nat.le_refl, not_false_eq_true, and_self, ha0])
          refine loop_b b (enabledL p d).length (fun g0 k' g w' => g 15 = .int .i64 k' ∧ (g 3 = g0 3 ∧ g 4 = g0 4 ∧ g 5 = g0 5 ∧ g 7 = g0 7 ∧ g 9 = g0 9 ∧ g 11 = g0 11 ∧ g 12 = g0 12 ∧ g 13 = g0 13) ∧ Blk w' b 4 ((List.range N).map fun x => Value.bool (grownB p ((idealsL p).take k) x || ((enabledL p d).take k').any fun q => x == d ||| 2 ^ q))) (by kernel_rfl) (by omega) (by simp (singlePass := true) (maxDischargeDepth := 99) only [*, Nat.le_refl, not_false_eq_true, and_self]) ?_ ?_ ?_
          · (repeat' first
    | with_reducible refine alloc_k fun _ _ _ _ _ _ => ?_
    | with_reducible refine row_k fun _ _ _ _ _ _ => ?_
    | with_reducible refine fork (fun _ => ?_) (fun _ => ?_)
    | with_reducible refine tail_k fun _ _ _ => ?_
    | with_reducible refine ext_k fun _ _ _ => ?_
    | with_reducible refine need (by first | kernel_rfl | omega | assumption) ?_
    | with_reducible refine st_agg (by kernel_rfl) rfl (by simp only [natV, intV, List.mem_cons, List.not_mem_nil, or_false, forall_eq_or_imp, forall_eq, one_int, one_bool, one_slice, one_ptr, and_self, *]) fun _ _ _ _ => ?_
    | with_reducible refine wpd_quiet_lit (by kernel_rfl) (by kernel_rfl) (by kernel_rfl) ?_
    | simp (maxDischargeDepth := 3) only [↓X, ↓Y, V, U, Z, ↓Q, Tsl, Tarr, Ttk, Tfl, Tint, Tbool, Tbld, Tze, Tzel, Tcall, ↓reduceIte, Nat.reduceEqDiff, Nat.reduceAdd, Nat.add_zero, Nat.zero_add, Int.toNat_natCast, Int.natCast_nonneg, true_and, and_true, and_self, List.nil_append, List.cons_append, U2, List.getElem?_cons_zero, List.getElem?_cons_succ, List.append_nil, List.length_map, Bool.not_true, Bool.not_false, decide_true, decide_false, eq_self, ne_eq, not_false_eq_true, Int.reduceLT, Int.reduceLE, Int.reduceNeg, nat_lt0, mid_none, mid_some, natV, intV, Int.ofNat_lt, Int.ofNat_le, Int.toNat_zero, Nat.mul_one, Nat.zero_mul, add_none, Nat.le_refl, Nat.lt_irrefl, nat0, bne_self_eq_false, beq_self_eq_true, Int.reduceBEq, Int.reduceBNe, Int.reduceEq, Bool.false_eq_true, Bool.true_or, Bool.false_or, Bool.true_and, Bool.false_and, Bool.or_true, Bool.or_false, Bool.and_true, Bool.and_false, putAt, List.set_cons_zero, List.set_cons_succ, List.length_cons, List.length_nil, Nat.reduceLeDiff, idxOk, flatP, Nat.reduceMul, Nat.reduceLT, *, List.take_zero, List.any_nil]
    | simp (singlePass := true) (maxDischargeDepth := 99) only [*, Nat.le_refl, not_false_eq_true, and_self, List.take_zero, List.any_nil])
          · rintro k' m' g w7 hk' hlt' n7 s7 b7 l7 hw7 ⟨hi', hf', hbk'⟩
            simp (maxDischargeDepth := 3) only [U, ↓reduceIte, Nat.reduceEqDiff, *] at hf'
            have k7 := hbk'.bk
            obtain ⟨e1, e2, e3⟩ := mem_enabled.1 (List.getElem_mem hlt')
            have hat := any_take hlt'
            generalize hqk : (enabledL p d)[k'] = q at *
            have hqs : ¬ p.steps.length ≤ q := by omega
            have hadd := add_bit hdl (by omega) e2
            have hnx := hin.out _ (ideal_with hd e1 e3)
            generalize hxx : d ||| 2 ^ q = x at *
            have hst : ((List.range N).map fun y => Value.bool (grownB p ((idealsL p).take k) y || ((enabledL p d).take k').any fun q => y == d ||| 2 ^ q)).set x (.bool true) = (List.range N).map fun y => Value.bool (grownB p ((idealsL p).take k) y || ((enabledL p d).take (k' + 1)).any fun q => y == d ||| 2 ^ q) := by
              rw [rb_set (F := fun y => grownB p ((idealsL p).take k) y || ((enabledL p d).take k').any fun q => y == d ||| 2 ^ q)]
              simp only [hat, hxx, Bool.or_assoc]
            clear hxx hat
            (repeat' first
    | ((with_reducible refine wpd_at 26 ?_); refine wpd_cmid (m := 11) (by kernel_rfl) (by kernel_rfl) (by kernel_rfl) rfl ?_)
    | with_reducible refine alloc_k fun _ _ _ _ _ _ => ?_
    | with_reducible refine row_k fun _ _ _ _ _ _ => ?_
    | with_reducible refine fork (fun _ => ?_) (fun _ => ?_)
    | with_reducible refine tail_k fun _ _ _ => ?_
    | with_reducible refine ext_k fun _ _ _ => ?_
    | with_reducible refine need (by first | kernel_rfl | omega | assumption) ?_
    | with_reducible refine st_agg (by kernel_rfl) rfl (by simp only [natV, intV, List.mem_cons, List.not_mem_nil, or_false, forall_eq_or_imp, forall_eq, one_int, one_bool, one_slice, one_ptr, and_self, *]) fun _ _ _ _ => ?_
    | with_reducible refine wpd_quiet_lit (by kernel_rfl) (by kernel_rfl) (by kernel_rfl) ?_
    | ((with_reducible refine at_q 9 ?_); refine qret_k (fun _ _ _ => ref20In hdl (by omega)) ?_)
    | ((with_reducible refine at_q 11 ?_); refine qret_k (fun _ _ _ => ref20With hdl (by omega)) ?_)
    | simp (maxDischargeDepth := 3) only [↓X, ↓Y, V, U, Z, ↓Q, Tsl, Tarr, Ttk, Tfl, Tint, Tbool, Tbld, Tze, Tzel, Tcall, ↓reduceIte, Nat.reduceEqDiff, Nat.reduceAdd, Nat.add_zero, Nat.zero_add, Int.toNat_natCast, Int.natCast_nonneg, true_and, and_true, and_self, List.nil_append, List.cons_append, U2, List.getElem?_cons_zero, List.getElem?_cons_succ, List.append_nil, List.length_map, Bool.not_true, Bool.not_false, decide_true, decide_false, eq_self, ne_eq, not_false_eq_true, Int.reduceLT, Int.reduceLE, Int.reduceNeg, nat_lt0, mid_none, mid_some, natV, intV, Int.ofNat_lt, Int.ofNat_le, Int.toNat_zero, Nat.mul_one, Nat.zero_mul, add_none, Nat.le_refl, Nat.lt_irrefl, nat0, bne_self_eq_false, beq_self_eq_true, Int.reduceBEq, Int.reduceBNe, Int.reduceEq, Bool.false_eq_true, Bool.true_or, Bool.false_or, Bool.true_and, Bool.false_and, Bool.or_true, Bool.or_false, Bool.and_true, Bool.and_false, putAt, List.set_cons_zero, List.set_cons_succ, List.length_cons, List.length_nil, Nat.reduceLeDiff, idxOk, flatP, Nat.reduceMul, Nat.reduceLT, *]
    | simp (singlePass := true) (maxDischargeDepth := 99) only [*, Nat.le_refl, not_false_eq_true, and_self])
            refine st_one (by kernel_rfl) ?_ rfl fun w8 n8 k8 s8 => ?_
            · simpa using hnx
            rw [hst] at k8
            (repeat' first
    | with_reducible refine alloc_k fun _ _ _ _ _ _ => ?_
    | with_reducible refine row_k fun _ _ _ _ _ _ => ?_
    | with_reducible refine fork (fun _ => ?_) (fun _ => ?_)
    | with_reducible refine tail_k fun _ _ _ => ?_
    | with_reducible refine ext_k fun _ _ _ => ?_
    | with_reducible refine need (by first | kernel_rfl | omega | assumption) ?_
    | with_reducible refine st_agg (by kernel_rfl) rfl (by simp only [natV, intV, List.mem_cons, List.not_mem_nil, or_false, forall_eq_or_imp, forall_eq, one_int, one_bool, one_slice, one_ptr, and_self, *]) fun _ _ _ _ => ?_
    | with_reducible refine wpd_quiet_lit (by kernel_rfl) (by kernel_rfl) (by kernel_rfl) ?_
    | simp (maxDischargeDepth := 3) only [↓X, ↓Y, V, U, Z, ↓Q, Tsl, Tarr, Ttk, Tfl, Tint, Tbool, Tbld, Tze, Tzel, Tcall, ↓reduceIte, Nat.reduceEqDiff, Nat.reduceAdd, Nat.add_zero, Nat.zero_add, Int.toNat_natCast, Int.natCast_nonneg, true_and, and_true, and_self, List.nil_append, List.cons_append, U2, List.getElem?_cons_zero, List.getElem?_cons_succ, List.append_nil, List.length_map, Bool.not_true, Bool.not_false, decide_true, decide_false, eq_self, ne_eq, not_false_eq_true, Int.reduceLT, Int.reduceLE, Int.reduceNeg, nat_lt0, mid_none, mid_some, natV, intV, Int.ofNat_lt, Int.ofNat_le, Int.toNat_zero, Nat.mul_one, Nat.zero_mul, add_none, Nat.le_refl, Nat.lt_irrefl, nat0, bne_self_eq_false, beq_self_eq_true, Int.reduceBEq, Int.reduceBNe, Int.reduceEq, Bool.false_eq_true, Bool.true_or, Bool.false_or, Bool.true_and, Bool.false_and, Bool.or_true, Bool.or_false, Bool.and_true, Bool.and_false, putAt, List.set_cons_zero, List.set_cons_succ, List.length_cons, List.length_nil, Nat.reduceLeDiff, idxOk, flatP, Nat.reduceMul, Nat.reduceLT, *]
    | simp (singlePass := true) (maxDischargeDepth := 99) only [*, Nat.le_refl, not_false_eq_true, and_self])
            refine next_b hk' hlt' ?_ (by simp (singlePass := true) (maxDischargeDepth := 99) only [*, Nat.le_refl, not_false_eq_true, and_self])
            (repeat' first
    | with_reducible refine alloc_k fun _ _ _ _ _ _ => ?_
    | with_reducible refine row_k fun _ _ _ _ _ _ => ?_
    | with_reducible refine fork (fun _ => ?_) (fun _ => ?_)
    | with_reducible refine tail_k fun _ _ _ => ?_
    | with_reducible refine ext_k fun _ _ _ => ?_
    | with_reducible refine need (by first | kernel_rfl | omega | assumption) ?_
    | with_reducible refine st_agg (by kernel_rfl) rfl (by simp only [natV, intV, List.mem_cons, List.not_mem_nil, or_false, forall_eq_or_imp, forall_eq, one_int, one_bool, one_slice, one_ptr, and_self, *]) fun _ _ _ _ => ?_
    | with_reducible refine wpd_quiet_lit (by kernel_rfl) (by kernel_rfl) (by kernel_rfl) ?_
    | simp (maxDischargeDepth := 3) only [↓X, ↓Y, V, U, Z, ↓Q, Tsl, Tarr, Ttk, Tfl, Tint, Tbool, Tbld, Tze, Tzel, Tcall, ↓reduceIte, Nat.reduceEqDiff, Nat.reduceAdd, Nat.add_zero, Nat.zero_add, Int.toNat_natCast, Int.natCast_nonneg, true_and, and_true, and_self, List.nil_append, List.cons_append, U2, List.getElem?_cons_zero, List.getElem?_cons_succ, List.append_nil, List.length_map, Bool.not_true, Bool.not_false, decide_true, decide_false, eq_self, ne_eq, not_false_eq_true, Int.reduceLT, Int.reduceLE, Int.reduceNeg, nat_lt0, mid_none, mid_some, natV, intV, Int.ofNat_lt, Int.ofNat_le, Int.toNat_zero, Nat.mul_one, Nat.zero_mul, add_none, Nat.le_refl, Nat.lt_irrefl, nat0, bne_self_eq_false, beq_self_eq_true, Int.reduceBEq, Int.reduceBNe, Int.reduceEq, Bool.false_eq_true, Bool.true_or, Bool.false_or, Bool.true_and, Bool.false_and, Bool.or_true, Bool.or_false, Bool.and_true, Bool.and_false, putAt, List.set_cons_zero, List.set_cons_succ, List.length_cons, List.length_nil, Nat.reduceLeDiff, idxOk, flatP, Nat.reduceMul, Nat.reduceLT, *]
    | simp (singlePass := true) (maxDischargeDepth := 99) only [*, Nat.le_refl, not_false_eq_true, and_self])
          · rintro g w7 n7 s7 b7 l7 ⟨hi', hf', hbk'⟩
            simp (maxDischargeDepth := 3) only [U, ↓reduceIte, Nat.reduceEqDiff, *] at hf'
            rw [take_all, hgrow.out] at hbk'
            have k7 := hbk'.bk
            (repeat' first
    | with_reducible refine alloc_k fun _ _ _ _ _ _ => ?_
    | with_reducible refine row_k fun _ _ _ _ _ _ => ?_
    | with_reducible refine fork (fun _ => ?_) (fun _ => ?_)
    | with_reducible refine tail_k fun _ _ _ => ?_
    | with_reducible refine ext_k fun _ _ _ => ?_
    | with_reducible refine need (by first | kernel_rfl | omega | assumption) ?_
    | with_reducible refine st_agg (by kernel_rfl) rfl (by simp only [natV, intV, List.mem_cons, List.not_mem_nil, or_false, forall_eq_or_imp, forall_eq, one_int, one_bool, one_slice, one_ptr, and_self, *]) fun _ _ _ _ => ?_
    | with_reducible refine wpd_quiet_lit (by kernel_rfl) (by kernel_rfl) (by kernel_rfl) ?_
    | simp (maxDischargeDepth := 3) only [↓X, ↓Y, V, U, Z, ↓Q, Tsl, Tarr, Ttk, Tfl, Tint, Tbool, Tbld, Tze, Tzel, Tcall, ↓reduceIte, Nat.reduceEqDiff, Nat.reduceAdd, Nat.add_zero, Nat.zero_add, Int.toNat_natCast, Int.natCast_nonneg, true_and, and_true, and_self, List.nil_append, List.cons_append, U2, List.getElem?_cons_zero, List.getElem?_cons_succ, List.append_nil, List.length_map, Bool.not_true, Bool.not_false, decide_true, decide_false, eq_self, ne_eq, not_false_eq_true, Int.reduceLT, Int.reduceLE, Int.reduceNeg, nat_lt0, mid_none, mid_some, natV, intV, Int.ofNat_lt, Int.ofNat_le, Int.toNat_zero, Nat.mul_one, Nat.zero_mul, add_none, Nat.le_refl, Nat.lt_irrefl, nat0, bne_self_eq_false, beq_self_eq_true, Int.reduceBEq, Int.reduceBNe, Int.reduceEq, Bool.false_eq_true, Bool.true_or, Bool.false_or, Bool.true_and, Bool.false_and, Bool.or_true, Bool.or_false, Bool.and_true, Bool.and_false, putAt, List.set_cons_zero, List.set_cons_succ, List.length_cons, List.length_nil, Nat.reduceLeDiff, idxOk, flatP, Nat.reduceMul, Nat.reduceLT, *]
    | simp (singlePass := true) (maxDischargeDepth := 99) only [*, Nat.le_refl, not_false_eq_true, and_self])
            refine next_b hk hlt ?_ (by simp (singlePass := true) (maxDischargeDepth := 99) only [*, Nat.le_refl, not_false_eq_true, and_self])
            (repeat' first
    | with_reducible refine alloc_k fun _ _ _ _ _ _ => ?_
    | with_reducible refine row_k fun _ _ _ _ _ _ => ?_
    | with_reducible refine fork (fun _ => ?_) (fun _ => ?_)
    | with_reducible refine tail_k fun _ _ _ => ?_
    | with_reducible refine ext_k fun _ _ _ => ?_
    | with_reducible refine need (by first | kernel_rfl | omega | assumption) ?_
    | with_reducible refine st_agg (by kernel_rfl) rfl (by simp only [natV, intV, List.mem_cons, List.not_mem_nil, or_false, forall_eq_or_imp, forall_eq, one_int, one_bool, one_slice, one_ptr, and_self, *]) fun _ _ _ _ => ?_
    | with_reducible refine wpd_quiet_lit (by kernel_rfl) (by kernel_rfl) (by kernel_rfl) ?_
    | simp (maxDischargeDepth := 3) only [↓X, ↓Y, V, U, Z, ↓Q, Tsl, Tarr, Ttk, Tfl, Tint, Tbool, Tbld, Tze, Tzel, Tcall, ↓reduceIte, Nat.reduceEqDiff, Nat.reduceAdd, Nat.add_zero, Nat.zero_add, Int.toNat_natCast, Int.natCast_nonneg, true_and, and_true, and_self, List.nil_append, List.cons_append, U2, List.getElem?_cons_zero, List.getElem?_cons_succ, List.append_nil, List.length_map, Bool.not_true, Bool.not_false, decide_true, decide_false, eq_self, ne_eq, not_false_eq_true, Int.reduceLT, Int.reduceLE, Int.reduceNeg, nat_lt0, mid_none, mid_some, natV, intV, Int.ofNat_lt, Int.ofNat_le, Int.toNat_zero, Nat.mul_one, Nat.zero_mul, add_none, Nat.le_refl, Nat.lt_irrefl, nat0, bne_self_eq_false, beq_self_eq_true, Int.reduceBEq, Int.reduceBNe, Int.reduceEq, Bool.false_eq_true, Bool.true_or, Bool.false_or, Bool.true_and, Bool.false_and, Bool.or_true, Bool.or_false, Bool.and_true, Bool.and_false, putAt, List.set_cons_zero, List.set_cons_succ, List.length_cons, List.length_nil, Nat.reduceLeDiff, idxOk, flatP, Nat.reduceMul, Nat.reduceLT, *]
    | simp (singlePass := true) (maxDischargeDepth := 99) only [*, Nat.le_refl, not_false_eq_true, and_self])
      · rintro g w5 n5 s5 b5 l5 ⟨hi, hf, hbk⟩
        simp (maxDischargeDepth := 3) only [U, ↓reduceIte, Nat.reduceEqDiff, *] at hf
        rw [take_all, show grownB p (idealsL p) = idealB p from funext (grown_all hsh hac)] at hbk
        have k5 := hbk.bk
        (repeat' first
    | with_reducible refine alloc_k fun _ _ _ _ _ _ => ?_
    | with_reducible refine row_k fun _ _ _ _ _ _ => ?_
    | with_reducible refine fork (fun _ => ?_) (fun _ => ?_)
    | with_reducible refine tail_k fun _ _ _ => ?_
    | with_reducible refine ext_k fun _ _ _ => ?_
    | with_reducible refine need (by first | kernel_rfl | omega | assumption) ?_
    | with_reducible refine st_agg (by kernel_rfl) rfl (by simp only [natV, intV, List.mem_cons, List.not_mem_nil, or_false, forall_eq_or_imp, forall_eq, one_int, one_bool, one_slice, one_ptr, and_self, *]) fun _ _ _ _ => ?_
    | with_reducible refine wpd_quiet_lit (by kernel_rfl) (by kernel_rfl) (by kernel_rfl) ?_
    | simp (maxDischargeDepth := 3) only [↓X, ↓Y, V, U, Z, ↓Q, Tsl, Tarr, Ttk, Tfl, Tint, Tbool, Tbld, Tze, Tzel, Tcall, ↓reduceIte, Nat.reduceEqDiff, Nat.reduceAdd, Nat.add_zero, Nat.zero_add, Int.toNat_natCast, Int.natCast_nonneg, true_and, and_true, and_self, List.nil_append, List.cons_append, U2, List.getElem?_cons_zero, List.getElem?_cons_succ, List.append_nil, List.length_map, Bool.not_true, Bool.not_false, decide_true, decide_false, eq_self, ne_eq, not_false_eq_true, Int.reduceLT, Int.reduceLE, Int.reduceNeg, nat_lt0, mid_none, mid_some, natV, intV, Int.ofNat_lt, Int.ofNat_le, Int.toNat_zero, Nat.mul_one, Nat.zero_mul, add_none, Nat.le_refl, Nat.lt_irrefl, nat0, bne_self_eq_false, beq_self_eq_true, Int.reduceBEq, Int.reduceBNe, Int.reduceEq, Bool.false_eq_true, Bool.true_or, Bool.false_or, Bool.true_and, Bool.false_and, Bool.or_true, Bool.or_false, Bool.and_true, Bool.and_false, putAt, List.set_cons_zero, List.set_cons_succ, List.length_cons, List.length_nil, Nat.reduceLeDiff, idxOk, flatP, Nat.reduceMul, Nat.reduceLT, *]
    | simp (singlePass := true) (maxDischargeDepth := 99) only [*, Nat.le_refl, not_false_eq_true, and_self])
        refine loop_k N (fun g0 k g _ => g 17 = .int .i64 k ∧ g 16 = .int .i64 (((List.range k).filter (idealB p)).length : Nat) ∧ (g 7 = g0 7 ∧ g 9 = g0 9 ∧ g 11 = g0 11)) (by kernel_rfl) (by omega) ?_ ?_ ?_
        · (repeat' first
    | with_reducible refine alloc_k fun _ _ _ _ _ _ => ?_
    | with_reducible refine row_k fun _ _ _ _ _ _ => ?_
    | with_reducible refine fork (fun _ => ?_) (fun _ => ?_)
    | with_reducible refine tail_k fun _ _ _ => ?_
    | with_reducible refine ext_k fun _ _ _ => ?_
    | with_reducible refine need (by first | kernel_rfl | omega | assumption) ?_
    | with_reducible refine st_agg (by kernel_rfl) rfl (by simp only [natV, intV, List.mem_cons, List.not_mem_nil, or_false, forall_eq_or_imp, forall_eq, one_int, one_bool, one_slice, one_ptr, and_self, *]) fun _ _ _ _ => ?_
    | with_reducible refine wpd_quiet_lit (by kernel_rfl) (by kernel_rfl) (by kernel_rfl) ?_
    | simp (maxDischargeDepth := 3) only [↓X, ↓Y, V, U, Z, ↓Q, Tsl, Tarr, Ttk, Tfl, Tint, Tbool, Tbld, Tze, Tzel, Tcall, ↓reduceIte, Nat.reduceEqDiff, Nat.reduceAdd, Nat.add_zero, Nat.zero_add, Int.toNat_natCast, Int.natCast_nonneg, true_and, and_true, and_self, List.nil_append, List.cons_append, U2, List.getElem?_cons_zero, List.getElem?_cons_succ, List.append_nil, List.length_map, Bool.not_true, Bool.not_false, decide_true, decide_false, eq_self, ne_eq, not_false_eq_true, Int.reduceLT, Int.reduceLE, Int.reduceNeg, nat_lt0, mid_none, mid_some, natV, intV, Int.ofNat_lt, Int.ofNat_le, Int.toNat_zero, Nat.mul_one, Nat.zero_mul, add_none, Nat.le_refl, Nat.lt_irrefl, nat0, bne_self_eq_false, beq_self_eq_true, Int.reduceBEq, Int.reduceBNe, Int.reduceEq, Bool.false_eq_true, Bool.true_or, Bool.false_or, Bool.true_and, Bool.false_and, Bool.or_true, Bool.or_false, Bool.and_true, Bool.and_false, putAt, List.set_cons_zero, List.set_cons_succ, List.length_cons, List.length_nil, Nat.reduceLeDiff, idxOk, flatP, Nat.reduceMul, Nat.reduceLT, *, List.range_zero, List.filter_nil, List.length_nil]
    | simp (singlePass := true) (maxDischargeDepth := 99) only [*, Nat.le_refl, not_false_eq_true, and_self, List.range_zero, List.filter_nil, List.length_nil])
        · rintro k m g w6 hk hlt _ _ _ hw ⟨hi', h16, hf'⟩
          simp (maxDischargeDepth := 3) only [U, ↓reduceIte, Nat.reduceEqDiff, *] at hf'
          have hg := rb_get (F := idealB p) hlt
          have hlen : ((List.range k).filter (idealB p)).length ≤ k := by have := List.length_filter_le (idealB p) (List.range k); simpa using this
          have hfil : ((List.range (k + 1)).filter (idealB p)).length = ((List.range k).filter (idealB p)).length + if idealB p k = true then 1 else 0 := by
            rw [List.range_succ, List.filter_append, List.length_append, List.filter_cons]
            split <;> simp_all
          have hw3 : IntKind.i64.wrap ((((List.range k).filter (idealB p)).length : Int) + 1) = ((((List.range k).filter (idealB p)).length + 1 : Nat) : Int) := by rw [show (((List.range k).filter (idealB p)).length : Int) + 1 = ((((List.range k).filter (idealB p)).length + 1 : Nat) : Int) by omega, wrap_nat (by omega)]
          generalize ((List.range k).filter (idealB p)).length = c at *
          (repeat' first
    | with_reducible refine alloc_k fun _ _ _ _ _ _ => ?_
    | with_reducible refine row_k fun _ _ _ _ _ _ => ?_
    | with_reducible refine fork (fun _ => ?_) (fun _ => ?_)
    | with_reducible refine tail_k fun _ _ _ => ?_
    | with_reducible refine ext_k fun _ _ _ => ?_
    | with_reducible refine need (by first | kernel_rfl | omega | assumption) ?_
    | with_reducible refine st_agg (by kernel_rfl) rfl (by simp only [natV, intV, List.mem_cons, List.not_mem_nil, or_false, forall_eq_or_imp, forall_eq, one_int, one_bool, one_slice, one_ptr, and_self, *]) fun _ _ _ _ => ?_
    | with_reducible refine wpd_quiet_lit (by kernel_rfl) (by kernel_rfl) (by kernel_rfl) ?_
    | simp (maxDischargeDepth := 3) only [↓X, ↓Y, V, U, Z, ↓Q, Tsl, Tarr, Ttk, Tfl, Tint, Tbool, Tbld, Tze, Tzel, Tcall, ↓reduceIte, Nat.reduceEqDiff, Nat.reduceAdd, Nat.add_zero, Nat.zero_add, Int.toNat_natCast, Int.natCast_nonneg, true_and, and_true, and_self, List.nil_append, List.cons_append, U2, List.getElem?_cons_zero, List.getElem?_cons_succ, List.append_nil, List.length_map, Bool.not_true, Bool.not_false, decide_true, decide_false, eq_self, ne_eq, not_false_eq_true, Int.reduceLT, Int.reduceLE, Int.reduceNeg, nat_lt0, mid_none, mid_some, natV, intV, Int.ofNat_lt, Int.ofNat_le, Int.toNat_zero, Nat.mul_one, Nat.zero_mul, add_none, Nat.le_refl, Nat.lt_irrefl, nat0, bne_self_eq_false, beq_self_eq_true, Int.reduceBEq, Int.reduceBNe, Int.reduceEq, Bool.false_eq_true, Bool.true_or, Bool.false_or, Bool.true_and, Bool.false_and, Bool.or_true, Bool.or_false, Bool.and_true, Bool.and_false, putAt, List.set_cons_zero, List.set_cons_succ, List.length_cons, List.length_nil, Nat.reduceLeDiff, idxOk, flatP, Nat.reduceMul, Nat.reduceLT, *]
    | simp (singlePass := true) (maxDischargeDepth := 99) only [*, Nat.le_refl, not_false_eq_true, and_self])
          all_goals (refine next_k hk hlt ?_ (by simp (singlePass := true) (maxDischargeDepth := 99) only [*, Nat.le_refl, not_false_eq_true, and_self]); (repeat' first
    | with_reducible refine alloc_k fun _ _ _ _ _ _ => ?_
    | with_reducible refine row_k fun _ _ _ _ _ _ => ?_
    | with_reducible refine fork (fun _ => ?_) (fun _ => ?_)
    | with_reducible refine tail_k fun _ _ _ => ?_
    | with_reducible refine ext_k fun _ _ _ => ?_
    | with_reducible refine need (by first | kernel_rfl | omega | assumption) ?_
    | with_reducible refine st_agg (by kernel_rfl) rfl (by simp only [natV, intV, List.mem_cons, List.not_mem_nil, or_false, forall_eq_or_imp, forall_eq, one_int, one_bool, one_slice, one_ptr, and_self, *]) fun _ _ _ _ => ?_
    | with_reducible refine wpd_quiet_lit (by kernel_rfl) (by kernel_rfl) (by kernel_rfl) ?_
    | simp (maxDischargeDepth := 3) only [↓X, ↓Y, V, U, Z, ↓Q, Tsl, Tarr, Ttk, Tfl, Tint, Tbool, Tbld, Tze, Tzel, Tcall, ↓reduceIte, Nat.reduceEqDiff, Nat.reduceAdd, Nat.add_zero, Nat.zero_add, Int.toNat_natCast, Int.natCast_nonneg, true_and, and_true, and_self, List.nil_append, List.cons_append, U2, List.getElem?_cons_zero, List.getElem?_cons_succ, List.append_nil, List.length_map, Bool.not_true, Bool.not_false, decide_true, decide_false, eq_self, ne_eq, not_false_eq_true, Int.reduceLT, Int.reduceLE, Int.reduceNeg, nat_lt0, mid_none, mid_some, natV, intV, Int.ofNat_lt, Int.ofNat_le, Int.toNat_zero, Nat.mul_one, Nat.zero_mul, add_none, Nat.le_refl, Nat.lt_irrefl, nat0, bne_self_eq_false, beq_self_eq_true, Int.reduceBEq, Int.reduceBNe, Int.reduceEq, Bool.false_eq_true, Bool.true_or, Bool.false_or, Bool.true_and, Bool.false_and, Bool.or_true, Bool.or_false, Bool.and_true, Bool.and_false, putAt, List.set_cons_zero, List.set_cons_succ, List.length_cons, List.length_nil, Nat.reduceLeDiff, idxOk, flatP, Nat.reduceMul, Nat.reduceLT, *, hfil]
    | simp (singlePass := true) (maxDischargeDepth := 99) only [*, Nat.le_refl, not_false_eq_true, and_self, hfil]))
        · rintro g w6 _ _ _ ⟨hi', h16, hf'⟩
          simp (maxDischargeDepth := 3) only [U, ↓reduceIte, Nat.reduceEqDiff, *] at hf'
          rw [← hids.out] at h16
          (repeat' first
    | with_reducible refine alloc_k fun _ _ _ _ _ _ => ?_
    | with_reducible refine row_k fun _ _ _ _ _ _ => ?_
    | with_reducible refine fork (fun _ => ?_) (fun _ => ?_)
    | with_reducible refine tail_k fun _ _ _ => ?_
    | with_reducible refine ext_k fun _ _ _ => ?_
    | with_reducible refine need (by first | kernel_rfl | omega | assumption) ?_
    | with_reducible refine st_agg (by kernel_rfl) rfl (by simp only [natV, intV, List.mem_cons, List.not_mem_nil, or_false, forall_eq_or_imp, forall_eq, one_int, one_bool, one_slice, one_ptr, and_self, *]) fun _ _ _ _ => ?_
    | with_reducible refine wpd_quiet_lit (by kernel_rfl) (by kernel_rfl) (by kernel_rfl) ?_
    | ((with_reducible refine at_f 6 ?_); refine ret_k (law20live (hT' _ (by simp (singlePass := true) (maxDischargeDepth := 99) only [*, Nat.le_refl, not_false_eq_true, and_self]))) fun _ _ _ => ?_)
    | simp (maxDischargeDepth := 3) only [↓X, ↓Y, V, U, Z, ↓Q, Tsl, Tarr, Ttk, Tfl, Tint, Tbool, Tbld, Tze, Tzel, Tcall, ↓reduceIte, Nat.reduceEqDiff, Nat.reduceAdd, Nat.add_zero, Nat.zero_add, Int.toNat_natCast, Int.natCast_nonneg, true_and, and_true, and_self, List.nil_append, List.cons_append, U2, List.getElem?_cons_zero, List.getElem?_cons_succ, List.append_nil, List.length_map, Bool.not_true, Bool.not_false, decide_true, decide_false, eq_self, ne_eq, not_false_eq_true, Int.reduceLT, Int.reduceLE, Int.reduceNeg, nat_lt0, mid_none, mid_some, natV, intV, Int.ofNat_lt, Int.ofNat_le, Int.toNat_zero, Nat.mul_one, Nat.zero_mul, add_none, Nat.le_refl, Nat.lt_irrefl, nat0, bne_self_eq_false, beq_self_eq_true, Int.reduceBEq, Int.reduceBNe, Int.reduceEq, Bool.false_eq_true, Bool.true_or, Bool.false_or, Bool.true_and, Bool.false_and, Bool.or_true, Bool.or_false, Bool.and_true, Bool.and_false, putAt, List.set_cons_zero, List.set_cons_succ, List.length_cons, List.length_nil, Nat.reduceLeDiff, idxOk, flatP, Nat.reduceMul, Nat.reduceLT, *]
    | simp (singlePass := true) (maxDischargeDepth := 99) only [*, Nat.le_refl, not_false_eq_true, and_self])
  · have c1 : (e != 0) = true := by simpa using e0
    clear he hok
    (repeat' first
    | with_reducible refine alloc_k fun _ _ _ _ _ _ => ?_
    | with_reducible refine row_k fun _ _ _ _ _ _ => ?_
    | with_reducible refine fork (fun _ => ?_) (fun _ => ?_)
    | with_reducible refine tail_k fun _ _ _ => ?_
    | with_reducible refine ext_k fun _ _ _ => ?_
    | with_reducible refine need (by first | kernel_rfl | omega | assumption) ?_
    | with_reducible refine st_agg (by kernel_rfl) rfl (by simp only [natV, intV, List.mem_cons, List.not_mem_nil, or_false, forall_eq_or_imp, forall_eq, one_int, one_bool, one_slice, one_ptr, and_self, *]) fun _ _ _ _ => ?_
    | with_reducible refine wpd_quiet_lit (by kernel_rfl) (by kernel_rfl) (by kernel_rfl) ?_
    | ((with_reducible refine at_f 6 ?_); refine ret_k (law20live (hT' _ (by simp (singlePass := true) (maxDischargeDepth := 99) only [*, Nat.le_refl, not_false_eq_true, and_self]))) fun _ _ _ => ?_)
    | simp (maxDischargeDepth := 3) only [↓X, ↓Y, V, U, Z, ↓Q, Tsl, Tarr, Ttk, Tfl, Tint, Tbool, Tbld, Tze, Tzel, Tcall, ↓reduceIte, Nat.reduceEqDiff, Nat.reduceAdd, Nat.add_zero, Nat.zero_add, Int.toNat_natCast, Int.natCast_nonneg, true_and, and_true, and_self, List.nil_append, List.cons_append, U2, List.getElem?_cons_zero, List.getElem?_cons_succ, List.append_nil, List.length_map, Bool.not_true, Bool.not_false, decide_true, decide_false, eq_self, ne_eq, not_false_eq_true, Int.reduceLT, Int.reduceLE, Int.reduceNeg, nat_lt0, mid_none, mid_some, natV, intV, Int.ofNat_lt, Int.ofNat_le, Int.toNat_zero, Nat.mul_one, Nat.zero_mul, add_none, Nat.le_refl, Nat.lt_irrefl, nat0, bne_self_eq_false, beq_self_eq_true, Int.reduceBEq, Int.reduceBNe, Int.reduceEq, Bool.false_eq_true, Bool.true_or, Bool.false_or, Bool.true_and, Bool.false_and, Bool.or_true, Bool.or_false, Bool.and_true, Bool.and_false, putAt, List.set_cons_zero, List.set_cons_succ, List.length_cons, List.length_nil, Nat.reduceLeDiff, idxOk, flatP, Nat.reduceMul, Nat.reduceLT, *, c1]
    | simp (singlePass := true) (maxDischargeDepth := 99) only [*, Nat.le_refl, not_false_eq_true, and_self, c1])
end
end Go.Proofs.YtgickfllblmhpaaDoor
