/- What the statements on layer 20 call: Open, few. -/
import Derived.Test.YtgickfllblmhpaaDoorRef20
namespace Go.Proofs.YtgickfllblmhpaaDoor
set_option linter.unusedSimpArgs false
set_option linter.unusedVariables false
open Go Go.RowKit
set_option maxRecDepth 100000
set_option linter.unusedSectionVars false
set_option maxHeartbeats 1000000
theorem ref20Open {w : World} {B : Nat} {sv av : Value} {vs : List Value} {p : PlanD} {set i : Nat} (hB : B ≤ w.heap.size) (hp : PlanR w B sv av vs p) (ho : Shape p) (hs : set < 4096) (hi : i < p.steps.length) :
    Ret Tryd.prog 10 #[.agg #[sv, av], natV set, natV i] w (.bool (openB p set i)) := by
  refine callsV_of Tryd.func10 rfl (by kernel_rfl) (by kernel_rfl) ?_
  rw [Tryd.results10]
  have hsm := ho.small
  have hia : i < p.after.length := by rw [ho.len]; exact hi
  simp only [↓X, ↓Y, V, U, Z, ↓Q, Tsl, Tarr, Ttk, Tfl, Tint, Tbool, Tbld, Tze, Tzel, Tcall, ↓reduceIte, Nat.reduceEqDiff, Nat.reduceAdd, Nat.add_zero, Nat.zero_add, Int.toNat_natCast, Int.natCast_nonneg, true_and, and_true, and_self, List.nil_append, List.cons_append, U2, List.getElem?_cons_zero, List.getElem?_cons_succ, List.append_nil, List.length_map, Bool.not_true, Bool.not_false, decide_true, decide_false, eq_self, ne_eq, not_false_eq_true, Int.reduceLT, Int.reduceLE, Int.reduceNeg, nat_lt0, now w, natV, intV]
  refine alloc_intro fun b1 w1 hb1 hx1 _ => ?_
  simp only [↓X, ↓Y, V, U, Z, ↓Q, Tsl, Tarr, Ttk, Tfl, Tint, Tbool, Tbld, Tze, Tzel, Tcall, ↓reduceIte, Nat.reduceEqDiff, Nat.reduceAdd, Nat.add_zero, Nat.zero_add, Int.toNat_natCast, Int.natCast_nonneg, true_and, and_true, and_self, List.nil_append, List.cons_append, U2, List.getElem?_cons_zero, List.getElem?_cons_succ, List.append_nil, List.length_map, Bool.not_true, Bool.not_false, decide_true, decide_false, eq_self, ne_eq, not_false_eq_true, Int.reduceLT, Int.reduceLE, Int.reduceNeg, nat_lt0, now w1]
  refine loopX_intro (fun m g w' => ∃ (k : Nat), k + m = p.after[i].length ∧ g 1 = .int .i64 set ∧ g 2 = .int .i64 i ∧ g 3 = .pointer (some ⟨b1, 0, none⟩) ∧ g 7 = .int .i64 k ∧ (∀ j (h : j < p.after[i].length), j < k → set.testBit (p.after[i][j]).toNat = true) ∧ Ext w1 w') p.after[i].length (by kernel_rfl) ?_ ?_
  · refine ⟨0, by omega, ?_⟩
    simp only [↓X, ↓Y, V, U, Z, ↓Q, Tsl, Tarr, Ttk, Tfl, Tint, Tbool, Tbld, Tze, Tzel, Tcall, ↓reduceIte, Nat.reduceEqDiff, Nat.reduceAdd, Nat.add_zero, Nat.zero_add, Int.toNat_natCast, Int.natCast_nonneg, true_and, and_true, and_self, List.nil_append, List.cons_append, U2, List.getElem?_cons_zero, List.getElem?_cons_succ, List.append_nil, List.length_map, Bool.not_true, Bool.not_false, decide_true, decide_false, eq_self, ne_eq, not_false_eq_true, Int.reduceLT, Int.reduceLE, Int.reduceNeg, nat_lt0]
    (repeat' apply And.intro) <;> first | rfl | assumption | exact Ext.refl _ | exact fun j _ h => absurd h (by omega)
  · rintro m g w2 ⟨k, hk, h1, h2, h3, h7, hall, hx⟩
    have hxx := hx1.trans hx
    obtain ⟨u, hu, hsu⟩ := (hp.a.ext hxx hB).get hia
    by_cases hlt : k < p.after[i].length
    · obtain ⟨r1, r2⟩ := ho.range _ (List.getElem_mem hia) _ (List.getElem_mem hlt)
      have hat := hsu.at_ k hlt
      have hnat : intV p.after[i][k] = natV (p.after[i][k]).toNat := by simp only [natV, Int.toNat_of_nonneg r1]
      rw [hnat] at hat
      simp only [↓X, ↓Y, V, U, Z, ↓Q, Tsl, Tarr, Ttk, Tfl, Tint, Tbool, Tbld, Tze, Tzel, Tcall, ↓reduceIte, Nat.reduceEqDiff, Nat.reduceAdd, Nat.add_zero, Nat.zero_add, Int.toNat_natCast, Int.natCast_nonneg, true_and, and_true, and_self, List.nil_append, List.cons_append, U2, List.getElem?_cons_zero, List.getElem?_cons_succ, List.append_nil, List.length_map, Bool.not_true, Bool.not_false, decide_true, decide_false, eq_self, ne_eq, not_false_eq_true, Int.reduceLT, Int.reduceLE, Int.reduceNeg, nat_lt0, now w2, h1, h2, h3, h7, (hb1.ext hx).cell, Int.ofNat_lt, hia, hp.a.len_, hu, hsu.len_, hlt, hat]
      refine ret_bind' hx (ref20In (set := set) (i := (p.after[i][k]).toNat) hs (by omega)) fun w3 hx3 => ?_
      cases c : set.testBit (p.after[i][k]).toNat
      · simp only [↓X, ↓Y, V, U, Z, ↓Q, Tsl, Tarr, Ttk, Tfl, Tint, Tbool, Tbld, Tze, Tzel, Tcall, ↓reduceIte, Nat.reduceEqDiff, Nat.reduceAdd, Nat.add_zero, Nat.zero_add, Int.toNat_natCast, Int.natCast_nonneg, true_and, and_true, and_self, List.nil_append, List.cons_append, U2, List.getElem?_cons_zero, List.getElem?_cons_succ, List.append_nil, List.length_map, Bool.not_true, Bool.not_false, decide_true, decide_false, eq_self, ne_eq, not_false_eq_true, Int.reduceLT, Int.reduceLE, Int.reduceNeg, nat_lt0, now w3]
        have : openB p set i = false := by
          simp only [openB, List.getD_eq_getElem?_getD, List.getElem?_eq_getElem hia, Option.getD_some, List.all_eq_false]
          exact ⟨_, List.getElem_mem hlt, by simp [c]⟩
        exact ⟨by rw [this], hx1.trans hx3⟩
      · simp only [↓X, ↓Y, V, U, Z, ↓Q, Tsl, Tarr, Ttk, Tfl, Tint, Tbool, Tbld, Tze, Tzel, Tcall, ↓reduceIte, Nat.reduceEqDiff, Nat.reduceAdd, Nat.add_zero, Nat.zero_add, Int.toNat_natCast, Int.natCast_nonneg, true_and, and_true, and_self, List.nil_append, List.cons_append, U2, List.getElem?_cons_zero, List.getElem?_cons_succ, List.append_nil, List.length_map, Bool.not_true, Bool.not_false, decide_true, decide_false, eq_self, ne_eq, not_false_eq_true, Int.reduceLT, Int.reduceLE, Int.reduceNeg, nat_lt0, now w3, h1, h2, h3, h7]
        refine ⟨m - 1, by omega, k + 1, ?_⟩
        (repeat' apply And.intro) <;> first | rfl | assumption | omega | rw [wrap_succ hlt hsu.max_] | (intro j h hj; rcases Nat.lt_or_eq_of_le (Nat.le_of_lt_succ hj) with hh | rfl; exact hall j h hh; exact c)
    · simp only [↓X, ↓Y, V, U, Z, ↓Q, Tsl, Tarr, Ttk, Tfl, Tint, Tbool, Tbld, Tze, Tzel, Tcall, ↓reduceIte, Nat.reduceEqDiff, Nat.reduceAdd, Nat.add_zero, Nat.zero_add, Int.toNat_natCast, Int.natCast_nonneg, true_and, and_true, and_self, List.nil_append, List.cons_append, U2, List.getElem?_cons_zero, List.getElem?_cons_succ, List.append_nil, List.length_map, Bool.not_true, Bool.not_false, decide_true, decide_false, eq_self, ne_eq, not_false_eq_true, Int.reduceLT, Int.reduceLE, Int.reduceNeg, nat_lt0, now w2, h1, h2, h3, h7, (hb1.ext hx).cell, Int.ofNat_lt, hia, hp.a.len_, hu, hsu.len_, hlt]
      have : openB p set i = true := by
        simp only [openB, List.getD_eq_getElem?_getD, List.getElem?_eq_getElem hia, Option.getD_some, List.all_eq_true]
        intro x hx
        obtain ⟨j, hj, rfl⟩ := List.getElem_of_mem hx
        exact hall j hj (by omega)
      exact ⟨by rw [this], hxx⟩
end Go.Proofs.YtgickfllblmhpaaDoor
