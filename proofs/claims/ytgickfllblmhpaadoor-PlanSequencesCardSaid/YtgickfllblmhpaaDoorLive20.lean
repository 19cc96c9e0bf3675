/- The examples of the statements on layer 20. -/
import Derived.Test.YtgickfllblmhpaaDoorLaw20
namespace Go.Proofs.YtgickfllblmhpaaDoor
set_option linter.unusedSimpArgs false
set_option linter.unusedVariables false
open Go Go.RowKit
set_option maxRecDepth 100000
set_option linter.unusedSectionVars false
set_option maxHeartbeats 1000000
def siteEx : SiteD := ⟨[⟨1000⟩], [⟨0, 500, 0, 0⟩], [⟨1000, 0⟩], [⟨0, 0, 0, 0⟩, ⟨2, 0, 0, 0⟩], 1, [], [⟨0, 4, 0, 0⟩, ⟨0, 4, 0, 0⟩, ⟨1, 4, 0, 0⟩]⟩
def srvEx : ServiceD := ⟨1, 1, 0, 0, 0, [], [], 0⟩
theorem lawSite {w : World} : CallsV Tryd.prog 13 #[] w fun r w' => Ext w w' ∧ ∃ u, r = .agg (siteC u siteEx).toArray ∧ SiteR w' w'.heap.size u siteEx := by
  refine callsV_of Tryd.func13 rfl (by kernel_rfl) (by kernel_rfl) ?_
  rw [Tryd.results13]
  simp only [↓X, ↓Y, V, U, Z, ↓Q, Tsl, Tarr, Ttk, Tfl, Tint, Tbool, Tbld, Tze, Tzel, Tcall, ↓reduceIte, Nat.reduceEqDiff, Nat.reduceAdd, Nat.add_zero, Nat.zero_add, Int.toNat_natCast, Int.natCast_nonneg, true_and, and_true, and_self, List.nil_append, List.cons_append, U2, List.getElem?_cons_zero, List.getElem?_cons_succ, List.append_nil, List.length_map, Bool.not_true, Bool.not_false, decide_true, decide_false, eq_self, ne_eq, not_false_eq_true, Int.reduceLT, Int.reduceLE, Int.reduceNeg, nat_lt0, now w]
  refine alloc_intro fun b0 w0 hb0 hx0 hn0 => ?_
  simp only [↓X, ↓Y, V, U, Z, ↓Q, Tsl, Tarr, Ttk, Tfl, Tint, Tbool, Tbld, Tze, Tzel, Tcall, ↓reduceIte, Nat.reduceEqDiff, Nat.reduceAdd, Nat.add_zero, Nat.zero_add, Int.toNat_natCast, Int.natCast_nonneg, true_and, and_true, and_self, List.nil_append, List.cons_append, U2, List.getElem?_cons_zero, List.getElem?_cons_succ, List.append_nil, List.length_map, Bool.not_true, Bool.not_false, decide_true, decide_false, eq_self, ne_eq, not_false_eq_true, Int.reduceLT, Int.reduceLE, Int.reduceNeg, nat_lt0, now w0, putAt, List.set_cons_zero, List.set_cons_succ, List.length_cons, List.length_nil, Nat.reduceLeDiff, idxOk, flatP, Nat.reduceMul, Nat.reduceLT]
  refine row_intro fun b1 w1 hb1 hx1 _ => ?_
  simp only [↓X, ↓Y, V, U, Z, ↓Q, Tsl, Tarr, Ttk, Tfl, Tint, Tbool, Tbld, Tze, Tzel, Tcall, ↓reduceIte, Nat.reduceEqDiff, Nat.reduceAdd, Nat.add_zero, Nat.zero_add, Int.toNat_natCast, Int.natCast_nonneg, true_and, and_true, and_self, List.nil_append, List.cons_append, U2, List.getElem?_cons_zero, List.getElem?_cons_succ, List.append_nil, List.length_map, Bool.not_true, Bool.not_false, decide_true, decide_false, eq_self, ne_eq, not_false_eq_true, Int.reduceLT, Int.reduceLE, Int.reduceNeg, nat_lt0, now w1, putAt, List.set_cons_zero, List.set_cons_succ, List.length_cons, List.length_nil, Nat.reduceLeDiff, idxOk, flatP, Nat.reduceMul, Nat.reduceLT]
  refine row_intro fun b2 w2 hb2 hx2 _ => ?_
  simp only [↓X, ↓Y, V, U, Z, ↓Q, Tsl, Tarr, Ttk, Tfl, Tint, Tbool, Tbld, Tze, Tzel, Tcall, ↓reduceIte, Nat.reduceEqDiff, Nat.reduceAdd, Nat.add_zero, Nat.zero_add, Int.toNat_natCast, Int.natCast_nonneg, true_and, and_true, and_self, List.nil_append, List.cons_append, U2, List.getElem?_cons_zero, List.getElem?_cons_succ, List.append_nil, List.length_map, Bool.not_true, Bool.not_false, decide_true, decide_false, eq_self, ne_eq, not_false_eq_true, Int.reduceLT, Int.reduceLE, Int.reduceNeg, nat_lt0, now w2, putAt, List.set_cons_zero, List.set_cons_succ, List.length_cons, List.length_nil, Nat.reduceLeDiff, idxOk, flatP, Nat.reduceMul, Nat.reduceLT]
  refine row_intro fun b3 w3 hb3 hx3 _ => ?_
  simp only [↓X, ↓Y, V, U, Z, ↓Q, Tsl, Tarr, Ttk, Tfl, Tint, Tbool, Tbld, Tze, Tzel, Tcall, ↓reduceIte, Nat.reduceEqDiff, Nat.reduceAdd, Nat.add_zero, Nat.zero_add, Int.toNat_natCast, Int.natCast_nonneg, true_and, and_true, and_self, List.nil_append, List.cons_append, U2, List.getElem?_cons_zero, List.getElem?_cons_succ, List.append_nil, List.length_map, Bool.not_true, Bool.not_false, decide_true, decide_false, eq_self, ne_eq, not_false_eq_true, Int.reduceLT, Int.reduceLE, Int.reduceNeg, nat_lt0, now w3, putAt, List.set_cons_zero, List.set_cons_succ, List.length_cons, List.length_nil, Nat.reduceLeDiff, idxOk, flatP, Nat.reduceMul, Nat.reduceLT]
  refine row_intro fun b4 w4 hb4 hx4 _ => ?_
  simp only [↓X, ↓Y, V, U, Z, ↓Q, Tsl, Tarr, Ttk, Tfl, Tint, Tbool, Tbld, Tze, Tzel, Tcall, ↓reduceIte, Nat.reduceEqDiff, Nat.reduceAdd, Nat.add_zero, Nat.zero_add, Int.toNat_natCast, Int.natCast_nonneg, true_and, and_true, and_self, List.nil_append, List.cons_append, U2, List.getElem?_cons_zero, List.getElem?_cons_succ, List.append_nil, List.length_map, Bool.not_true, Bool.not_false, decide_true, decide_false, eq_self, ne_eq, not_false_eq_true, Int.reduceLT, Int.reduceLE, Int.reduceNeg, nat_lt0, now w4, putAt, List.set_cons_zero, List.set_cons_succ, List.length_cons, List.length_nil, Nat.reduceLeDiff, idxOk, flatP, Nat.reduceMul, Nat.reduceLT]
  refine row_intro fun b5 w5 hb5 hx5 _ => ?_
  simp only [↓X, ↓Y, V, U, Z, ↓Q, Tsl, Tarr, Ttk, Tfl, Tint, Tbool, Tbld, Tze, Tzel, Tcall, ↓reduceIte, Nat.reduceEqDiff, Nat.reduceAdd, Nat.add_zero, Nat.zero_add, Int.toNat_natCast, Int.natCast_nonneg, true_and, and_true, and_self, List.nil_append, List.cons_append, U2, List.getElem?_cons_zero, List.getElem?_cons_succ, List.append_nil, List.length_map, Bool.not_true, Bool.not_false, decide_true, decide_false, eq_self, ne_eq, not_false_eq_true, Int.reduceLT, Int.reduceLE, Int.reduceNeg, nat_lt0, now w5, putAt, List.set_cons_zero, List.set_cons_succ, List.length_cons, List.length_nil, Nat.reduceLeDiff, idxOk, flatP, Nat.reduceMul, Nat.reduceLT]
  have hx05 := hx1.trans (hx2.trans (hx3.trans (hx4.trans hx5)))
  refine storeAgg_intro (vs := [.slice (some ⟨b1, 0, none⟩) 1 1, .slice (some ⟨b2, 0, none⟩) 1 1, .slice (some ⟨b3, 0, none⟩) 1 1, .slice (some ⟨b4, 0, none⟩) 2 2, .int .i64 1, .slice none 0 0, .slice (some ⟨b5, 0, none⟩) 3 3]) (by kernel_rfl) (hb0.ext hx05) rfl (by simp only [natV, intV, List.mem_cons, List.not_mem_nil, or_false, forall_eq_or_imp, forall_eq, one_int, one_bool, one_slice, one_ptr, and_self]) fun w6 hb6 hc6 => ?_
  simp only [↓X, ↓Y, V, U, Z, ↓Q, Tsl, Tarr, Ttk, Tfl, Tint, Tbool, Tbld, Tze, Tzel, Tcall, ↓reduceIte, Nat.reduceEqDiff, Nat.reduceAdd, Nat.add_zero, Nat.zero_add, Int.toNat_natCast, Int.natCast_nonneg, true_and, and_true, and_self, List.nil_append, List.cons_append, U2, List.getElem?_cons_zero, List.getElem?_cons_succ, List.append_nil, List.length_map, Bool.not_true, Bool.not_false, decide_true, decide_false, eq_self, ne_eq, not_false_eq_true, Int.reduceLT, Int.reduceLE, Int.reduceNeg, nat_lt0, now w6, hb6.cell]
  have l0 := hb0.lt
  have s1 := hx1.size; have s2 := hx2.size; have s3 := hx3.size; have s4 := hx4.size
  have k1 := hc6.blk (hb1.ext (hx2.trans (hx3.trans (hx4.trans hx5)))) (by omega)
  have k2 := hc6.blk (hb2.ext (hx3.trans (hx4.trans hx5))) (by omega)
  have k3 := hc6.blk (hb3.ext (hx4.trans hx5)) (by omega)
  have k4 := hc6.blk (hb4.ext hx5) (by omega)
  have k5 := hc6.blk hb5 (by omega)
  refine ⟨(hx0.trans hx05).trans' (hc6.below hn0 (hx0.trans hx05).size), ⟨.slice (some ⟨b1, 0, none⟩) 1 1, .slice (some ⟨b2, 0, none⟩) 1 1, .slice (some ⟨b3, 0, none⟩) 1 1, .slice (some ⟨b4, 0, none⟩) 2 2, .slice none 0 0, .slice (some ⟨b5, 0, none⟩) 3 3⟩, rfl, ?_⟩
  exact ⟨row_slAgg (l := [[intV 1000]]) k1 (by simp) rfl (by simp), row_slAgg (l := [[intV 0, intV 500, intV 0, intV 0]]) k2 (by simp) rfl (by simp), row_slAgg (l := [[intV 1000, intV 0]]) k3 (by simp) rfl (by simp),
    row_slAgg (l := [[intV 0, intV 0, intV 0, intV 0], [intV 2, intV 0, intV 0, intV 0]]) k4 (by simp) rfl (by simp), Sl.nil _ _ _ _, row_slAgg (l := [[intV 0, intV 4, intV 0, intV 0], [intV 0, intV 4, intV 0, intV 0], [intV 1, intV 4, intV 0, intV 0]]) k5 (by simp) rfl (by simp)⟩
theorem lawWish {w : World} : CallsV Tryd.prog 14 #[] w fun r w' => Ext w w' ∧ ∃ v l, r = .agg #[v] ∧ WishR w' w'.heap.size v l ∧ l.map (·.x) = [srvEx] := by
  refine callsV_of Tryd.func14 rfl (by kernel_rfl) (by kernel_rfl) ?_
  rw [Tryd.results14]
  simp only [↓X, ↓Y, V, U, Z, ↓Q, Tsl, Tarr, Ttk, Tfl, Tint, Tbool, Tbld, Tze, Tzel, Tcall, ↓reduceIte, Nat.reduceEqDiff, Nat.reduceAdd, Nat.add_zero, Nat.zero_add, Int.toNat_natCast, Int.natCast_nonneg, true_and, and_true, and_self, List.nil_append, List.cons_append, U2, List.getElem?_cons_zero, List.getElem?_cons_succ, List.append_nil, List.length_map, Bool.not_true, Bool.not_false, decide_true, decide_false, eq_self, ne_eq, not_false_eq_true, Int.reduceLT, Int.reduceLE, Int.reduceNeg, nat_lt0, now w]
  refine alloc_intro fun b0 w0 hb0 hx0 hn0 => ?_
  simp only [↓X, ↓Y, V, U, Z, ↓Q, Tsl, Tarr, Ttk, Tfl, Tint, Tbool, Tbld, Tze, Tzel, Tcall, ↓reduceIte, Nat.reduceEqDiff, Nat.reduceAdd, Nat.add_zero, Nat.zero_add, Int.toNat_natCast, Int.natCast_nonneg, true_and, and_true, and_self, List.nil_append, List.cons_append, U2, List.getElem?_cons_zero, List.getElem?_cons_succ, List.append_nil, List.length_map, Bool.not_true, Bool.not_false, decide_true, decide_false, eq_self, ne_eq, not_false_eq_true, Int.reduceLT, Int.reduceLE, Int.reduceNeg, nat_lt0, now w0, putAt, List.set_cons_zero, List.set_cons_succ, List.length_cons, List.length_nil, Nat.reduceLeDiff, idxOk, flatP, Nat.reduceMul, Nat.reduceLT]
  refine row_intro fun b1 w1 hb1 hx1 _ => ?_
  simp only [↓X, ↓Y, V, U, Z, ↓Q, Tsl, Tarr, Ttk, Tfl, Tint, Tbool, Tbld, Tze, Tzel, Tcall, ↓reduceIte, Nat.reduceEqDiff, Nat.reduceAdd, Nat.add_zero, Nat.zero_add, Int.toNat_natCast, Int.natCast_nonneg, true_and, and_true, and_self, List.nil_append, List.cons_append, U2, List.getElem?_cons_zero, List.getElem?_cons_succ, List.append_nil, List.length_map, Bool.not_true, Bool.not_false, decide_true, decide_false, eq_self, ne_eq, not_false_eq_true, Int.reduceLT, Int.reduceLE, Int.reduceNeg, nat_lt0, now w1, putAt, List.set_cons_zero, List.set_cons_succ, List.length_cons, List.length_nil, Nat.reduceLeDiff, idxOk, flatP, Nat.reduceMul, Nat.reduceLT]
  refine storeAgg_intro (vs := [.slice (some ⟨b1, 0, none⟩) 1 1]) (by kernel_rfl) (hb0.ext hx1) rfl (by simp only [natV, intV, List.mem_cons, List.not_mem_nil, or_false, forall_eq_or_imp, forall_eq, one_int, one_bool, one_slice, one_ptr, and_self]) fun w6 hb6 hc6 => ?_
  simp only [↓X, ↓Y, V, U, Z, ↓Q, Tsl, Tarr, Ttk, Tfl, Tint, Tbool, Tbld, Tze, Tzel, Tcall, ↓reduceIte, Nat.reduceEqDiff, Nat.reduceAdd, Nat.add_zero, Nat.zero_add, Int.toNat_natCast, Int.natCast_nonneg, true_and, and_true, and_self, List.nil_append, List.cons_append, U2, List.getElem?_cons_zero, List.getElem?_cons_succ, List.append_nil, List.length_map, Bool.not_true, Bool.not_false, decide_true, decide_false, eq_self, ne_eq, not_false_eq_true, Int.reduceLT, Int.reduceLE, Int.reduceNeg, nat_lt0, now w6, hb6.cell]
  have l0 := hb0.lt
  have k1 := hc6.blk hb1 (by omega)
  refine ⟨(hx0.trans hx1).trans' (hc6.below hn0 (hx0.trans hx1).size), _, [⟨srvEx, .slice none 0 0, .slice none 0 0⟩], rfl, ⟨?_, ?_, ?_⟩, rfl⟩
  · exact row_slAgg (l := [[intV 1, intV 1, intV 0, .int .u8 0, intV 0, .slice none 0 0, .slice none 0 0, intV 0]]) k1 (by simp) rfl (by simp)
  · intro u hu; rw [List.mem_singleton.1 hu]; exact Sl.nil _ _ _ _
  · intro u hu; rw [List.mem_singleton.1 hu]; exact Sl.nil _ _ _ _
def stepsEx : List StepD := [⟨2, 0, 0, 0⟩, ⟨1, 1, 0, 0⟩, ⟨3, 0, 0, 0⟩]
theorem lawExample {w : World} {B : Nat} {v : Value} {vs : List Value} {ll : List (List Int)} (hB : B ≤ w.heap.size) (hv : LLR w B v vs ll) : CallsV Tryd.prog 15 #[v] w fun r w' => Ext w w' ∧ ∃ sv, r = .agg #[sv, v] ∧ PlanR w' w'.heap.size sv v vs ⟨stepsEx, ll⟩ := by
  refine callsV_of Tryd.func15 rfl (by kernel_rfl) (by kernel_rfl) ?_
  rw [Tryd.results15]
  have hv1 := hv.v.one
  have hvc := cellsL_one hv1
  simp only [↓X, ↓Y, V, U, Z, ↓Q, Tsl, Tarr, Ttk, Tfl, Tint, Tbool, Tbld, Tze, Tzel, Tcall, ↓reduceIte, Nat.reduceEqDiff, Nat.reduceAdd, Nat.add_zero, Nat.zero_add, Int.toNat_natCast, Int.natCast_nonneg, true_and, and_true, and_self, List.nil_append, List.cons_append, U2, List.getElem?_cons_zero, List.getElem?_cons_succ, List.append_nil, List.length_map, Bool.not_true, Bool.not_false, decide_true, decide_false, eq_self, ne_eq, not_false_eq_true, Int.reduceLT, Int.reduceLE, Int.reduceNeg, nat_lt0, now w]
  refine alloc_intro fun b0 w0 hb0 hx0 hn0 => ?_
  simp only [↓X, ↓Y, V, U, Z, ↓Q, Tsl, Tarr, Ttk, Tfl, Tint, Tbool, Tbld, Tze, Tzel, Tcall, ↓reduceIte, Nat.reduceEqDiff, Nat.reduceAdd, Nat.add_zero, Nat.zero_add, Int.toNat_natCast, Int.natCast_nonneg, true_and, and_true, and_self, List.nil_append, List.cons_append, U2, List.getElem?_cons_zero, List.getElem?_cons_succ, List.append_nil, List.length_map, Bool.not_true, Bool.not_false, decide_true, decide_false, eq_self, ne_eq, not_false_eq_true, Int.reduceLT, Int.reduceLE, Int.reduceNeg, nat_lt0, now w0, putAt, List.set_cons_zero, List.set_cons_succ, List.length_cons, List.length_nil, Nat.reduceLeDiff, idxOk, flatP, Nat.reduceMul, Nat.reduceLT]
  refine row_intro fun b1 w1 hb1 hx1 _ => ?_
  simp only [↓X, ↓Y, V, U, Z, ↓Q, Tsl, Tarr, Ttk, Tfl, Tint, Tbool, Tbld, Tze, Tzel, Tcall, ↓reduceIte, Nat.reduceEqDiff, Nat.reduceAdd, Nat.add_zero, Nat.zero_add, Int.toNat_natCast, Int.natCast_nonneg, true_and, and_true, and_self, List.nil_append, List.cons_append, U2, List.getElem?_cons_zero, List.getElem?_cons_succ, List.append_nil, List.length_map, Bool.not_true, Bool.not_false, decide_true, decide_false, eq_self, ne_eq, not_false_eq_true, Int.reduceLT, Int.reduceLE, Int.reduceNeg, nat_lt0, now w1, putAt, List.set_cons_zero, List.set_cons_succ, List.length_cons, List.length_nil, Nat.reduceLeDiff, idxOk, flatP, Nat.reduceMul, Nat.reduceLT, hvc]
  refine storeAgg_intro (vs := [.slice (some ⟨b1, 0, none⟩) 3 3, v]) (by kernel_rfl) (hb0.ext hx1) rfl (by simp only [natV, intV, List.mem_cons, List.not_mem_nil, or_false, forall_eq_or_imp, forall_eq, one_int, one_bool, one_slice, one_ptr, and_self, hv1]) fun w6 hb6 hc6 => ?_
  simp only [↓X, ↓Y, V, U, Z, ↓Q, Tsl, Tarr, Ttk, Tfl, Tint, Tbool, Tbld, Tze, Tzel, Tcall, ↓reduceIte, Nat.reduceEqDiff, Nat.reduceAdd, Nat.add_zero, Nat.zero_add, Int.toNat_natCast, Int.natCast_nonneg, true_and, and_true, and_self, List.nil_append, List.cons_append, U2, List.getElem?_cons_zero, List.getElem?_cons_succ, List.append_nil, List.length_map, Bool.not_true, Bool.not_false, decide_true, decide_false, eq_self, ne_eq, not_false_eq_true, Int.reduceLT, Int.reduceLE, Int.reduceNeg, nat_lt0, now w6, hb6.cell]
  have l0 := hb0.lt
  have hx01 := hx0.trans hx1
  have k1 := hc6.blk hb1 (by omega)
  have hx6 := hx01.trans' (hc6.below hn0 hx01.size)
  refine ⟨hx6, _, rfl, ⟨row_slAgg (l := stepsEx.map stepC) k1 (by simp [stepC]) rfl (by simp [stepsEx]), ?_⟩⟩
  have hv6 := hv.ext hx6 hB
  have hB6 := Nat.le_trans hB hx6.size
  exact ⟨hv6.v.more hB6, hv6.len, fun i hi => let ⟨u, h1, h2⟩ := hv6.at_ i hi; ⟨u, h1, h2.more hB6⟩⟩
end Go.Proofs.YtgickfllblmhpaaDoor
