/- The example that every statement on layer 20 looks at. -/
import Derived.Test.YtgickfllblmhpaaDoorLive20
namespace Go.Proofs.YtgickfllblmhpaaDoor
set_option linter.unusedSimpArgs false
set_option linter.unusedVariables false
open Go Go.RowKit
set_option maxRecDepth 100000
set_option linter.unusedSectionVars false
set_option maxHeartbeats 2000000
/-- A row of lists. -/
theorem row_ll {w : World} {b t n : Nat} {vs : List Value} {ll : List (List Int)} (hb : Blk w b t vs) (hn : n = ll.length) (hl : vs.length = ll.length) (hs : n ≤ 1000) (h : ∀ i (h : i < ll.length), ∃ u, vs[i]? = some u ∧ Sl w w.heap.size none 1 u (ll[i].map intV)) :
    LLR w w.heap.size (.slice (some ⟨b, 0, none⟩) n n) vs ll := ⟨row_sl hb (by omega) (by omega), hl, h⟩
theorem SiteR.up {w : World} {B B' : Nat} {u : SiteVs} {s : SiteD} (h : SiteR w B u s) (hB : B ≤ B') : SiteR w B' u s := ⟨h.f.more hB, h.b.more hB, h.l.more hB, h.r.more hB, h.k.more hB, h.h.more hB⟩
theorem WishR.up {w : World} {B B' : Nat} {v : Value} {l : List SrvV} (h : WishR w B v l) (hB : B ≤ B') : WishR w B' v l := ⟨h.v.more hB, fun u hu => (h.a u hu).more hB, fun u hu => (h.n u hu).more hB⟩
theorem SiteR.now {w w' : World} {u : SiteVs} {s : SiteD} (h : SiteR w w.heap.size u s) (hx : Ext w w') : SiteR w' w'.heap.size u s := (h.ext hx (Nat.le_refl _)).up hx.size
theorem WishR.now {w w' : World} {v : Value} {l : List SrvV} (h : WishR w w.heap.size v l) (hx : Ext w w') : WishR w' w'.heap.size v l := (h.ext hx (Nat.le_refl _)).up hx.size
theorem natC_ints (l : List Nat) : l.map natV = (l.map fun n : Nat => (n : Int)).map intV := by simp [natV]
def pEx1 : PlanD := ⟨stepsEx, [[], [], [0, 1]]⟩
def pEx2 : PlanD := ⟨stepsEx, [[1], [], [0]]⟩
theorem ex1_err : planErr siteEx [srvEx] pEx1 = 0 := by kernel_rfl
theorem ex2_err : planErr siteEx [srvEx] pEx2 = 0 := by kernel_rfl
theorem ex1_ideals : idealsL pEx1 = [0, 1, 2, 3, 7] := by kernel_rfl
theorem ex2_asked : askedE 0 pEx2 7 = 0 := by kernel_rfl
theorem ex2_seq : seqF pEx2 7 4096 0 = [1, 0, 2] := by kernel_rfl
theorem law20live {w : World} (hT : TabW w) : Ret Tryd.prog 6 #[] w (.bool true) := by
  refine callsV_of Tryd.func6 rfl (by kernel_rfl) (by kernel_rfl) ?_
  rw [Tryd.results6]
  simp only [↓X, ↓Y, V, U, Z, ↓Q, Tsl, Tarr, Ttk, Tfl, Tint, Tbool, Tbld, Tze, Tzel, Tcall, ↓reduceIte, Nat.reduceEqDiff, Nat.reduceAdd, Nat.add_zero, Nat.zero_add, Int.toNat_natCast, Int.natCast_nonneg, true_and, and_true, and_self, List.nil_append, List.cons_append, U2, List.getElem?_cons_zero, List.getElem?_cons_succ, List.append_nil, List.length_map, Bool.not_true, Bool.not_false, decide_true, decide_false, eq_self, ne_eq, not_false_eq_true, Int.reduceLT, Int.reduceLE, Int.reduceNeg, nat_lt0, now w]
  refine CallsV.mono lawSite fun r w1 ⟨hx1, u1, hr1, hs1⟩ => ?_
  subst hr1
  simp only [↓X, ↓Y, V, U, Z, ↓Q, Tsl, Tarr, Ttk, Tfl, Tint, Tbool, Tbld, Tze, Tzel, Tcall, ↓reduceIte, Nat.reduceEqDiff, Nat.reduceAdd, Nat.add_zero, Nat.zero_add, Int.toNat_natCast, Int.natCast_nonneg, true_and, and_true, and_self, List.nil_append, List.cons_append, U2, List.getElem?_cons_zero, List.getElem?_cons_succ, List.append_nil, List.length_map, Bool.not_true, Bool.not_false, decide_true, decide_false, eq_self, ne_eq, not_false_eq_true, Int.reduceLT, Int.reduceLE, Int.reduceNeg, nat_lt0, now w1]
  refine CallsV.mono lawWish fun r w2 ⟨hx2, wv1, l1, hr2, hl1, hle1⟩ => ?_
  subst hr2
  simp only [↓X, ↓Y, V, U, Z, ↓Q, Tsl, Tarr, Ttk, Tfl, Tint, Tbool, Tbld, Tze, Tzel, Tcall, ↓reduceIte, Nat.reduceEqDiff, Nat.reduceAdd, Nat.add_zero, Nat.zero_add, Int.toNat_natCast, Int.natCast_nonneg, true_and, and_true, and_self, List.nil_append, List.cons_append, U2, List.getElem?_cons_zero, List.getElem?_cons_succ, List.append_nil, List.length_map, Bool.not_true, Bool.not_false, decide_true, decide_false, eq_self, ne_eq, not_false_eq_true, Int.reduceLT, Int.reduceLE, Int.reduceNeg, nat_lt0, now w2, putAt, List.set_cons_zero, List.set_cons_succ, List.length_cons, List.length_nil, Nat.reduceLeDiff, idxOk, flatP, Nat.reduceMul, Nat.reduceLT]
  refine row_intro fun b3 w3 hb3 hx3 _ => ?_
  simp only [↓X, ↓Y, V, U, Z, ↓Q, Tsl, Tarr, Ttk, Tfl, Tint, Tbool, Tbld, Tze, Tzel, Tcall, ↓reduceIte, Nat.reduceEqDiff, Nat.reduceAdd, Nat.add_zero, Nat.zero_add, Int.toNat_natCast, Int.natCast_nonneg, true_and, and_true, and_self, List.nil_append, List.cons_append, U2, List.getElem?_cons_zero, List.getElem?_cons_succ, List.append_nil, List.length_map, Bool.not_true, Bool.not_false, decide_true, decide_false, eq_self, ne_eq, not_false_eq_true, Int.reduceLT, Int.reduceLE, Int.reduceNeg, nat_lt0, now w3, putAt, List.set_cons_zero, List.set_cons_succ, List.length_cons, List.length_nil, Nat.reduceLeDiff, idxOk, flatP, Nat.reduceMul, Nat.reduceLT]
  refine row_intro fun b4 w4 hb4 hx4 _ => ?_
  simp only [↓X, ↓Y, V, U, Z, ↓Q, Tsl, Tarr, Ttk, Tfl, Tint, Tbool, Tbld, Tze, Tzel, Tcall, ↓reduceIte, Nat.reduceEqDiff, Nat.reduceAdd, Nat.add_zero, Nat.zero_add, Int.toNat_natCast, Int.natCast_nonneg, true_and, and_true, and_self, List.nil_append, List.cons_append, U2, List.getElem?_cons_zero, List.getElem?_cons_succ, List.append_nil, List.length_map, Bool.not_true, Bool.not_false, decide_true, decide_false, eq_self, ne_eq, not_false_eq_true, Int.reduceLT, Int.reduceLE, Int.reduceNeg, nat_lt0, now w4]
  have hll : LLR w4 w4.heap.size (.slice (some ⟨b4, 0, none⟩) 3 3) [.slice none 0 0, .slice none 0 0, .slice (some ⟨b3, 0, none⟩) 2 2] [[], [], [0, 1]] := by
    refine row_ll hb4 rfl rfl (by decide) fun i hi => ?_
    simp only [List.length_cons, List.length_nil] at hi
    rcases i with _ | _ | _ | i
    · exact ⟨_, rfl, Sl.nil _ _ _ _⟩
    · exact ⟨_, rfl, Sl.nil _ _ _ _⟩
    · exact ⟨_, rfl, row_sl (hb3.ext hx4) rfl (by simp)⟩
    · omega
  refine CallsV.mono (lawExample (Nat.le_refl _) hll) fun r w5 ⟨hx5, sv5, hr5, hp5⟩ => ?_
  subst hr5
  simp only [↓X, ↓Y, V, U, Z, ↓Q, Tsl, Tarr, Ttk, Tfl, Tint, Tbool, Tbld, Tze, Tzel, Tcall, ↓reduceIte, Nat.reduceEqDiff, Nat.reduceAdd, Nat.add_zero, Nat.zero_add, Int.toNat_natCast, Int.natCast_nonneg, true_and, and_true, and_self, List.nil_append, List.cons_append, U2, List.getElem?_cons_zero, List.getElem?_cons_succ, List.append_nil, List.length_map, Bool.not_true, Bool.not_false, decide_true, decide_false, eq_self, ne_eq, not_false_eq_true, Int.reduceLT, Int.reduceLE, Int.reduceNeg, nat_lt0, now w5]
  have hx25 := hx3.trans (hx4.trans hx5)
  have hx15 := hx2.trans hx25
  have hx05 := hx1.trans hx15
  have he1 : planErr siteEx (l1.map (·.x)) pEx1 = 0 := by rw [hle1]; exact ex1_err
  have hW5 := hl1.now hx25
  have hS5 := hs1.now hx15
  refine CallsV.mono (planIdeals (hT.ext hx05) (Nat.le_refl _) hS5 hW5 hp5 he1) fun r w6 ⟨hx6, v6, hr6, ho6⟩ => ?_
  subst hr6
  rw [if_pos rfl] at ho6
  have e6 : idealsL ⟨stepsEx, [[], [], [0, 1]]⟩ = [0, 1, 2, 3, 7] := ex1_ideals
  rw [e6] at ho6
  simp only [↓X, ↓Y, V, U, Z, ↓Q, Tsl, Tarr, Ttk, Tfl, Tint, Tbool, Tbld, Tze, Tzel, Tcall, ↓reduceIte, Nat.reduceEqDiff, Nat.reduceAdd, Nat.add_zero, Nat.zero_add, Int.toNat_natCast, Int.natCast_nonneg, true_and, and_true, and_self, List.nil_append, List.cons_append, U2, List.getElem?_cons_zero, List.getElem?_cons_succ, List.append_nil, List.length_map, Bool.not_true, Bool.not_false, decide_true, decide_false, eq_self, ne_eq, not_false_eq_true, Int.reduceLT, Int.reduceLE, Int.reduceNeg, nat_lt0, now w6]
  refine CallsV.mono lawSite fun r w7 ⟨hx7, u7, hr7, hs7⟩ => ?_
  subst hr7
  simp only [↓X, ↓Y, V, U, Z, ↓Q, Tsl, Tarr, Ttk, Tfl, Tint, Tbool, Tbld, Tze, Tzel, Tcall, ↓reduceIte, Nat.reduceEqDiff, Nat.reduceAdd, Nat.add_zero, Nat.zero_add, Int.toNat_natCast, Int.natCast_nonneg, true_and, and_true, and_self, List.nil_append, List.cons_append, U2, List.getElem?_cons_zero, List.getElem?_cons_succ, List.append_nil, List.length_map, Bool.not_true, Bool.not_false, decide_true, decide_false, eq_self, ne_eq, not_false_eq_true, Int.reduceLT, Int.reduceLE, Int.reduceNeg, nat_lt0, now w7]
  refine CallsV.mono lawWish fun r w8 ⟨hx8, wv8, l8, hr8, hl8, hle8⟩ => ?_
  subst hr8
  simp only [↓X, ↓Y, V, U, Z, ↓Q, Tsl, Tarr, Ttk, Tfl, Tint, Tbool, Tbld, Tze, Tzel, Tcall, ↓reduceIte, Nat.reduceEqDiff, Nat.reduceAdd, Nat.add_zero, Nat.zero_add, Int.toNat_natCast, Int.natCast_nonneg, true_and, and_true, and_self, List.nil_append, List.cons_append, U2, List.getElem?_cons_zero, List.getElem?_cons_succ, List.append_nil, List.length_map, Bool.not_true, Bool.not_false, decide_true, decide_false, eq_self, ne_eq, not_false_eq_true, Int.reduceLT, Int.reduceLE, Int.reduceNeg, nat_lt0, now w8, putAt, List.set_cons_zero, List.set_cons_succ, List.length_cons, List.length_nil, Nat.reduceLeDiff, idxOk, flatP, Nat.reduceMul, Nat.reduceLT]
  refine row_intro fun b9 w9 hb9 hx9 _ => ?_
  simp only [↓X, ↓Y, V, U, Z, ↓Q, Tsl, Tarr, Ttk, Tfl, Tint, Tbool, Tbld, Tze, Tzel, Tcall, ↓reduceIte, Nat.reduceEqDiff, Nat.reduceAdd, Nat.add_zero, Nat.zero_add, Int.toNat_natCast, Int.natCast_nonneg, true_and, and_true, and_self, List.nil_append, List.cons_append, U2, List.getElem?_cons_zero, List.getElem?_cons_succ, List.append_nil, List.length_map, Bool.not_true, Bool.not_false, decide_true, decide_false, eq_self, ne_eq, not_false_eq_true, Int.reduceLT, Int.reduceLE, Int.reduceNeg, nat_lt0, now w9, putAt, List.set_cons_zero, List.set_cons_succ, List.length_cons, List.length_nil, Nat.reduceLeDiff, idxOk, flatP, Nat.reduceMul, Nat.reduceLT]
  refine row_intro fun b10 w10 hb10 hx10 _ => ?_
  simp only [↓X, ↓Y, V, U, Z, ↓Q, Tsl, Tarr, Ttk, Tfl, Tint, Tbool, Tbld, Tze, Tzel, Tcall, ↓reduceIte, Nat.reduceEqDiff, Nat.reduceAdd, Nat.add_zero, Nat.zero_add, Int.toNat_natCast, Int.natCast_nonneg, true_and, and_true, and_self, List.nil_append, List.cons_append, U2, List.getElem?_cons_zero, List.getElem?_cons_succ, List.append_nil, List.length_map, Bool.not_true, Bool.not_false, decide_true, decide_false, eq_self, ne_eq, not_false_eq_true, Int.reduceLT, Int.reduceLE, Int.reduceNeg, nat_lt0, now w10, putAt, List.set_cons_zero, List.set_cons_succ, List.length_cons, List.length_nil, Nat.reduceLeDiff, idxOk, flatP, Nat.reduceMul, Nat.reduceLT]
  refine row_intro fun b11 w11 hb11 hx11 _ => ?_
  simp only [↓X, ↓Y, V, U, Z, ↓Q, Tsl, Tarr, Ttk, Tfl, Tint, Tbool, Tbld, Tze, Tzel, Tcall, ↓reduceIte, Nat.reduceEqDiff, Nat.reduceAdd, Nat.add_zero, Nat.zero_add, Int.toNat_natCast, Int.natCast_nonneg, true_and, and_true, and_self, List.nil_append, List.cons_append, U2, List.getElem?_cons_zero, List.getElem?_cons_succ, List.append_nil, List.length_map, Bool.not_true, Bool.not_false, decide_true, decide_false, eq_self, ne_eq, not_false_eq_true, Int.reduceLT, Int.reduceLE, Int.reduceNeg, nat_lt0, now w11]
  have hll : LLR w11 w11.heap.size (.slice (some ⟨b11, 0, none⟩) 3 3) [.slice (some ⟨b9, 0, none⟩) 1 1, .slice none 0 0, .slice (some ⟨b10, 0, none⟩) 1 1] [[1], [], [0]] := by
    refine row_ll hb11 rfl rfl (by decide) fun i hi => ?_
    simp only [List.length_cons, List.length_nil] at hi
    rcases i with _ | _ | _ | i
    · exact ⟨_, rfl, row_sl (hb9.ext (hx10.trans hx11)) rfl (by simp)⟩
    · exact ⟨_, rfl, Sl.nil _ _ _ _⟩
    · exact ⟨_, rfl, row_sl (hb10.ext hx11) rfl (by simp)⟩
    · omega
  refine CallsV.mono (lawExample (Nat.le_refl _) hll) fun r w12 ⟨hx12, sv12, hr12, hp12⟩ => ?_
  subst hr12
  simp only [↓X, ↓Y, V, U, Z, ↓Q, Tsl, Tarr, Ttk, Tfl, Tint, Tbool, Tbld, Tze, Tzel, Tcall, ↓reduceIte, Nat.reduceEqDiff, Nat.reduceAdd, Nat.add_zero, Nat.zero_add, Int.toNat_natCast, Int.natCast_nonneg, true_and, and_true, and_self, List.nil_append, List.cons_append, U2, List.getElem?_cons_zero, List.getElem?_cons_succ, List.append_nil, List.length_map, Bool.not_true, Bool.not_false, decide_true, decide_false, eq_self, ne_eq, not_false_eq_true, Int.reduceLT, Int.reduceLE, Int.reduceNeg, nat_lt0, now w12]
  have hx812 := hx9.trans (hx10.trans (hx11.trans hx12))
  have hx712 := hx8.trans hx812
  have hx612 := hx7.trans hx712
  have hx012 := hx05.trans (hx6.trans hx612)
  have he2 : planErr siteEx (l8.map (·.x)) pEx2 = 0 := by rw [hle8]; exact ex2_err
  refine CallsV.mono (planSequence (x := 7) (hT.ext hx012) (Nat.le_refl _) (hs7.now hx712) (hl8.now hx812) hp12 he2) fun r w13 ⟨hx13, v13, hr13, ho13⟩ => ?_
  subst hr13
  have e12 : askedE 0 ⟨stepsEx, [[1], [], [0]]⟩ 7 = 0 := ex2_asked
  have e13 : seqF ⟨stepsEx, [[1], [], [0]]⟩ (7 : Int).toNat 4096 0 = [1, 0, 2] := ex2_seq
  rw [e12, if_pos rfl, e13] at ho13
  have ho6' := ho6.ext (hx612.trans hx13)
  simp only [↓X, ↓Y, V, U, Z, ↓Q, Tsl, Tarr, Ttk, Tfl, Tint, Tbool, Tbld, Tze, Tzel, Tcall, ↓reduceIte, Nat.reduceEqDiff, Nat.reduceAdd, Nat.add_zero, Nat.zero_add, Int.toNat_natCast, Int.natCast_nonneg, true_and, and_true, and_self, List.nil_append, List.cons_append, U2, List.getElem?_cons_zero, List.getElem?_cons_succ, List.append_nil, List.length_map, Bool.not_true, Bool.not_false, decide_true, decide_false, eq_self, ne_eq, not_false_eq_true, Int.reduceLT, Int.reduceLE, Int.reduceNeg, nat_lt0, now w13, e12, intV, putAt, List.set_cons_zero, List.set_cons_succ, List.length_cons, List.length_nil, Nat.reduceLeDiff, idxOk, flatP, Nat.reduceMul, Nat.reduceLT, beq_self_eq_true]
  refine row_intro fun b14 w14 hb14 hx14 _ => ?_
  simp only [↓X, ↓Y, V, U, Z, ↓Q, Tsl, Tarr, Ttk, Tfl, Tint, Tbool, Tbld, Tze, Tzel, Tcall, ↓reduceIte, Nat.reduceEqDiff, Nat.reduceAdd, Nat.add_zero, Nat.zero_add, Int.toNat_natCast, Int.natCast_nonneg, true_and, and_true, and_self, List.nil_append, List.cons_append, U2, List.getElem?_cons_zero, List.getElem?_cons_succ, List.append_nil, List.length_map, Bool.not_true, Bool.not_false, decide_true, decide_false, eq_self, ne_eq, not_false_eq_true, Int.reduceLT, Int.reduceLE, Int.reduceNeg, nat_lt0, now w14]
  have i1 : Sl w14 w14.heap.size none 1 v6 (([0, 1, 2, 3, 7] : List Int).map intV) := ((ho6'.ext hx14).sl1 (f := natV))
  refine ret_bind' (Ext.refl w14) (ref12Ints (b := [0, 1, 2, 3, 7]) (Nat.le_refl _) i1 (row_sl hb14 rfl (by simp))) fun w15 hx15' => ?_
  simp only [↓X, ↓Y, V, U, Z, ↓Q, Tsl, Tarr, Ttk, Tfl, Tint, Tbool, Tbld, Tze, Tzel, Tcall, ↓reduceIte, Nat.reduceEqDiff, Nat.reduceAdd, Nat.add_zero, Nat.zero_add, Int.toNat_natCast, Int.natCast_nonneg, true_and, and_true, and_self, List.nil_append, List.cons_append, U2, List.getElem?_cons_zero, List.getElem?_cons_succ, List.append_nil, List.length_map, Bool.not_true, Bool.not_false, decide_true, decide_false, eq_self, ne_eq, not_false_eq_true, Int.reduceLT, Int.reduceLE, Int.reduceNeg, nat_lt0, now w15, putAt, List.set_cons_zero, List.set_cons_succ, List.length_cons, List.length_nil, Nat.reduceLeDiff, idxOk, flatP, Nat.reduceMul, Nat.reduceLT, show decide (([0, 1, 2, 3, 7] : List Int) = [0, 1, 2, 3, 7]) = true from rfl]
  refine row_intro fun b16 w16 hb16 hx16 _ => ?_
  simp only [↓X, ↓Y, V, U, Z, ↓Q, Tsl, Tarr, Ttk, Tfl, Tint, Tbool, Tbld, Tze, Tzel, Tcall, ↓reduceIte, Nat.reduceEqDiff, Nat.reduceAdd, Nat.add_zero, Nat.zero_add, Int.toNat_natCast, Int.natCast_nonneg, true_and, and_true, and_self, List.nil_append, List.cons_append, U2, List.getElem?_cons_zero, List.getElem?_cons_succ, List.append_nil, List.length_map, Bool.not_true, Bool.not_false, decide_true, decide_false, eq_self, ne_eq, not_false_eq_true, Int.reduceLT, Int.reduceLE, Int.reduceNeg, nat_lt0, now w16]
  have hx1316 := hx14.trans (hx15'.trans hx16)
  have i2 : Sl w16 w16.heap.size none 1 v13 (([1, 0, 2] : List Int).map intV) := ((ho13.ext hx1316).sl1 (f := natV))
  refine ret_bind' (Ext.refl w16) (ref12Ints (b := [1, 0, 2]) (Nat.le_refl _) i2 (row_sl hb16 rfl (by simp))) fun w17 hx17 => ?_
  simp only [↓X, ↓Y, V, U, Z, ↓Q, Tsl, Tarr, Ttk, Tfl, Tint, Tbool, Tbld, Tze, Tzel, Tcall, ↓reduceIte, Nat.reduceEqDiff, Nat.reduceAdd, Nat.add_zero, Nat.zero_add, Int.toNat_natCast, Int.natCast_nonneg, true_and, and_true, and_self, List.nil_append, List.cons_append, U2, List.getElem?_cons_zero, List.getElem?_cons_succ, List.append_nil, List.length_map, Bool.not_true, Bool.not_false, decide_true, decide_false, eq_self, ne_eq, not_false_eq_true, Int.reduceLT, Int.reduceLE, Int.reduceNeg, nat_lt0, now w17, show decide (([1, 0, 2] : List Int) = [1, 0, 2]) = true from rfl]
  exact hx012.trans (hx13.trans (hx1316.trans hx17))
end Go.Proofs.YtgickfllblmhpaaDoor
