/- The layer order: of. -/
import Derived.Test.YtgickfllblmhpaaDoorTz
namespace Go.Proofs.YtgickfllblmhpaaDoor
set_option linter.unusedSimpArgs false
set_option linter.unusedVariables false
open Go Go.RowKit
set_option maxRecDepth 100000
set_option linter.unusedSectionVars false
/- what of reckons -/
def ascP : Int → List Int → Bool
  | _, [] => true
  | p, a :: r => decide (p < a) && ascP a r
def ascL : List Int → Bool
  | [] => true
  | a :: r => ascP a r
def dirL (n i : Int) : Nat → List Int → Option Nat
  | set, [] => some set
  | set, k :: r => if k < 0 ∨ n ≤ k ∨ k = i then none else dirL n i (set ||| 2 ^ k.toNat) r
def dirs (n : Int) : Nat → List (List Int) → Option (List Nat)
  | _, [] => some []
  | i, l :: r => match dirL n i 0 l with
    | none => none
    | some d => (dirs n (i + 1) r).map (d :: ·)
def rdyF (done : Nat) : Nat → List Nat → Nat
  | _, [] => 0
  | i, d :: r => (if !done.testBit i && sub d done == 0 then 2 ^ i else 0) ||| rdyF done (i + 1) r
theorem rdyF_lt (done : Nat) : ∀ (l : List Nat) (i : Nat), rdyF done i l < 2 ^ (i + l.length)
  | [], i => by simp [rdyF, Nat.pow_pos]
  | d :: r, i => by
    unfold rdyF
    have := rdyF_lt done r (i + 1)
    rw [show i + 1 + r.length = i + (d :: r).length by simp; omega] at this
    refine Nat.or_lt_two_pow ?_ this
    split
    · exact Nat.pow_lt_pow_right (by decide) (by simp)
    · exact Nat.pow_pos (by decide)
theorem two_pow_le {k : Nat} (h : k ≤ 12) : 2 ^ k ≤ 4096 := by
  have := Nat.pow_le_pow_right (n := 2) (by decide) h
  simpa using this
theorem orderReady {w : World} {B : Nat} {nv vd va : Value} {direct : List Nat} {done : Nat} (hB : B ≤ w.heap.size) (hs : Sl w B none 1 vd (direct.map natV)) (hd : ∀ d ∈ direct, d < 4096) (hl : direct.length ≤ 12) (hdone : done < 4096) :
    Ret Tryd.prog 71 #[.agg #[nv, vd, va], natV done] w (natV (rdyF done 0 direct)) := by
  refine callsV_of Tryd.func71 rfl (by kernel_rfl) (by kernel_rfl) ?_
  rw [Tryd.results71]
  simp only [↓X, ↓Y, V, U, Z, ↓Q, Tsl, Tarr, Ttk, Tfl, Tint, Tbool, Tbld, Tze, Tzel, Tcall, ↓reduceIte, Nat.reduceEqDiff, Nat.reduceAdd, Nat.add_zero, Nat.zero_add, Int.toNat_natCast, Int.natCast_nonneg, true_and, and_true, and_self, List.nil_append, List.cons_append, U2, List.getElem?_cons_zero, List.getElem?_cons_succ, List.append_nil, List.length_map, Bool.not_true, Bool.not_false, decide_true, decide_false, eq_self, ne_eq, not_false_eq_true, Int.reduceLT, Int.reduceLE, Int.reduceNeg, nat_lt0, now w, natV, intV]
  refine alloc_intro fun b1 w1 hb1 hx1 _ => ?_
  have hs1 := hs.ext hx1 hB
  have hB1 : B ≤ w1.heap.size := Nat.le_trans hB hx1.size
  simp only [↓X, ↓Y, V, U, Z, ↓Q, Tsl, Tarr, Ttk, Tfl, Tint, Tbool, Tbld, Tze, Tzel, Tcall, ↓reduceIte, Nat.reduceEqDiff, Nat.reduceAdd, Nat.add_zero, Nat.zero_add, Int.toNat_natCast, Int.natCast_nonneg, true_and, and_true, and_self, List.nil_append, List.cons_append, U2, List.getElem?_cons_zero, List.getElem?_cons_succ, List.append_nil, List.length_map, Bool.not_true, Bool.not_false, decide_true, decide_false, eq_self, ne_eq, not_false_eq_true, Int.reduceLT, Int.reduceLE, Int.reduceNeg, nat_lt0, now w1, hb1.cell, hs.len_]
  refine loopX_intro (fun m g w' => ∃ (k : Nat) (c : Nat), k + m = direct.length ∧ g 11 = .int .i64 k ∧ g 10 = .int .i64 direct.length ∧ g 9 = vd ∧ g 1 = .int .i64 done ∧ g 5 = .int .i64 c ∧ c < 4096 ∧ c ||| rdyF done k (direct.drop k) = rdyF done 0 direct ∧ Ext w1 w') direct.length (by kernel_rfl) ?_ ?_
  · refine ⟨0, 0, by omega, ?_⟩
    simp only [↓X, ↓Y, V, U, Z, ↓Q, Tsl, Tarr, Ttk, Tfl, Tint, Tbool, Tbld, Tze, Tzel, Tcall, ↓reduceIte, Nat.reduceEqDiff, Nat.reduceAdd, Nat.add_zero, Nat.zero_add, Int.toNat_natCast, Int.natCast_nonneg, true_and, and_true, and_self, List.nil_append, List.cons_append, U2, List.getElem?_cons_zero, List.getElem?_cons_succ, List.append_nil, List.length_map, Bool.not_true, Bool.not_false, decide_true, decide_false, eq_self, ne_eq, not_false_eq_true, Int.reduceLT, Int.reduceLE, Int.reduceNeg, nat_lt0]
    (repeat' apply And.intro) <;> first | rfl | assumption | exact Ext.refl _ | simp | rfl
  · rintro m g w2 ⟨k, c, hk, h11, h10, h9, h1, h5, hc, hm, hx⟩
    by_cases hlt : k < direct.length
    · have hat := (hs1.ext hx hB1).at_ k hlt
      have hmem := hd _ (List.getElem_mem hlt)
      have e1 : (andI .i64 (shrI .i64 (done : Int) (k : Int)) 1 == 0) = !done.testBit k := bit_eq0 (by omega) (by omega)
      have e2 : andNotI .i64 ((direct[k] : Nat) : Int) (done : Int) = ((sub direct[k] done : Nat) : Int) := andNotI_nat (by omega) (by omega)
      rw [List.drop_eq_getElem_cons hlt, rdyF] at hm
      have e3 : (((sub direct[k] done : Nat) : Int) == 0) = (sub direct[k] done == 0) := by
        rw [Bool.eq_iff_iff]; simp
      have e4 := shlI_nat (k := k) (by omega)
      have e5 : orI .i64 (c : Int) ((2 ^ k : Nat) : Int) = ((c ||| 2 ^ k : Nat) : Int) := orI_nat (by omega) (by have := two_pow_le (k := k) (by omega); omega)
      have e6 : c ||| 2 ^ k < 4096 := Nat.or_lt_two_pow (n := 12) hc (Nat.pow_lt_pow_right (by decide) (by omega))
      cases c1 : done.testBit k <;> cases c2 : sub direct[k] done == 0 <;> rw [c1] at e1 <;> rw [c2] at e3 <;> rw [c1, c2] at hm <;>
        simp only [↓X, ↓Y, V, U, Z, ↓Q, Tsl, Tarr, Ttk, Tfl, Tint, Tbool, Tbld, Tze, Tzel, Tcall, ↓reduceIte, Nat.reduceEqDiff, Nat.reduceAdd, Nat.add_zero, Nat.zero_add, Int.toNat_natCast, Int.natCast_nonneg, true_and, and_true, and_self, List.nil_append, List.cons_append, U2, List.getElem?_cons_zero, List.getElem?_cons_succ, List.append_nil, List.length_map, Bool.not_true, Bool.not_false, decide_true, decide_false, eq_self, ne_eq, not_false_eq_true, Int.reduceLT, Int.reduceLE, Int.reduceNeg, nat_lt0, now w2, h11, h10, h9, h1, h5, Int.ofNat_lt, hlt, hs.len_, hat, natV, intV, e1, e2, e3, e4, e5] <;>
        first
        | (refine ⟨m - 1, by omega, k + 1, c, ?_⟩; (repeat' apply And.intro) <;> first | rfl | assumption | omega | exact Nat.lt_of_lt_of_le hc (Nat.le_refl _) | rw [wrap_succ hlt (by omega)] | (rw [← hm]; simp); done)
        | (refine ⟨m - 1, by omega, k + 1, c ||| 2 ^ k, ?_⟩; (repeat' apply And.intro) <;> first | rfl | assumption | omega | rw [wrap_succ hlt (by omega)] | (rw [← hm, Nat.or_assoc]; simp); done)
    · simp only [↓X, ↓Y, V, U, Z, ↓Q, Tsl, Tarr, Ttk, Tfl, Tint, Tbool, Tbld, Tze, Tzel, Tcall, ↓reduceIte, Nat.reduceEqDiff, Nat.reduceAdd, Nat.add_zero, Nat.zero_add, Int.toNat_natCast, Int.natCast_nonneg, true_and, and_true, and_self, List.nil_append, List.cons_append, U2, List.getElem?_cons_zero, List.getElem?_cons_succ, List.append_nil, List.length_map, Bool.not_true, Bool.not_false, decide_true, decide_false, eq_self, ne_eq, not_false_eq_true, Int.reduceLT, Int.reduceLE, Int.reduceNeg, nat_lt0, now w2, h11, h10, h5, Int.ofNat_lt, hlt]
      rw [List.drop_eq_nil_of_le (by omega)] at hm
      exact ⟨by rw [← hm]; simp [rdyF], hx1.trans hx⟩
/- a list of lists -/
structure LLR (w : World) (B : Nat) (v : Value) (vs : List Value) (ll : List (List Int)) : Prop where
  v : Sl w B none 1 v vs
  len : vs.length = ll.length
  at_ : ∀ i (h : i < ll.length), ∃ u, vs[i]? = some u ∧ Sl w B none 1 u (ll[i].map intV)
theorem LLR.ext {w w' : World} {B : Nat} {v : Value} {vs : List Value} {ll : List (List Int)} (h : LLR w B v vs ll) (hx : Ext w w') (hB : B ≤ w.heap.size) : LLR w' B v vs ll :=
  ⟨h.v.ext hx hB, h.len, fun i hi => let ⟨u, h1, h2⟩ := h.at_ i hi; ⟨u, h1, h2.ext hx hB⟩⟩
theorem LLR.get {w : World} {B : Nat} {v : Value} {vs : List Value} {ll : List (List Int)} (h : LLR w B v vs ll) {i : Nat} (hi : i < ll.length) : ∃ u, rdv none w (elemAt v 1 i) = some u ∧ Sl w B none 1 u (ll[i].map intV) := by
  obtain ⟨u, h1, h2⟩ := h.at_ i hi
  have hlt : i < vs.length := by rw [h.len]; exact hi
  refine ⟨u, ?_, h2⟩
  rw [h.v.rd i hlt]
  rw [List.getElem?_eq_getElem hlt] at h1
  exact h1
theorem LLR.len_ {w : World} {B : Nat} {v : Value} {vs : List Value} {ll : List (List Int)} (h : LLR w B v vs ll) : SlWf v ∧ isSl v ∧ lenN v = ll.length := ⟨h.v.wf, h.v.sl, by rw [h.v.len, h.len]⟩
theorem LLR.max_ {w : World} {B : Nat} {v : Value} {vs : List Value} {ll : List (List Int)} (h : LLR w B v vs ll) : ll.length ≤ 9223372036854775807 := by rw [← h.len]; exact h.v.maxLen
def upd (direct all : List Nat) (i : Nat) : List Nat := (lst (direct.getD i 0)).foldl (fun all k => all.set i (all.getD i 0 ||| all.getD k 0)) (all.set i (direct.getD i 0))
def kahn (direct : List Nat) (n : Nat) : Nat → Nat → List Nat → Int × List Nat
  | 0, _, all => (12, all)
  | f + 1, done, all => if done = 2 ^ n - 1 then (0, all) else
      let r := rdyF done 0 direct
      if r = 0 then (12, all) else kahn direct n f (done ||| r) ((lst r).foldl (upd direct) all)
def ofS (after : List (List Int)) : Int × List Nat × List Nat :=
  if 12 < after.length then (1, [], [])
  else if !after.all ascL then (1, [], [])
  else match dirs after.length 0 after with
    | none => (2, [], [])
    | some d => ((kahn d after.length 4096 0 (List.replicate after.length 0)).1, d, (kahn d after.length 4096 0 (List.replicate after.length 0)).2)
theorem mem_lst {r k n : Nat} (h : k ∈ lst r) (hr : r < 2 ^ n) : k < n := by
  have h1 : r.testBit k = true := by have := List.mem_filter.1 h; simpa using this.2
  rcases Nat.lt_or_ge k n with h2 | h2
  · exact h2
  · rw [Nat.testBit_lt_two_pow (Nat.lt_of_lt_of_le hr (Nat.pow_le_pow_right (by decide) h2))] at h1; cases h1
theorem rdyF_bit (done : Nat) : ∀ (l : List Nat) (i j : Nat), (rdyF done i l).testBit j = true → done.testBit j = false
  | [], i, j, h => by simp [rdyF] at h
  | d :: r, i, j, h => by
    unfold rdyF at h
    rw [Nat.testBit_or] at h
    rcases Bool.or_eq_true _ _ ▸ h with h | h
    · split at h
      · rename_i hc
        rw [Nat.testBit_two_pow] at h
        have : i = j := by simpa using h
        subst this
        simp only [Bool.and_eq_true, Bool.not_eq_true'] at hc
        exact hc.1
      · simp at h
    · exact rdyF_bit done r (i + 1) j h
theorem or_rdy_gt {done : Nat} {l : List Nat} (h : rdyF done 0 l ≠ 0) : done < done ||| rdyF done 0 l := by
  refine Nat.lt_of_le_of_ne Nat.left_le_or fun he => ?_
  obtain ⟨j, hj⟩ := Nat.exists_testBit_of_ne_zero h
  have h1 := rdyF_bit done l 0 j hj
  have h2 := congrArg (fun x => x.testBit j) he
  simp only [Nat.testBit_or, h1, hj] at h2
  cases h2
theorem getD_set_lt {l : List Nat} {i v M : Nat} (h : ∀ x, l.getD x 0 < M) (hv : v < M) : ∀ x, (l.set i v).getD x 0 < M := by
  intro x
  have := h x
  simp only [List.getD_eq_getElem?_getD, List.getElem?_set] at *
  split
  · split
    · exact hv
    · exact Nat.lt_of_le_of_lt (Nat.zero_le _) hv
  · exact this
theorem getD_map_natV {l : List Nat} {i : Nat} (h : i < l.length) : (l.map natV)[i]? = some (natV (l.getD i 0)) := by
  simp [List.getElem?_map, List.getD_eq_getElem?_getD, List.getElem?_eq_getElem h]
/-- What of hands back. -/
def OfR (after : List (List Int)) (w : World) (r : Value) (w' : World) : Prop := Ext w w' ∧ ∃ nv vd va, r = .tuple #[.agg #[nv, vd, va], intV (ofS after).1] ∧ (nv.oneCell' = true ∧ vd.oneCell' = true ∧ va.oneCell' = true) ∧
  ((ofS after).1 = 0 → nv = natV after.length ∧ Sl w' w'.heap.size none 1 vd ((ofS after).2.1.map natV) ∧ Sl w' w'.heap.size none 1 va ((ofS after).2.2.map natV))
theorem orderOf {w : World} {B : Nat} {v : Value} {vs : List Value} {after : List (List Int)} (hT : TabW w) (hB : B ≤ w.heap.size) (hv : LLR w B v vs after) : CallsV Tryd.prog 56 #[v] w (OfR after w) := by
  refine callsV_of Tryd.func56 rfl (by kernel_rfl) (by kernel_rfl) ?_
  rw [Tryd.results56]
  simp only [↓X, ↓Y, V, U, Z, ↓Q, Tsl, Tarr, Ttk, Tfl, Tint, Tbool, Tbld, Tze, Tzel, Tcall, ↓reduceIte, Nat.reduceEqDiff, Nat.reduceAdd, Nat.add_zero, Nat.zero_add, Int.toNat_natCast, Int.natCast_nonneg, true_and, and_true, and_self, List.nil_append, List.cons_append, U2, List.getElem?_cons_zero, List.getElem?_cons_succ, List.append_nil, List.length_map, Bool.not_true, Bool.not_false, decide_true, decide_false, eq_self, ne_eq, not_false_eq_true, Int.reduceLT, Int.reduceLE, Int.reduceNeg, nat_lt0, now w]
  refine alloc_intro fun b2 w2 hb2 hx2 hn2 => ?_
  simp only [↓X, ↓Y, V, U, Z, ↓Q, Tsl, Tarr, Ttk, Tfl, Tint, Tbool, Tbld, Tze, Tzel, Tcall, ↓reduceIte, Nat.reduceEqDiff, Nat.reduceAdd, Nat.add_zero, Nat.zero_add, Int.toNat_natCast, Int.natCast_nonneg, true_and, and_true, and_self, List.nil_append, List.cons_append, U2, List.getElem?_cons_zero, List.getElem?_cons_succ, List.append_nil, List.length_map, Bool.not_true, Bool.not_false, decide_true, decide_false, eq_self, ne_eq, not_false_eq_true, Int.reduceLT, Int.reduceLE, Int.reduceNeg, nat_lt0, now w2, hv.len_, putAt, List.set_cons_zero, List.set_cons_succ, List.length_cons, List.length_nil, Nat.reduceLeDiff]
  refine alloc_intro fun b4 w4 hb4 hx4 hn4 => ?_
  simp only [↓X, ↓Y, V, U, Z, ↓Q, Tsl, Tarr, Ttk, Tfl, Tint, Tbool, Tbld, Tze, Tzel, Tcall, ↓reduceIte, Nat.reduceEqDiff, Nat.reduceAdd, Nat.add_zero, Nat.zero_add, Int.toNat_natCast, Int.natCast_nonneg, true_and, and_true, and_self, List.nil_append, List.cons_append, U2, List.getElem?_cons_zero, List.getElem?_cons_succ, List.append_nil, List.length_map, Bool.not_true, Bool.not_false, decide_true, decide_false, eq_self, ne_eq, not_false_eq_true, Int.reduceLT, Int.reduceLE, Int.reduceNeg, nat_lt0, now w4, hv.len_, putAt, List.set_cons_zero, List.set_cons_succ, List.length_cons, List.length_nil, Nat.reduceLeDiff]
  refine storeAgg_intro (vs := [natV after.length, .slice none 0 0, .slice none 0 0]) (by kernel_rfl) hb4 rfl (by simp [natV, intV, Value.oneCell']) fun w5 hb5 hc5 => ?_
  have h24 : b2 ≠ b4 := by have := hb2.lt; omega
  have hx5 : Ext w w5 := (hx2.trans hx4).trans' (hc5.below (B := w.heap.size) (by have := hx2.size; omega) (hx2.trans hx4).size)
  have hb2 := hc5.blk (hb2.ext hx4) h24
  have hv5 := hv.ext hx5 hB
  have hB5 : B ≤ w5.heap.size := Nat.le_trans hB hx5.size
  clear hb4 hc5
  simp only [↓X, ↓Y, V, U, Z, ↓Q, Tsl, Tarr, Ttk, Tfl, Tint, Tbool, Tbld, Tze, Tzel, Tcall, ↓reduceIte, Nat.reduceEqDiff, Nat.reduceAdd, Nat.add_zero, Nat.zero_add, Int.toNat_natCast, Int.natCast_nonneg, true_and, and_true, and_self, List.nil_append, List.cons_append, U2, List.getElem?_cons_zero, List.getElem?_cons_succ, List.append_nil, List.length_map, Bool.not_true, Bool.not_false, decide_true, decide_false, eq_self, ne_eq, not_false_eq_true, Int.reduceLT, Int.reduceLE, Int.reduceNeg, nat_lt0, now w5, hb5.cell, natV, intV]
  -- how it ends
  have fin : ∀ {w6 w7 : World} {nv vd va : Value} {e : Int}, Ext w w6 → Chg w6 w7 b2 → Blk w7 b2 115 [nv, vd, va] → e = (ofS after).1 → (e = 0 → nv = natV after.length ∧ Sl w7 w7.heap.size none 1 vd ((ofS after).2.1.map natV) ∧ Sl w7 w7.heap.size none 1 va ((ofS after).2.2.map natV)) → (nv.oneCell' = true ∧ vd.oneCell' = true ∧ va.oneCell' = true) →
      OfR after w (.tuple #[.agg #[nv, vd, va], .int .i64 e]) w7 := by
    rintro w6 w7 nv vd va e hx hc hb he hok ho
    subst he
    exact ⟨hx.trans' (hc.below hn2 hx.size), nv, vd, va, rfl, ho, hok⟩
  have hmax := hv.max_
  have hmax' : (after.length : Int) ≤ 9223372036854775807 := by omega
  rcases Bool.eq_false_or_eq_true (decide (12 < (after.length : Int))) with h12 | h12
  · simp only [↓X, ↓Y, V, U, Z, ↓Q, Tsl, Tarr, Ttk, Tfl, Tint, Tbool, Tbld, Tze, Tzel, Tcall, ↓reduceIte, Nat.reduceEqDiff, Nat.reduceAdd, Nat.add_zero, Nat.zero_add, Int.toNat_natCast, Int.natCast_nonneg, true_and, and_true, and_self, List.nil_append, List.cons_append, U2, List.getElem?_cons_zero, List.getElem?_cons_succ, List.append_nil, List.length_map, Bool.not_true, Bool.not_false, decide_true, decide_false, eq_self, ne_eq, not_false_eq_true, Int.reduceLT, Int.reduceLE, Int.reduceNeg, nat_lt0, now w5, h12, hb5.cell, natV, intV]
    refine storeAgg_intro (vs := [natV after.length, .slice none 0 0, .slice none 0 0]) (by kernel_rfl) hb2 rfl (by simp [natV, intV, Value.oneCell']) fun w7 hb7 hc7 => ?_
    simp only [↓X, ↓Y, V, U, Z, ↓Q, Tsl, Tarr, Ttk, Tfl, Tint, Tbool, Tbld, Tze, Tzel, Tcall, ↓reduceIte, Nat.reduceEqDiff, Nat.reduceAdd, Nat.add_zero, Nat.zero_add, Int.toNat_natCast, Int.natCast_nonneg, true_and, and_true, and_self, List.nil_append, List.cons_append, U2, List.getElem?_cons_zero, List.getElem?_cons_succ, List.append_nil, List.length_map, Bool.not_true, Bool.not_false, decide_true, decide_false, eq_self, ne_eq, not_false_eq_true, Int.reduceLT, Int.reduceLE, Int.reduceNeg, nat_lt0, now w7, hb7.cell]
    have h12' : 12 < after.length := by have := of_decide_eq_true h12; omega
    exact fin hx5 hc7 hb7 (by simp [ofS, h12']) (by simp) ⟨rfl, rfl, rfl⟩
  simp only [↓X, ↓Y, V, U, Z, ↓Q, Tsl, Tarr, Ttk, Tfl, Tint, Tbool, Tbld, Tze, Tzel, Tcall, ↓reduceIte, Nat.reduceEqDiff, Nat.reduceAdd, Nat.add_zero, Nat.zero_add, Int.toNat_natCast, Int.natCast_nonneg, true_and, and_true, and_self, List.nil_append, List.cons_append, U2, List.getElem?_cons_zero, List.getElem?_cons_succ, List.append_nil, List.length_map, Bool.not_true, Bool.not_false, decide_true, decide_false, eq_self, ne_eq, not_false_eq_true, Int.reduceLT, Int.reduceLE, Int.reduceNeg, nat_lt0, now w5, h12, hb5.cell, hv.len_]
  have h12' : ¬ 12 < after.length := by have := of_decide_eq_false h12; omega
  refine loopX_intro (fun m g w' => ∃ (k : Nat), k + m = after.length ∧ g 28 = .int .i64 k ∧ g 27 = .int .i64 after.length ∧ g 26 = v ∧ g 0 = v ∧ g 2 = .pointer (some ⟨b2, 0, none⟩) ∧ g 4 = .pointer (some ⟨b4, 0, none⟩) ∧ (∀ i (h : i < after.length), i < k → ascL after[i] = true) ∧ Ext w5 w') after.length (by kernel_rfl) ?_ ?_
  · refine ⟨0, by omega, ?_⟩
    simp only [↓X, ↓Y, V, U, Z, ↓Q, Tsl, Tarr, Ttk, Tfl, Tint, Tbool, Tbld, Tze, Tzel, Tcall, ↓reduceIte, Nat.reduceEqDiff, Nat.reduceAdd, Nat.add_zero, Nat.zero_add, Int.toNat_natCast, Int.natCast_nonneg, true_and, and_true, and_self, List.nil_append, List.cons_append, U2, List.getElem?_cons_zero, List.getElem?_cons_succ, List.append_nil, List.length_map, Bool.not_true, Bool.not_false, decide_true, decide_false, eq_self, ne_eq, not_false_eq_true, Int.reduceLT, Int.reduceLE, Int.reduceNeg, nat_lt0]
    exact ⟨rfl, fun i _ h => absurd h (by omega), Ext.refl _⟩
  · rintro m g w6 ⟨k, hk, h28, h27, h26, h0, h2, h4, hasc, hx6⟩
    by_cases hlt : k < after.length
    · obtain ⟨u, hu, hsu⟩ := (hv5.ext hx6 hB5).get hlt
      simp only [↓X, ↓Y, V, U, Z, ↓Q, Tsl, Tarr, Ttk, Tfl, Tint, Tbool, Tbld, Tze, Tzel, Tcall, ↓reduceIte, Nat.reduceEqDiff, Nat.reduceAdd, Nat.add_zero, Nat.zero_add, Int.toNat_natCast, Int.natCast_nonneg, true_and, and_true, and_self, List.nil_append, List.cons_append, U2, List.getElem?_cons_zero, List.getElem?_cons_succ, List.append_nil, List.length_map, Bool.not_true, Bool.not_false, decide_true, decide_false, eq_self, ne_eq, not_false_eq_true, Int.reduceLT, Int.reduceLE, Int.reduceNeg, nat_lt0, now w6, h28, h27, h26, Int.ofNat_lt, hlt, hv.len_, hu, hsu.len_]
      refine loopX_intro (fun m' g w' => ∃ (j : Nat), j + m' = after[k].length ∧ g 34 = .int .i64 j ∧ g 33 = .int .i64 after[k].length ∧ g 6 = u ∧ g 28 = .int .i64 k ∧ g 27 = .int .i64 after.length ∧ g 26 = v ∧ g 0 = v ∧ g 2 = .pointer (some ⟨b2, 0, none⟩) ∧ g 4 = .pointer (some ⟨b4, 0, none⟩) ∧
        (j = 0 ∨ ∃ h : j - 1 < after[k].length, ascP after[k][j - 1] (after[k].drop j) = ascL after[k]) ∧ Ext w6 w') after[k].length (by kernel_rfl) ?_ ?_
      · refine ⟨0, by omega, ?_⟩
        simp only [↓X, ↓Y, V, U, Z, ↓Q, Tsl, Tarr, Ttk, Tfl, Tint, Tbool, Tbld, Tze, Tzel, Tcall, ↓reduceIte, Nat.reduceEqDiff, Nat.reduceAdd, Nat.add_zero, Nat.zero_add, Int.toNat_natCast, Int.natCast_nonneg, true_and, and_true, and_self, List.nil_append, List.cons_append, U2, List.getElem?_cons_zero, List.getElem?_cons_succ, List.append_nil, List.length_map, Bool.not_true, Bool.not_false, decide_true, decide_false, eq_self, ne_eq, not_false_eq_true, Int.reduceLT, Int.reduceLE, Int.reduceNeg, nat_lt0]
        (repeat' apply And.intro) <;> first | rfl | assumption | exact .inl rfl | trivial | exact .inl trivial | exact Ext.refl _
      · rintro m' g w7 ⟨j, hj, h34, h33, h6, h28, h27, h26, h0, h2, h4, hp, hx67⟩
        have hx7 := hx6.trans hx67
        by_cases hjl : j < after[k].length
        · simp only [↓X, ↓Y, V, U, Z, ↓Q, Tsl, Tarr, Ttk, Tfl, Tint, Tbool, Tbld, Tze, Tzel, Tcall, ↓reduceIte, Nat.reduceEqDiff, Nat.reduceAdd, Nat.add_zero, Nat.zero_add, Int.toNat_natCast, Int.natCast_nonneg, true_and, and_true, and_self, List.nil_append, List.cons_append, U2, List.getElem?_cons_zero, List.getElem?_cons_succ, List.append_nil, List.length_map, Bool.not_true, Bool.not_false, decide_true, decide_false, eq_self, ne_eq, not_false_eq_true, Int.reduceLT, Int.reduceLE, Int.reduceNeg, nat_lt0, now w7, h34, h33, Int.ofNat_lt, hjl]
          refine wpd_quiet_lit (by kernel_rfl) (by kernel_rfl) (by kernel_rfl) ?_
          have hsu7 := (hsu.ext hx67 (Nat.le_trans hB5 hx6.size))
          have hat := hsu7.at_ j hjl
          have hds := List.drop_eq_getElem_cons hjl
          cases c1 : decide ((0 : Int) < (j : Int))
          · simp only [↓X, ↓Y, V, U, Z, ↓Q, Tsl, Tarr, Ttk, Tfl, Tint, Tbool, Tbld, Tze, Tzel, Tcall, ↓reduceIte, Nat.reduceEqDiff, Nat.reduceAdd, Nat.add_zero, Nat.zero_add, Int.toNat_natCast, Int.natCast_nonneg, true_and, and_true, and_self, List.nil_append, List.cons_append, U2, List.getElem?_cons_zero, List.getElem?_cons_succ, List.append_nil, List.length_map, Bool.not_true, Bool.not_false, decide_true, decide_false, eq_self, ne_eq, not_false_eq_true, Int.reduceLT, Int.reduceLE, Int.reduceNeg, nat_lt0, now w7, c1, h6]
            intro w8 hx8
            simp only [↓X, ↓Y, V, U, Z, ↓Q, Tsl, Tarr, Ttk, Tfl, Tint, Tbool, Tbld, Tze, Tzel, Tcall, ↓reduceIte, Nat.reduceEqDiff, Nat.reduceAdd, Nat.add_zero, Nat.zero_add, Int.toNat_natCast, Int.natCast_nonneg, true_and, and_true, and_self, List.nil_append, List.cons_append, U2, List.getElem?_cons_zero, List.getElem?_cons_succ, List.append_nil, List.length_map, Bool.not_true, Bool.not_false, decide_true, decide_false, eq_self, ne_eq, not_false_eq_true, Int.reduceLT, Int.reduceLE, Int.reduceNeg, nat_lt0, now w8, h34]
            have hj0 : j = 0 := by have := of_decide_eq_false c1; omega
            subst hj0
            refine ⟨m' - 1, by omega, 1, by omega, by rfl, ?_⟩
            have hq : ascL after[k] = ascP after[k][0] (after[k].drop 1) := congrArg ascL (show after[k] = after[k][0] :: after[k].drop 1 from hds)
            (repeat' apply And.intro) <;> first | rfl | assumption | exact .inr ⟨by simpa using hjl, hq.symm⟩ | exact hx67.trans hx8
          · have hj0 : 0 < j := by have := of_decide_eq_true c1; omega
            obtain ⟨hj1, hp⟩ := hp.resolve_left (by omega)
            have hat' := hsu7.at_ (j - 1) hj1
            rw [hds, ascP] at hp
            have e1 : IntKind.i64.wrap ((j : Int) - 1) = ((j - 1 : Nat) : Int) := by rw [show (j : Int) - 1 = ((j - 1 : Nat) : Int) by omega, wrap_nat (by have := hsu.max_; omega)]
            cases c2 : decide (after[k][j] ≤ after[k][j - 1])
            · simp only [↓X, ↓Y, V, U, Z, ↓Q, Tsl, Tarr, Ttk, Tfl, Tint, Tbool, Tbld, Tze, Tzel, Tcall, ↓reduceIte, Nat.reduceEqDiff, Nat.reduceAdd, Nat.add_zero, Nat.zero_add, Int.toNat_natCast, Int.natCast_nonneg, true_and, and_true, and_self, List.nil_append, List.cons_append, U2, List.getElem?_cons_zero, List.getElem?_cons_succ, List.append_nil, List.length_map, Bool.not_true, Bool.not_false, decide_true, decide_false, eq_self, ne_eq, not_false_eq_true, Int.reduceLT, Int.reduceLE, Int.reduceNeg, nat_lt0, now w7, c1, h6, hsu.len_, Int.ofNat_lt, hjl, hat, e1, hj1, hat', intV, c2]
              intro w8 hx8
              simp only [↓X, ↓Y, V, U, Z, ↓Q, Tsl, Tarr, Ttk, Tfl, Tint, Tbool, Tbld, Tze, Tzel, Tcall, ↓reduceIte, Nat.reduceEqDiff, Nat.reduceAdd, Nat.add_zero, Nat.zero_add, Int.toNat_natCast, Int.natCast_nonneg, true_and, and_true, and_self, List.nil_append, List.cons_append, U2, List.getElem?_cons_zero, List.getElem?_cons_succ, List.append_nil, List.length_map, Bool.not_true, Bool.not_false, decide_true, decide_false, eq_self, ne_eq, not_false_eq_true, Int.reduceLT, Int.reduceLE, Int.reduceNeg, nat_lt0, now w8, h34]
              have c2' := of_decide_eq_false c2
              refine ⟨m' - 1, by omega, j + 1, by omega, by rw [wrap_succ hjl hsu.max_], ?_⟩
              (repeat' apply And.intro) <;> first | rfl | assumption | (refine .inr ⟨by simpa using hjl, ?_⟩; rw [← hp]; simp; omega) | exact hx67.trans hx8
            · simp only [↓X, ↓Y, V, U, Z, ↓Q, Tsl, Tarr, Ttk, Tfl, Tint, Tbool, Tbld, Tze, Tzel, Tcall, ↓reduceIte, Nat.reduceEqDiff, Nat.reduceAdd, Nat.add_zero, Nat.zero_add, Int.toNat_natCast, Int.natCast_nonneg, true_and, and_true, and_self, List.nil_append, List.cons_append, U2, List.getElem?_cons_zero, List.getElem?_cons_succ, List.append_nil, List.length_map, Bool.not_true, Bool.not_false, decide_true, decide_false, eq_self, ne_eq, not_false_eq_true, Int.reduceLT, Int.reduceLE, Int.reduceNeg, nat_lt0, now w7, c1, h6, hsu.len_, Int.ofNat_lt, hjl, hat, e1, hj1, hat', intV, c2]
              intro w8 hx8
              simp only [↓X, ↓Y, V, U, Z, ↓Q, Tsl, Tarr, Ttk, Tfl, Tint, Tbool, Tbld, Tze, Tzel, Tcall, ↓reduceIte, Nat.reduceEqDiff, Nat.reduceAdd, Nat.add_zero, Nat.zero_add, Int.toNat_natCast, Int.natCast_nonneg, true_and, and_true, and_self, List.nil_append, List.cons_append, U2, List.getElem?_cons_zero, List.getElem?_cons_succ, List.append_nil, List.length_map, Bool.not_true, Bool.not_false, decide_true, decide_false, eq_self, ne_eq, not_false_eq_true, Int.reduceLT, Int.reduceLE, Int.reduceNeg, nat_lt0, now w8, h4, h2, (hb5.ext (hx7.trans hx8)).cell]
              have c2' := of_decide_eq_true c2
              have hbad : ascL after[k] = false := by rw [← hp]; simp; omega
              refine storeAgg_intro (vs := [natV after.length, .slice none 0 0, .slice none 0 0]) (by kernel_rfl) (hb2.ext (hx7.trans hx8)) rfl (by simp [natV, intV, Value.oneCell']) fun w9 hb9 hc9 => ?_
              simp only [↓X, ↓Y, V, U, Z, ↓Q, Tsl, Tarr, Ttk, Tfl, Tint, Tbool, Tbld, Tze, Tzel, Tcall, ↓reduceIte, Nat.reduceEqDiff, Nat.reduceAdd, Nat.add_zero, Nat.zero_add, Int.toNat_natCast, Int.natCast_nonneg, true_and, and_true, and_self, List.nil_append, List.cons_append, U2, List.getElem?_cons_zero, List.getElem?_cons_succ, List.append_nil, List.length_map, Bool.not_true, Bool.not_false, decide_true, decide_false, eq_self, ne_eq, not_false_eq_true, Int.reduceLT, Int.reduceLE, Int.reduceNeg, nat_lt0, now w9, hb9.cell, h2]
              refine fin (hx5.trans (hx7.trans hx8)) hc9 hb9 ?_ (by simp) ⟨rfl, rfl, rfl⟩
              have : after.all ascL = false := by rw [List.all_eq_false]; exact ⟨_, List.getElem_mem hlt, by simp [hbad]⟩
              simp [ofS, h12', this]
        · simp only [↓X, ↓Y, V, U, Z, ↓Q, Tsl, Tarr, Ttk, Tfl, Tint, Tbool, Tbld, Tze, Tzel, Tcall, ↓reduceIte, Nat.reduceEqDiff, Nat.reduceAdd, Nat.add_zero, Nat.zero_add, Int.toNat_natCast, Int.natCast_nonneg, true_and, and_true, and_self, List.nil_append, List.cons_append, U2, List.getElem?_cons_zero, List.getElem?_cons_succ, List.append_nil, List.length_map, Bool.not_true, Bool.not_false, decide_true, decide_false, eq_self, ne_eq, not_false_eq_true, Int.reduceLT, Int.reduceLE, Int.reduceNeg, nat_lt0, now w7, h34, h33, h28, Int.ofNat_lt, hjl]
          refine ⟨m - 1, by omega, k + 1, by omega, by rw [wrap_succ hlt hmax], h27, h26, h0, h2, h4, fun i hi hik => ?_, hx7⟩
          rcases Nat.lt_or_eq_of_le (Nat.le_of_lt_succ hik) with h | rfl
          · exact hasc i hi h
          · rcases hp with h0 | ⟨h1, hp⟩
            · have : after[i] = [] := List.eq_nil_of_length_eq_zero (by omega)
              rw [this]; rfl
            · rw [List.drop_eq_nil_of_le (by omega)] at hp
              exact hp.symm
    · simp only [↓X, ↓Y, V, U, Z, ↓Q, Tsl, Tarr, Ttk, Tfl, Tint, Tbool, Tbld, Tze, Tzel, Tcall, ↓reduceIte, Nat.reduceEqDiff, Nat.reduceAdd, Nat.add_zero, Nat.zero_add, Int.toNat_natCast, Int.natCast_nonneg, true_and, and_true, and_self, List.nil_append, List.cons_append, U2, List.getElem?_cons_zero, List.getElem?_cons_succ, List.append_nil, List.length_map, Bool.not_true, Bool.not_false, decide_true, decide_false, eq_self, ne_eq, not_false_eq_true, Int.reduceLT, Int.reduceLE, Int.reduceNeg, nat_lt0, now w6, h28, h27, h0, h2, h4, Int.ofNat_lt, hlt, hv.len_]
      have hall : after.all ascL = true := by rw [List.all_eq_true]; intro l hl; obtain ⟨i, hi, rfl⟩ := List.getElem_of_mem hl; exact hasc i hi (by omega)
      have hx6' := hx5.trans hx6
      have hb2 := hb2.ext hx6
      have hb5 := hb5.ext hx6
      have hT6 := hT.ext hx6'
      clear hasc hk hlt h28 h27 h26
      have hN : after.length ≤ 12 := by omega
      refine loopX_intro (fun m g w' => ∃ (k : Nat) (ds : List Nat) (vd : Value), k + m = after.length ∧ g 56 = .int .i64 k ∧ g 55 = .int .i64 after.length ∧ g 54 = v ∧ g 0 = v ∧ g 2 = .pointer (some ⟨b2, 0, none⟩) ∧ g 4 = .pointer (some ⟨b4, 0, none⟩) ∧ ds.length = k ∧ (∀ d ∈ ds, d < 2 ^ after.length) ∧
        dirs after.length 0 after = (dirs after.length k (after.drop k)).map (ds ++ ·) ∧ Own w' w.heap.size 3 1 vd (ds.map natC) ∧ Blk w' b4 115 [natV after.length, vd, .slice none 0 0] ∧ Blk w' b2 115 [natV 0, .slice none 0 0, .slice none 0 0] ∧ Ext w w') after.length (by kernel_rfl) ?_ ?_
      · refine ⟨0, [], .slice none 0 0, ?_⟩
        simp only [↓X, ↓Y, V, U, Z, ↓Q, Tsl, Tarr, Ttk, Tfl, Tint, Tbool, Tbld, Tze, Tzel, Tcall, ↓reduceIte, Nat.reduceEqDiff, Nat.reduceAdd, Nat.add_zero, Nat.zero_add, Int.toNat_natCast, Int.natCast_nonneg, true_and, and_true, and_self, List.nil_append, List.cons_append, U2, List.getElem?_cons_zero, List.getElem?_cons_succ, List.append_nil, List.length_map, Bool.not_true, Bool.not_false, decide_true, decide_false, eq_self, ne_eq, not_false_eq_true, Int.reduceLT, Int.reduceLE, Int.reduceNeg, nat_lt0]
        (repeat' apply And.intro) <;> first | rfl | assumption | omega | exact Own.nil _ _ _ _ | exact hb5 | exact hb2 | simp | (simp; done)
      · rintro m g w7 ⟨k, ds, vd, hk, h56, h55, h54, h0, h2, h4, hdl, hdb, hds, hown, hb4, hb2, hx7⟩
        by_cases hlt : k < after.length
        · obtain ⟨u, hu, hsu⟩ := (hv.ext hx7 hB).get hlt
          simp only [↓X, ↓Y, V, U, Z, ↓Q, Tsl, Tarr, Ttk, Tfl, Tint, Tbool, Tbld, Tze, Tzel, Tcall, ↓reduceIte, Nat.reduceEqDiff, Nat.reduceAdd, Nat.add_zero, Nat.zero_add, Int.toNat_natCast, Int.natCast_nonneg, true_and, and_true, and_self, List.nil_append, List.cons_append, U2, List.getElem?_cons_zero, List.getElem?_cons_succ, List.append_nil, List.length_map, Bool.not_true, Bool.not_false, decide_true, decide_false, eq_self, ne_eq, not_false_eq_true, Int.reduceLT, Int.reduceLE, Int.reduceNeg, nat_lt0, now w7, h56, h55, h54, Int.ofNat_lt, hlt, hv.len_, hu, hsu.len_]
          rw [List.drop_eq_getElem_cons hlt, dirs] at hds
          refine loopX_intro (fun m' g w' => ∃ (j c : Nat), j + m' = after[k].length ∧ g 63 = .int .i64 j ∧ g 62 = .int .i64 after[k].length ∧ g 61 = u ∧ g 8 = .int .i64 k ∧ g 10 = .int .i64 c ∧ g 56 = .int .i64 k ∧ g 55 = .int .i64 after.length ∧ g 54 = v ∧ g 0 = v ∧ g 2 = .pointer (some ⟨b2, 0, none⟩) ∧ g 4 = .pointer (some ⟨b4, 0, none⟩) ∧
            c < 2 ^ after.length ∧ dirL after.length k c (after[k].drop j) = dirL after.length k 0 after[k] ∧ Ext w7 w') after[k].length (by kernel_rfl) ?_ ?_
          · refine ⟨0, 0, ?_⟩
            simp only [↓X, ↓Y, V, U, Z, ↓Q, Tsl, Tarr, Ttk, Tfl, Tint, Tbool, Tbld, Tze, Tzel, Tcall, ↓reduceIte, Nat.reduceEqDiff, Nat.reduceAdd, Nat.add_zero, Nat.zero_add, Int.toNat_natCast, Int.natCast_nonneg, true_and, and_true, and_self, List.nil_append, List.cons_append, U2, List.getElem?_cons_zero, List.getElem?_cons_succ, List.append_nil, List.length_map, Bool.not_true, Bool.not_false, decide_true, decide_false, eq_self, ne_eq, not_false_eq_true, Int.reduceLT, Int.reduceLE, Int.reduceNeg, nat_lt0]
            (repeat' apply And.intro) <;> first | rfl | assumption | omega | exact Ext.refl _ | exact Nat.pow_pos (by decide) | trivial
          · rintro m' g w8 ⟨j, c, hj, h63, h62, h61, h8, h10, h56, h55, h54, h0, h2, h4, hc, hdir, hx8⟩
            by_cases hjl : j < after[k].length
            · have hat := (hsu.ext hx8 (Nat.le_trans hB hx7.size)).at_ j hjl
              have hds' := List.drop_eq_getElem_cons hjl
              rw [hds', dirL] at hdir
              have hb4' := (hb4.ext hx8)
              have bad : (after[k][j] < 0 ∨ (after.length : Int) ≤ after[k][j] ∨ after[k][j] = k) → (ofS after).1 = 2 := by
                intro h
                rw [if_pos h] at hdir
                rw [← hdir] at hds
                simp only [Option.map_none] at hds
                simp [ofS, h12', hall, hds]
              generalize hxe : after[k][j] = x at *
              cases c1 : decide (x < 0)
              · cases c2 : decide ((after.length : Int) ≤ x)
                · cases c3 : x == (k : Int)
                  · have c1' := of_decide_eq_false c1
                    have c2' := of_decide_eq_false c2
                    have c3' : ¬ x = k := by simpa using c3
                    obtain ⟨y, rfl⟩ := Int.eq_ofNat_of_zero_le (Int.not_lt.mp c1')
                    have hy : y < after.length := by omega
                    have e4 := shlI_nat (k := y) (by omega)
                    have hp1 : 2 ^ y < 2 ^ after.length := Nat.pow_lt_pow_right (by decide) hy
                    have hp2 := two_pow_le hN
                    have e5 : orI .i64 (c : Int) ((2 ^ y : Nat) : Int) = ((c ||| 2 ^ y : Nat) : Int) := orI_nat (by omega) (by omega)
                    rw [if_neg (by omega)] at hdir
                    simp only [↓X, ↓Y, V, U, Z, ↓Q, Tsl, Tarr, Ttk, Tfl, Tint, Tbool, Tbld, Tze, Tzel, Tcall, ↓reduceIte, Nat.reduceEqDiff, Nat.reduceAdd, Nat.add_zero, Nat.zero_add, Int.toNat_natCast, Int.natCast_nonneg, true_and, and_true, and_self, List.nil_append, List.cons_append, U2, List.getElem?_cons_zero, List.getElem?_cons_succ, List.append_nil, List.length_map, Bool.not_true, Bool.not_false, decide_true, decide_false, eq_self, ne_eq, not_false_eq_true, Int.reduceLT, Int.reduceLE, Int.reduceNeg, nat_lt0, now w8, h63, h62, h61, Int.ofNat_lt, hjl, hsu.len_, hat, intV, natV, c1, c2, c3, h4, hb4'.cell, h8, h10, e4, e5]
                    refine ⟨m' - 1, by omega, j + 1, c ||| 2 ^ y, ?_⟩
                    (repeat' apply And.intro) <;> first | rfl | assumption | omega | rw [wrap_succ hjl hsu.max_] | exact Nat.or_lt_two_pow hc hp1
                  · simp only [↓X, ↓Y, V, U, Z, ↓Q, Tsl, Tarr, Ttk, Tfl, Tint, Tbool, Tbld, Tze, Tzel, Tcall, ↓reduceIte, Nat.reduceEqDiff, Nat.reduceAdd, Nat.add_zero, Nat.zero_add, Int.toNat_natCast, Int.natCast_nonneg, true_and, and_true, and_self, List.nil_append, List.cons_append, U2, List.getElem?_cons_zero, List.getElem?_cons_succ, List.append_nil, List.length_map, Bool.not_true, Bool.not_false, decide_true, decide_false, eq_self, ne_eq, not_false_eq_true, Int.reduceLT, Int.reduceLE, Int.reduceNeg, nat_lt0, now w8, h63, h62, h61, Int.ofNat_lt, hjl, hsu.len_, hat, intV, natV, c1, c2, c3, h4, h2, hb4'.cell, h8]
                    refine storeAgg_intro (vs := [natV after.length, vd, .slice none 0 0]) (by kernel_rfl) (hb2.ext hx8) rfl (by simp only [natV, intV, List.mem_cons, List.not_mem_nil, or_false, forall_eq_or_imp, forall_eq, one_int, one_bool, one_slice, one_ptr, and_self, hown.one]) fun w9 hb9 hc9 => ?_
                    simp only [↓X, ↓Y, V, U, Z, ↓Q, Tsl, Tarr, Ttk, Tfl, Tint, Tbool, Tbld, Tze, Tzel, Tcall, ↓reduceIte, Nat.reduceEqDiff, Nat.reduceAdd, Nat.add_zero, Nat.zero_add, Int.toNat_natCast, Int.natCast_nonneg, true_and, and_true, and_self, List.nil_append, List.cons_append, U2, List.getElem?_cons_zero, List.getElem?_cons_succ, List.append_nil, List.length_map, Bool.not_true, Bool.not_false, decide_true, decide_false, eq_self, ne_eq, not_false_eq_true, Int.reduceLT, Int.reduceLE, Int.reduceNeg, nat_lt0, now w9, hb9.cell, h2]
                    exact fin (hx7.trans hx8) hc9 hb9 (bad (by simp at c3; omega)).symm (by simp) ⟨rfl, hown.one, rfl⟩
                · simp only [↓X, ↓Y, V, U, Z, ↓Q, Tsl, Tarr, Ttk, Tfl, Tint, Tbool, Tbld, Tze, Tzel, Tcall, ↓reduceIte, Nat.reduceEqDiff, Nat.reduceAdd, Nat.add_zero, Nat.zero_add, Int.toNat_natCast, Int.natCast_nonneg, true_and, and_true, and_self, List.nil_append, List.cons_append, U2, List.getElem?_cons_zero, List.getElem?_cons_succ, List.append_nil, List.length_map, Bool.not_true, Bool.not_false, decide_true, decide_false, eq_self, ne_eq, not_false_eq_true, Int.reduceLT, Int.reduceLE, Int.reduceNeg, nat_lt0, now w8, h63, h62, h61, Int.ofNat_lt, hjl, hsu.len_, hat, intV, natV, c1, c2, h4, h2, hb4'.cell, h8]
                  refine storeAgg_intro (vs := [natV after.length, vd, .slice none 0 0]) (by kernel_rfl) (hb2.ext hx8) rfl (by simp only [natV, intV, List.mem_cons, List.not_mem_nil, or_false, forall_eq_or_imp, forall_eq, one_int, one_bool, one_slice, one_ptr, and_self, hown.one]) fun w9 hb9 hc9 => ?_
                  simp only [↓X, ↓Y, V, U, Z, ↓Q, Tsl, Tarr, Ttk, Tfl, Tint, Tbool, Tbld, Tze, Tzel, Tcall, ↓reduceIte, Nat.reduceEqDiff, Nat.reduceAdd, Nat.add_zero, Nat.zero_add, Int.toNat_natCast, Int.natCast_nonneg, true_and, and_true, and_self, List.nil_append, List.cons_append, U2, List.getElem?_cons_zero, List.getElem?_cons_succ, List.append_nil, List.length_map, Bool.not_true, Bool.not_false, decide_true, decide_false, eq_self, ne_eq, not_false_eq_true, Int.reduceLT, Int.reduceLE, Int.reduceNeg, nat_lt0, now w9, hb9.cell, h2]
                  exact fin (hx7.trans hx8) hc9 hb9 (bad (by simp at c2; omega)).symm (by simp) ⟨rfl, hown.one, rfl⟩
              · simp only [↓X, ↓Y, V, U, Z, ↓Q, Tsl, Tarr, Ttk, Tfl, Tint, Tbool, Tbld, Tze, Tzel, Tcall, ↓reduceIte, Nat.reduceEqDiff, Nat.reduceAdd, Nat.add_zero, Nat.zero_add, Int.toNat_natCast, Int.natCast_nonneg, true_and, and_true, and_self, List.nil_append, List.cons_append, U2, List.getElem?_cons_zero, List.getElem?_cons_succ, List.append_nil, List.length_map, Bool.not_true, Bool.not_false, decide_true, decide_false, eq_self, ne_eq, not_false_eq_true, Int.reduceLT, Int.reduceLE, Int.reduceNeg, nat_lt0, now w8, h63, h62, h61, Int.ofNat_lt, hjl, hsu.len_, hat, intV, natV, c1, h4, h2, hb4'.cell, h8]
                refine storeAgg_intro (vs := [natV after.length, vd, .slice none 0 0]) (by kernel_rfl) (hb2.ext hx8) rfl (by simp only [natV, intV, List.mem_cons, List.not_mem_nil, or_false, forall_eq_or_imp, forall_eq, one_int, one_bool, one_slice, one_ptr, and_self, hown.one]) fun w9 hb9 hc9 => ?_
                simp only [↓X, ↓Y, V, U, Z, ↓Q, Tsl, Tarr, Ttk, Tfl, Tint, Tbool, Tbld, Tze, Tzel, Tcall, ↓reduceIte, Nat.reduceEqDiff, Nat.reduceAdd, Nat.add_zero, Nat.zero_add, Int.toNat_natCast, Int.natCast_nonneg, true_and, and_true, and_self, List.nil_append, List.cons_append, U2, List.getElem?_cons_zero, List.getElem?_cons_succ, List.append_nil, List.length_map, Bool.not_true, Bool.not_false, decide_true, decide_false, eq_self, ne_eq, not_false_eq_true, Int.reduceLT, Int.reduceLE, Int.reduceNeg, nat_lt0, now w9, hb9.cell, h2]
                exact fin (hx7.trans hx8) hc9 hb9 (bad (by simp at c1; omega)).symm (by simp) ⟨rfl, hown.one, rfl⟩
            · rw [List.drop_eq_nil_of_le (by omega), dirL] at hdir
              rw [← hdir] at hds
              simp only [↓X, ↓Y, V, U, Z, ↓Q, Tsl, Tarr, Ttk, Tfl, Tint, Tbool, Tbld, Tze, Tzel, Tcall, ↓reduceIte, Nat.reduceEqDiff, Nat.reduceAdd, Nat.add_zero, Nat.zero_add, Int.toNat_natCast, Int.natCast_nonneg, true_and, and_true, and_self, List.nil_append, List.cons_append, U2, List.getElem?_cons_zero, List.getElem?_cons_succ, List.append_nil, List.length_map, Bool.not_true, Bool.not_false, decide_true, decide_false, eq_self, ne_eq, not_false_eq_true, Int.reduceLT, Int.reduceLE, Int.reduceNeg, nat_lt0, now w8, h63, h62, Int.ofNat_lt, hjl, h4, (hb4.ext hx8).cell, h10, idxOk, flatP, cellsL, List.length_cons, List.length_nil, Nat.reduceMul, Nat.reduceLeDiff, Nat.reduceLT]
              refine row_intro fun b9 w9 hb9 hx9 _ => ?_
              simp only [↓X, ↓Y, V, U, Z, ↓Q, Tsl, Tarr, Ttk, Tfl, Tint, Tbool, Tbld, Tze, Tzel, Tcall, ↓reduceIte, Nat.reduceEqDiff, Nat.reduceAdd, Nat.add_zero, Nat.zero_add, Int.toNat_natCast, Int.natCast_nonneg, true_and, and_true, and_self, List.nil_append, List.cons_append, U2, List.getElem?_cons_zero, List.getElem?_cons_succ, List.append_nil, List.length_map, Bool.not_true, Bool.not_false, decide_true, decide_false, eq_self, ne_eq, not_false_eq_true, Int.reduceLT, Int.reduceLE, Int.reduceNeg, nat_lt0, now w9]
              have hx79 := hx8.trans hx9
              have hx09 := hx7.trans hx79
              refine append_int (x := c) (hown.ext hx79) hb9 rfl (by simp [natC, intV, one_int]) (by omega) hx09.size fun v' w10 hown' hgr hbl hd => ?_
              have hx10 := hx09.trans' hbl
              have hne4 := (hown.ext hx79).ne (hb4.ext hx79) (by decide)
              have hne2 := (hown.ext hx79).ne (hb2.ext hx79) (by decide)
              have hb4 := grown_blk hgr (hb4.ext hx79) hne4
              have hb2 := grown_blk hgr (hb2.ext hx79) hne2
              simp only [↓X, ↓Y, V, U, Z, ↓Q, Tsl, Tarr, Ttk, Tfl, Tint, Tbool, Tbld, Tze, Tzel, Tcall, ↓reduceIte, Nat.reduceEqDiff, Nat.reduceAdd, Nat.add_zero, Nat.zero_add, Int.toNat_natCast, Int.natCast_nonneg, true_and, and_true, and_self, List.nil_append, List.cons_append, U2, List.getElem?_cons_zero, List.getElem?_cons_succ, List.append_nil, List.length_map, Bool.not_true, Bool.not_false, decide_true, decide_false, eq_self, ne_eq, not_false_eq_true, Int.reduceLT, Int.reduceLE, Int.reduceNeg, nat_lt0, now w10, h4]
              refine store_intro (i := 1) (by kernel_rfl) hb4 (by simp) hown'.one fun w11 hb11 hc11 => ?_
              have hne4' := hown'.ne hb4 (by decide)
              have hx11 := hx10.trans' (hc11.below (B := w.heap.size) (by have := hx2.size; omega) hx10.size)
              simp only [↓X, ↓Y, V, U, Z, ↓Q, Tsl, Tarr, Ttk, Tfl, Tint, Tbool, Tbld, Tze, Tzel, Tcall, ↓reduceIte, Nat.reduceEqDiff, Nat.reduceAdd, Nat.add_zero, Nat.zero_add, Int.toNat_natCast, Int.natCast_nonneg, true_and, and_true, and_self, List.nil_append, List.cons_append, U2, List.getElem?_cons_zero, List.getElem?_cons_succ, List.append_nil, List.length_map, Bool.not_true, Bool.not_false, decide_true, decide_false, eq_self, ne_eq, not_false_eq_true, Int.reduceLT, Int.reduceLE, Int.reduceNeg, nat_lt0, now w11, h56, h55, h54, h0, h2, h4]
              have hdb' : ∀ d ∈ ds ++ [c], d < 2 ^ after.length := by
                intro d hd'
                rcases List.mem_append.1 hd' with h | h
                · exact hdb d h
                · rw [List.mem_singleton.1 h]; exact hc
              refine ⟨m - 1, by omega, k + 1, ds ++ [c], v', ?_⟩
              (repeat' apply And.intro) <;> first | rfl | assumption | omega | rw [wrap_succ hlt hmax] | (simp; omega) | exact hown'.chg hc11 hne4' | exact hb11 | exact hc11.blk hb2 h24 | (rw [hds]; simp only [Option.map_map]; congr 1; funext l; simp)
        · have hkn : k = after.length := by omega
          have hdd : dirs after.length 0 after = some ds := by rw [hds, List.drop_eq_nil_of_le (by omega)]; simp [dirs]
          simp only [↓X, ↓Y, V, U, Z, ↓Q, Tsl, Tarr, Ttk, Tfl, Tint, Tbool, Tbld, Tze, Tzel, Tcall, ↓reduceIte, Nat.reduceEqDiff, Nat.reduceAdd, Nat.add_zero, Nat.zero_add, Int.toNat_natCast, Int.natCast_nonneg, true_and, and_true, and_self, List.nil_append, List.cons_append, U2, List.getElem?_cons_zero, List.getElem?_cons_succ, List.append_nil, List.length_map, Bool.not_true, Bool.not_false, decide_true, decide_false, eq_self, ne_eq, not_false_eq_true, Int.reduceLT, Int.reduceLE, Int.reduceNeg, nat_lt0, now w7, h56, h55, Int.ofNat_lt, hlt, h4, hb4.cell, natV, intV]
          refine mksl_int (by omega) fun ba w8 hba hx8 hna => ?_
          simp only [↓X, ↓Y, V, U, Z, ↓Q, Tsl, Tarr, Ttk, Tfl, Tint, Tbool, Tbld, Tze, Tzel, Tcall, ↓reduceIte, Nat.reduceEqDiff, Nat.reduceAdd, Nat.add_zero, Nat.zero_add, Int.toNat_natCast, Int.natCast_nonneg, true_and, and_true, and_self, List.nil_append, List.cons_append, U2, List.getElem?_cons_zero, List.getElem?_cons_succ, List.append_nil, List.length_map, Bool.not_true, Bool.not_false, decide_true, decide_false, eq_self, ne_eq, not_false_eq_true, Int.reduceLT, Int.reduceLE, Int.reduceNeg, nat_lt0, now w8, h4]
          refine store_intro (i := 2) (by kernel_rfl) (hb4.ext hx8) (by simp) rfl fun w9 hb9 hc9 => ?_
          have hwba : w.heap.size ≤ ba := Nat.le_trans hx7.size hna
          have hb2a : b2 < ba := Nat.lt_of_lt_of_le hb2.lt hna
          have hb4a : b4 < ba := Nat.lt_of_lt_of_le hb4.lt hna
          have hnd : blockOf vd ≠ some b2 := by rw [hown.block]; exact hown.ne hb2 (by decide)
          have hown9 := (hown.ext hx8).chg hc9 ((hown.ext hx8).ne (hb4.ext hx8) (by decide))
          have hsd : Sl w9 ba none 1 vd (ds.map natV) := hown9.sl (f := natV) fun b hb => Nat.lt_of_lt_of_le (hown.lt b hb).2 hna
          have hba := hc9.blk hba (by omega)
          have hb2 := hc9.blk (hb2.ext hx8) h24
          have hx9 : Ext w w9 := (hx7.trans hx8).trans' (hc9.below (B := w.heap.size) (by have := hx2.size; omega) (hx7.trans hx8).size)
          have hba9 : ba < w9.heap.size := hba.lt
          replace hba : Blk w9 ba 3 ((List.replicate after.length 0).map natV) := by rw [List.map_replicate]; exact hba
          have hofS : ofS after = ((kahn ds after.length 4096 0 (List.replicate after.length 0)).1, ds, (kahn ds after.length 4096 0 (List.replicate after.length 0)).2) := by simp [ofS, h12', hall, hdd]
          have hp2 := two_pow_le hN
          have hdsl : ds.length = after.length := by omega
          have hext : ∀ {w'}, Below ba w9 w' → Ext w w' := fun h => hx9.trans' (h.mono hwba)
          rw [hofS] at fin
          clear hown9 hdd hds hown hb4 hk hlt hb5 h56 h55 h54
          generalize hva : Value.slice (some ⟨ba, 0, none⟩) after.length after.length = va at *
          simp only [List.set_cons_succ, List.set_cons_zero] at hb9
          refine loopX_intro (fun m g w' => ∃ (f done : Nat) (all : List Nat), m + done = 4096 ∧ 4096 ≤ f + done ∧ done < 2 ^ after.length ∧ g 13 = .int .i64 done ∧ g 2 = .pointer (some ⟨b2, 0, none⟩) ∧ g 4 = .pointer (some ⟨b4, 0, none⟩) ∧ all.length = after.length ∧ (∀ x, all.getD x 0 < 4096) ∧
            kahn ds after.length f done all = kahn ds after.length 4096 0 (List.replicate after.length 0) ∧ Blk w' ba 3 (all.map natV) ∧ Below ba w9 w') 4096 (by kernel_rfl) ?_ ?_
          · refine ⟨4096, 0, List.replicate after.length 0, ?_⟩
            simp only [↓X, ↓Y, V, U, Z, ↓Q, Tsl, Tarr, Ttk, Tfl, Tint, Tbool, Tbld, Tze, Tzel, Tcall, ↓reduceIte, Nat.reduceEqDiff, Nat.reduceAdd, Nat.add_zero, Nat.zero_add, Int.toNat_natCast, Int.natCast_nonneg, true_and, and_true, and_self, List.nil_append, List.cons_append, U2, List.getElem?_cons_zero, List.getElem?_cons_succ, List.append_nil, List.length_map, Bool.not_true, Bool.not_false, decide_true, decide_false, eq_self, ne_eq, not_false_eq_true, Int.reduceLT, Int.reduceLE, Int.reduceNeg, nat_lt0]
            (repeat' apply And.intro) <;> first | rfl | assumption | omega | exact Nat.pow_pos (by decide) | (simp; done) | (intro x; simp only [List.getD_eq_getElem?_getD, List.getElem?_replicate]; split <;> simp) | exact Below.refl _ _
          · rintro m g w10 ⟨f, done, all, hmd, hfd, hdone, h13, h2, h4, hal, hab, hkah, hba, hbel⟩
            have hb9' := hb9.below hbel hb4a
            have hsd' := hsd.below hbel (Nat.le_refl _)
            have hsh := shlI_nat (k := after.length) (by omega)
            have hw1 : IntKind.i64.wrap (((2 ^ after.length : Nat) : Int) - 1) = ((2 ^ after.length - 1 : Nat) : Int) := by
              have := Nat.pow_pos (n := after.length) (show 0 < 2 by decide)
              rw [show ((2 ^ after.length : Nat) : Int) - 1 = ((2 ^ after.length - 1 : Nat) : Int) by omega, wrap_nat (by omega)]
            cases hz : (done : Int) != ((2 ^ after.length - 1 : Nat) : Int)
            · have hdn : done = 2 ^ after.length - 1 := by have h1 : (done : Int) = ((2 ^ after.length - 1 : Nat) : Int) := (by simpa using hz); omega
              obtain ⟨f', rfl⟩ : ∃ f', f = f' + 1 := ⟨f - 1, by omega⟩
              rw [kahn, if_pos hdn] at hkah
              simp only [↓X, ↓Y, V, U, Z, ↓Q, Tsl, Tarr, Ttk, Tfl, Tint, Tbool, Tbld, Tze, Tzel, Tcall, ↓reduceIte, Nat.reduceEqDiff, Nat.reduceAdd, Nat.add_zero, Nat.zero_add, Int.toNat_natCast, Int.natCast_nonneg, true_and, and_true, and_self, List.nil_append, List.cons_append, U2, List.getElem?_cons_zero, List.getElem?_cons_succ, List.append_nil, List.length_map, Bool.not_true, Bool.not_false, decide_true, decide_false, eq_self, ne_eq, not_false_eq_true, Int.reduceLT, Int.reduceLE, Int.reduceNeg, nat_lt0, now w10, h13, h4, hb9'.cell, natV, intV, hsh, hw1, hz, h2]
              have hva1 : va.oneCell' = true := by rw [← hva]; rfl
              have hvd1 := hsd.one
              refine storeAgg_intro (vs := [natV after.length, vd, va]) (by kernel_rfl) (hb2.below hbel hb2a) rfl (by simp only [natV, intV, List.mem_cons, List.not_mem_nil, or_false, forall_eq_or_imp, forall_eq, one_int, one_bool, one_slice, one_ptr, and_self, hva1, hvd1]) fun w11 hb11 hc11 => ?_
              simp only [↓X, ↓Y, V, U, Z, ↓Q, Tsl, Tarr, Ttk, Tfl, Tint, Tbool, Tbld, Tze, Tzel, Tcall, ↓reduceIte, Nat.reduceEqDiff, Nat.reduceAdd, Nat.add_zero, Nat.zero_add, Int.toNat_natCast, Int.natCast_nonneg, true_and, and_true, and_self, List.nil_append, List.cons_append, U2, List.getElem?_cons_zero, List.getElem?_cons_succ, List.append_nil, List.length_map, Bool.not_true, Bool.not_false, decide_true, decide_false, eq_self, ne_eq, not_false_eq_true, Int.reduceLT, Int.reduceLE, Int.reduceNeg, nat_lt0, now w11, hb11.cell, h2]
              refine fin (hext hbel) hc11 hb11 (by rw [← hkah]) (fun _ => ⟨rfl, ?_, ?_⟩) ⟨rfl, hvd1, hva1⟩
              · exact (hsd'.chg hc11 hnd (by have := hbel.size; omega)).more (by have := hbel.size; have := hc11.size; omega)
              · have hba' := hc11.blk hba (by omega)
                rw [← hkah, ← hva]
                exact row_sl hba' (by simp [hal]) (by simp; omega)
            · simp only [↓X, ↓Y, V, U, Z, ↓Q, Tsl, Tarr, Ttk, Tfl, Tint, Tbool, Tbld, Tze, Tzel, Tcall, ↓reduceIte, Nat.reduceEqDiff, Nat.reduceAdd, Nat.add_zero, Nat.zero_add, Int.toNat_natCast, Int.natCast_nonneg, true_and, and_true, and_self, List.nil_append, List.cons_append, U2, List.getElem?_cons_zero, List.getElem?_cons_succ, List.append_nil, List.length_map, Bool.not_true, Bool.not_false, decide_true, decide_false, eq_self, ne_eq, not_false_eq_true, Int.reduceLT, Int.reduceLE, Int.reduceNeg, nat_lt0, now w10, h13, h4, hb9'.cell, natV, intV, hsh, hw1, hz]
              have hdn : done ≠ 2 ^ after.length - 1 := by have h1 : ¬ (done : Int) = ((2 ^ after.length - 1 : Nat) : Int) := (by simpa using hz); omega
              have hr := rdyF_lt done ds 0
              rw [Nat.zero_add, hdsl] at hr
              have hrb := @or_rdy_gt done ds
              generalize hre : rdyF done 0 ds = r at *
              have hbad : ba ≤ w10.heap.size := by have := hbel.size; omega
              refine ret_bind' (Ext.refl w10) (hre ▸ orderReady hbad hsd' (fun d hd => Nat.lt_of_lt_of_le (hdb d hd) hp2) (by omega) (by omega)) fun w11 hx11 => ?_
              have hbel11 : Below ba w9 w11 := hbel.trans (hx11.mono hbad)
              have hb9' := hb9'.ext hx11
              have hba := hba.ext hx11
              obtain ⟨f', rfl⟩ : ∃ f', f = f' + 1 := ⟨f - 1, by omega⟩
              rw [kahn, if_neg hdn] at hkah
              simp only [hre] at hkah
              cases hz0 : (r : Int) == 0
              · have hr0 : r ≠ 0 := by simpa using hz0
                rw [if_neg hr0] at hkah
                simp only [↓X, ↓Y, V, U, Z, ↓Q, Tsl, Tarr, Ttk, Tfl, Tint, Tbool, Tbld, Tze, Tzel, Tcall, ↓reduceIte, Nat.reduceEqDiff, Nat.reduceAdd, Nat.add_zero, Nat.zero_add, Int.toNat_natCast, Int.natCast_nonneg, true_and, and_true, and_self, List.nil_append, List.cons_append, U2, List.getElem?_cons_zero, List.getElem?_cons_succ, List.append_nil, List.length_map, Bool.not_true, Bool.not_false, decide_true, decide_false, eq_self, ne_eq, not_false_eq_true, Int.reduceLT, Int.reduceLE, Int.reduceNeg, nat_lt0, now w11, natV, intV, hz0]
                refine CallsV.mono (orderList (hT.ext (hext hbel11)) (by omega)) fun vl w12 ⟨hx12, hownl⟩ => ?_
                have hbel12 : Below ba w9 w12 := hbel11.trans (hx12.mono (by have := hbel11.size; omega))
                have hbl : ba < w11.heap.size := hba.lt
                have hba := hba.ext hx12
                have hln : ∀ k ∈ lst r, k < after.length := fun k hk => mem_lst hk hr
                have hsl := hownl.sl1 (f := natV)
                simp only [↓X, ↓Y, V, U, Z, ↓Q, Tsl, Tarr, Ttk, Tfl, Tint, Tbool, Tbld, Tze, Tzel, Tcall, ↓reduceIte, Nat.reduceEqDiff, Nat.reduceAdd, Nat.add_zero, Nat.zero_add, Int.toNat_natCast, Int.natCast_nonneg, true_and, and_true, and_self, List.nil_append, List.cons_append, U2, List.getElem?_cons_zero, List.getElem?_cons_succ, List.append_nil, List.length_map, Bool.not_true, Bool.not_false, decide_true, decide_false, eq_self, ne_eq, not_false_eq_true, Int.reduceLT, Int.reduceLE, Int.reduceNeg, nat_lt0, now w12, hsl.len_]
                refine loopX_intro (fun m' g w' => ∃ (j : Nat) (all' : List Nat), j + m' = (lst r).length ∧ g 112 = .int .i64 j ∧ g 111 = .int .i64 (lst r).length ∧ g 110 = vl ∧ g 13 = .int .i64 done ∧ g 14 = .int .i64 r ∧ g 2 = .pointer (some ⟨b2, 0, none⟩) ∧ g 4 = .pointer (some ⟨b4, 0, none⟩) ∧ all'.length = after.length ∧ (∀ x, all'.getD x 0 < 4096) ∧
                  ((lst r).drop j).foldl (upd ds) all' = (lst r).foldl (upd ds) all ∧ Blk w' ba 3 (all'.map natV) ∧ Below ba w9 w' ∧ Own w' w11.heap.size 3 1 vl ((lst r).map natC)) (lst r).length (by kernel_rfl) ?_ ?_
                · refine ⟨0, all, ?_⟩
                  simp only [↓X, ↓Y, V, U, Z, ↓Q, Tsl, Tarr, Ttk, Tfl, Tint, Tbool, Tbld, Tze, Tzel, Tcall, ↓reduceIte, Nat.reduceEqDiff, Nat.reduceAdd, Nat.add_zero, Nat.zero_add, Int.toNat_natCast, Int.natCast_nonneg, true_and, and_true, and_self, List.nil_append, List.cons_append, U2, List.getElem?_cons_zero, List.getElem?_cons_succ, List.append_nil, List.length_map, Bool.not_true, Bool.not_false, decide_true, decide_false, eq_self, ne_eq, not_false_eq_true, Int.reduceLT, Int.reduceLE, Int.reduceNeg, nat_lt0]
                  (repeat' apply And.intro) <;> first | rfl | assumption | omega
                · rintro m' g w13 ⟨j, all', hj, h112, h111, h110, h13, h14, h2, h4, hal', hab', hfold, hba, hbel, hownl⟩
                  by_cases hjl : j < (lst r).length
                  · have hat := (hownl.sl1 (f := natV)).at_ j hjl
                    have hin : (lst r)[j] < after.length := hln _ (List.getElem_mem hjl)
                    rw [List.drop_eq_getElem_cons hjl, List.foldl_cons] at hfold
                    generalize hie : (lst r)[j] = i at *
                    have hb9' := hb9.below hbel hb4a
                    have hsd' := hsd.below hbel (Nat.le_refl _)
                    have hdat := hsd'.at_ i (by omega)
                    have hvf : SlWf va ∧ isSl va ∧ lenN va = after.length := by rw [← hva]; exact ⟨trivial, trivial, rfl⟩
                    have hvi : ∀ i, elemAt va 1 i = .pointer (some ⟨ba, i, none⟩) := fun i => by rw [← hva]; simp only [elemAt, Nat.mul_one, add_none, Nat.zero_add]
                    have hids : i < ds.length := by omega
                    have hgd : ds.getD i 0 = ds[i] := by simp [List.getD_eq_getElem?_getD, List.getElem?_eq_getElem hids]
                    have hdi : ds[i] < 2 ^ after.length := hdb _ (List.getElem_mem hids)
                    simp only [↓X, ↓Y, V, U, Z, ↓Q, Tsl, Tarr, Ttk, Tfl, Tint, Tbool, Tbld, Tze, Tzel, Tcall, ↓reduceIte, Nat.reduceEqDiff, Nat.reduceAdd, Nat.add_zero, Nat.zero_add, Int.toNat_natCast, Int.natCast_nonneg, true_and, and_true, and_self, List.nil_append, List.cons_append, U2, List.getElem?_cons_zero, List.getElem?_cons_succ, List.append_nil, List.length_map, Bool.not_true, Bool.not_false, decide_true, decide_false, eq_self, ne_eq, not_false_eq_true, Int.reduceLT, Int.reduceLE, Int.reduceNeg, nat_lt0, now w13, h112, h111, h110, Int.ofNat_lt, hjl, hsl.len_, hat, natV, intV]
                    refine wpd_tail 9 (by kernel_rfl) (by kernel_rfl) (by kernel_rfl) ?_
                    simp only [↓X, ↓Y, V, U, Z, ↓Q, Tsl, Tarr, Ttk, Tfl, Tint, Tbool, Tbld, Tze, Tzel, Tcall, ↓reduceIte, Nat.reduceEqDiff, Nat.reduceAdd, Nat.add_zero, Nat.zero_add, Int.toNat_natCast, Int.natCast_nonneg, true_and, and_true, and_self, List.nil_append, List.cons_append, U2, List.getElem?_cons_zero, List.getElem?_cons_succ, List.append_nil, List.length_map, Bool.not_true, Bool.not_false, decide_true, decide_false, eq_self, ne_eq, not_false_eq_true, Int.reduceLT, Int.reduceLE, Int.reduceNeg, nat_lt0, now w13, h4, hb9'.cell, hvf, hvi, hsd.len_, Int.ofNat_lt, hin, hids, hdat, natV, intV]
                    intro w14 hx14 _
                    simp only [↓X, ↓Y, V, U, Z, ↓Q, Tsl, Tarr, Ttk, Tfl, Tint, Tbool, Tbld, Tze, Tzel, Tcall, ↓reduceIte, Nat.reduceEqDiff, Nat.reduceAdd, Nat.add_zero, Nat.zero_add, Int.toNat_natCast, Int.natCast_nonneg, true_and, and_true, and_self, List.nil_append, List.cons_append, U2, List.getElem?_cons_zero, List.getElem?_cons_succ, List.append_nil, List.length_map, Bool.not_true, Bool.not_false, decide_true, decide_false, eq_self, ne_eq, not_false_eq_true, Int.reduceLT, Int.reduceLE, Int.reduceNeg, nat_lt0, now w14]
                    refine store_intro (i := i) (by kernel_rfl) (hba.ext hx14) (by simp [hal']; omega) rfl fun w15 hb15 hc15 => ?_
                    have hbel15 : Below ba w9 w15 := (hbel.trans (hx14.mono (by have := hbel.size; omega))).trans (hc15.below (Nat.le_refl _) (by have := hbel.size; have := hx14.size; omega))
                    have hnl : vl.ownBlock ≠ some ba := fun he => by have := (hownl.lt _ he).1; omega
                    have hown15 := (hownl.ext hx14).chg hc15 hnl
                    have hb9' := hb9.below hbel15 hb4a
                    have hsd' := hsd.below hbel15 (Nat.le_refl _)
                    have hdat := hsd'.at_ i (by omega)
                    have hba15 : Blk w15 ba 3 ((all'.set i ds[i]).map natV) := by rw [List.map_set]; exact hb15
                    have hab15 : ∀ x, (all'.set i ds[i]).getD x 0 < 4096 := getD_set_lt hab' (by omega)
                    have hal15 : (all'.set i ds[i]).length = after.length := by simp [hal']
                    unfold upd at hfold
                    rw [hgd] at hfold
                    clear hbel hba hownl hab' hc15 hb15
                    simp only [↓X, ↓Y, V, U, Z, ↓Q, Tsl, Tarr, Ttk, Tfl, Tint, Tbool, Tbld, Tze, Tzel, Tcall, ↓reduceIte, Nat.reduceEqDiff, Nat.reduceAdd, Nat.add_zero, Nat.zero_add, Int.toNat_natCast, Int.natCast_nonneg, true_and, and_true, and_self, List.nil_append, List.cons_append, U2, List.getElem?_cons_zero, List.getElem?_cons_succ, List.append_nil, List.length_map, Bool.not_true, Bool.not_false, decide_true, decide_false, eq_self, ne_eq, not_false_eq_true, Int.reduceLT, Int.reduceLE, Int.reduceNeg, nat_lt0, now w15, h4, hb9'.cell, hsd.len_, Int.ofNat_lt, hids, hdat, natV, intV]
                    refine CallsV.mono (orderList (hT.ext (hext hbel15)) (by omega)) fun vk w16 ⟨hx16, hownk⟩ => ?_
                    have hba16 := hba15.ext hx16
                    have hown16 := hown15.ext hx16
                    have hbel16 : Below ba w9 w16 := hbel15.trans (hx16.mono (by have := hbel15.size; omega))
                    have hb15l := hba15.lt
                    have hkn : ∀ k ∈ lst ds[i], k < after.length := fun k hk => mem_lst hk hdi
                    have hsk := hownk.sl1 (f := natV)
                    simp only [↓X, ↓Y, V, U, Z, ↓Q, Tsl, Tarr, Ttk, Tfl, Tint, Tbool, Tbld, Tze, Tzel, Tcall, ↓reduceIte, Nat.reduceEqDiff, Nat.reduceAdd, Nat.add_zero, Nat.zero_add, Int.toNat_natCast, Int.natCast_nonneg, true_and, and_true, and_self, List.nil_append, List.cons_append, U2, List.getElem?_cons_zero, List.getElem?_cons_succ, List.append_nil, List.length_map, Bool.not_true, Bool.not_false, decide_true, decide_false, eq_self, ne_eq, not_false_eq_true, Int.reduceLT, Int.reduceLE, Int.reduceNeg, nat_lt0, now w16, hsk.len_]
                    refine loopX_intro (fun m'' g w' => ∃ (q : Nat) (cur : List Nat), q + m'' = (lst ds[i]).length ∧ g 132 = .int .i64 q ∧ g 131 = .int .i64 (lst ds[i]).length ∧ g 130 = vk ∧ g 16 = .int .i64 i ∧ g 112 = .int .i64 j ∧ g 111 = .int .i64 (lst r).length ∧ g 110 = vl ∧ g 13 = .int .i64 done ∧ g 14 = .int .i64 r ∧ g 2 = .pointer (some ⟨b2, 0, none⟩) ∧ g 4 = .pointer (some ⟨b4, 0, none⟩) ∧ cur.length = after.length ∧ (∀ x, cur.getD x 0 < 4096) ∧
                      ((lst ds[i]).drop q).foldl (fun all k => all.set i (all.getD i 0 ||| all.getD k 0)) cur = (lst ds[i]).foldl (fun all k => all.set i (all.getD i 0 ||| all.getD k 0)) (all'.set i ds[i]) ∧ Blk w' ba 3 (cur.map natV) ∧ Below ba w9 w' ∧ Own w' w11.heap.size 3 1 vl ((lst r).map natC) ∧ Own w' w15.heap.size 3 1 vk ((lst ds[i]).map natC)) (lst ds[i]).length (by kernel_rfl) ?_ ?_
                    · refine ⟨0, all'.set i ds[i], ?_⟩
                      simp only [↓X, ↓Y, V, U, Z, ↓Q, Tsl, Tarr, Ttk, Tfl, Tint, Tbool, Tbld, Tze, Tzel, Tcall, ↓reduceIte, Nat.reduceEqDiff, Nat.reduceAdd, Nat.add_zero, Nat.zero_add, Int.toNat_natCast, Int.natCast_nonneg, true_and, and_true, and_self, List.nil_append, List.cons_append, U2, List.getElem?_cons_zero, List.getElem?_cons_succ, List.append_nil, List.length_map, Bool.not_true, Bool.not_false, decide_true, decide_false, eq_self, ne_eq, not_false_eq_true, Int.reduceLT, Int.reduceLE, Int.reduceNeg, nat_lt0]
                      (repeat' apply And.intro) <;> first | rfl | assumption | omega
                    · rintro m'' g w17 ⟨q, cur, hq, h132, h131, h130, h16, h112, h111, h110, h13, h14, h2, h4, hcl, hcb, hf2, hba, hbel, hownl, hownk⟩
                      by_cases hql : q < (lst ds[i]).length
                      · have hat := (hownk.sl1 (f := natV)).at_ q hql
                        have hkin : (lst ds[i])[q] < after.length := hkn _ (List.getElem_mem hql)
                        rw [List.drop_eq_getElem_cons hql, List.foldl_cons] at hf2
                        generalize hke : (lst ds[i])[q] = k at *
                        have hb9' := hb9.below hbel hb4a
                        simp only [↓X, ↓Y, V, U, Z, ↓Q, Tsl, Tarr, Ttk, Tfl, Tint, Tbool, Tbld, Tze, Tzel, Tcall, ↓reduceIte, Nat.reduceEqDiff, Nat.reduceAdd, Nat.add_zero, Nat.zero_add, Int.toNat_natCast, Int.natCast_nonneg, true_and, and_true, and_self, List.nil_append, List.cons_append, U2, List.getElem?_cons_zero, List.getElem?_cons_succ, List.append_nil, List.length_map, Bool.not_true, Bool.not_false, decide_true, decide_false, eq_self, ne_eq, not_false_eq_true, Int.reduceLT, Int.reduceLE, Int.reduceNeg, nat_lt0, now w17, h132, h131, h130, Int.ofNat_lt, hql, hsk.len_, hat, natV, intV]
                        have hci := getD_map_natV (l := cur) (i := i) (by omega)
                        have hck := getD_map_natV (l := cur) (i := k) (by omega)
                        have hor : orI .i64 ((cur.getD i 0 : Nat) : Int) ((cur.getD k 0 : Nat) : Int) = ((cur.getD i 0 ||| cur.getD k 0 : Nat) : Int) := orI_nat (by have := hcb i; omega) (by have := hcb k; omega)
                        have hv4 : cur.getD i 0 ||| cur.getD k 0 < 4096 := Nat.or_lt_two_pow (n := 12) (hcb i) (hcb k)
                        refine wpd_tail 12 (by kernel_rfl) (by kernel_rfl) (by kernel_rfl) ?_
                        simp only [↓X, ↓Y, V, U, Z, ↓Q, Tsl, Tarr, Ttk, Tfl, Tint, Tbool, Tbld, Tze, Tzel, Tcall, ↓reduceIte, Nat.reduceEqDiff, Nat.reduceAdd, Nat.add_zero, Nat.zero_add, Int.toNat_natCast, Int.natCast_nonneg, true_and, and_true, and_self, List.nil_append, List.cons_append, U2, List.getElem?_cons_zero, List.getElem?_cons_succ, List.append_nil, List.length_map, Bool.not_true, Bool.not_false, decide_true, decide_false, eq_self, ne_eq, not_false_eq_true, Int.reduceLT, Int.reduceLE, Int.reduceNeg, nat_lt0, now w17, h4, h16, hb9'.cell, hvf, hvi, Int.ofNat_lt, hin, hkin, hba.cell, hci, hck, hor, natV, intV]
                        intro w18 hx18 _
                        simp only [↓X, ↓Y, V, U, Z, ↓Q, Tsl, Tarr, Ttk, Tfl, Tint, Tbool, Tbld, Tze, Tzel, Tcall, ↓reduceIte, Nat.reduceEqDiff, Nat.reduceAdd, Nat.add_zero, Nat.zero_add, Int.toNat_natCast, Int.natCast_nonneg, true_and, and_true, and_self, List.nil_append, List.cons_append, U2, List.getElem?_cons_zero, List.getElem?_cons_succ, List.append_nil, List.length_map, Bool.not_true, Bool.not_false, decide_true, decide_false, eq_self, ne_eq, not_false_eq_true, Int.reduceLT, Int.reduceLE, Int.reduceNeg, nat_lt0, now w18]
                        refine store_intro (i := i) (by kernel_rfl) (hba.ext hx18) (by simp [hcl]; omega) rfl fun w19 hb19 hc19 => ?_
                        have hbel19 : Below ba w9 w19 := (hbel.trans (hx18.mono (by have := hbel.size; omega))).trans (hc19.below (Nat.le_refl _) (by have := hbel.size; have := hx18.size; omega))
                        have hnl : vl.ownBlock ≠ some ba := fun he => by have := (hownl.lt _ he).1; omega
                        have hnk : vk.ownBlock ≠ some ba := fun he => by have := (hownk.lt _ he).1; omega
                        have hb19' : Blk w19 ba 3 ((cur.set i (cur.getD i 0 ||| cur.getD k 0)).map natV) := by rw [List.map_set]; exact hb19
                        simp only [↓X, ↓Y, V, U, Z, ↓Q, Tsl, Tarr, Ttk, Tfl, Tint, Tbool, Tbld, Tze, Tzel, Tcall, ↓reduceIte, Nat.reduceEqDiff, Nat.reduceAdd, Nat.add_zero, Nat.zero_add, Int.toNat_natCast, Int.natCast_nonneg, true_and, and_true, and_self, List.nil_append, List.cons_append, U2, List.getElem?_cons_zero, List.getElem?_cons_succ, List.append_nil, List.length_map, Bool.not_true, Bool.not_false, decide_true, decide_false, eq_self, ne_eq, not_false_eq_true, Int.reduceLT, Int.reduceLE, Int.reduceNeg, nat_lt0, now w19, h132, h131, h130, h16, h112, h111, h110, h13, h14, h2, h4]
                        refine ⟨m'' - 1, by omega, q + 1, cur.set i (cur.getD i 0 ||| cur.getD k 0), ?_⟩
                        (repeat' apply And.intro) <;> first | rfl | assumption | omega | rw [wrap_succ hql (by have := lst_len (x := ds[i]) (by omega); omega)] | (simp [hcl]; done) | exact getD_set_lt hcb hv4 | exact (hownl.ext hx18).chg hc19 hnl | exact (hownk.ext hx18).chg hc19 hnk
                      · simp only [↓X, ↓Y, V, U, Z, ↓Q, Tsl, Tarr, Ttk, Tfl, Tint, Tbool, Tbld, Tze, Tzel, Tcall, ↓reduceIte, Nat.reduceEqDiff, Nat.reduceAdd, Nat.add_zero, Nat.zero_add, Int.toNat_natCast, Int.natCast_nonneg, true_and, and_true, and_self, List.nil_append, List.cons_append, U2, List.getElem?_cons_zero, List.getElem?_cons_succ, List.append_nil, List.length_map, Bool.not_true, Bool.not_false, decide_true, decide_false, eq_self, ne_eq, not_false_eq_true, Int.reduceLT, Int.reduceLE, Int.reduceNeg, nat_lt0, now w17, h132, h131, h112, Int.ofNat_lt, hql]
                        rw [List.drop_eq_nil_of_le (by omega), List.foldl_nil] at hf2
                        rw [← hf2] at hfold
                        refine ⟨m' - 1, by omega, j + 1, cur, ?_⟩
                        (repeat' apply And.intro) <;> first | rfl | assumption | omega | rw [wrap_succ hjl (by have := lst_len (x := r) (by omega); omega)]
                  · simp only [↓X, ↓Y, V, U, Z, ↓Q, Tsl, Tarr, Ttk, Tfl, Tint, Tbool, Tbld, Tze, Tzel, Tcall, ↓reduceIte, Nat.reduceEqDiff, Nat.reduceAdd, Nat.add_zero, Nat.zero_add, Int.toNat_natCast, Int.natCast_nonneg, true_and, and_true, and_self, List.nil_append, List.cons_append, U2, List.getElem?_cons_zero, List.getElem?_cons_succ, List.append_nil, List.length_map, Bool.not_true, Bool.not_false, decide_true, decide_false, eq_self, ne_eq, not_false_eq_true, Int.reduceLT, Int.reduceLE, Int.reduceNeg, nat_lt0, now w13, h112, h111, h13, h14, Int.ofNat_lt, hjl]
                    rw [List.drop_eq_nil_of_le (by omega), List.foldl_nil] at hfold
                    rw [← hfold] at hkah
                    have hgt := hrb hr0
                    have hlt' : done ||| r < 2 ^ after.length := Nat.or_lt_two_pow hdone hr
                    refine ⟨4096 - (done ||| r), by omega, f', done ||| r, all', ?_⟩
                    (repeat' apply And.intro) <;> first | rfl | assumption | omega | rw [orI_nat (by omega) (by omega)]
              · have hr0 : r = 0 := by simpa using hz0
                rw [if_pos hr0] at hkah
                simp only [↓X, ↓Y, V, U, Z, ↓Q, Tsl, Tarr, Ttk, Tfl, Tint, Tbool, Tbld, Tze, Tzel, Tcall, ↓reduceIte, Nat.reduceEqDiff, Nat.reduceAdd, Nat.add_zero, Nat.zero_add, Int.toNat_natCast, Int.natCast_nonneg, true_and, and_true, and_self, List.nil_append, List.cons_append, U2, List.getElem?_cons_zero, List.getElem?_cons_succ, List.append_nil, List.length_map, Bool.not_true, Bool.not_false, decide_true, decide_false, eq_self, ne_eq, not_false_eq_true, Int.reduceLT, Int.reduceLE, Int.reduceNeg, nat_lt0, now w11, natV, intV, hz0, h4, h2, hb9'.cell]
                have hva1 : va.oneCell' = true := by rw [← hva]; rfl
                have hvd1 := hsd.one
                refine storeAgg_intro (vs := [natV after.length, vd, va]) (by kernel_rfl) (hb2.below hbel11 hb2a) rfl (by simp only [natV, intV, List.mem_cons, List.not_mem_nil, or_false, forall_eq_or_imp, forall_eq, one_int, one_bool, one_slice, one_ptr, and_self, hva1, hvd1]) fun w12 hb12 hc12 => ?_
                simp only [↓X, ↓Y, V, U, Z, ↓Q, Tsl, Tarr, Ttk, Tfl, Tint, Tbool, Tbld, Tze, Tzel, Tcall, ↓reduceIte, Nat.reduceEqDiff, Nat.reduceAdd, Nat.add_zero, Nat.zero_add, Int.toNat_natCast, Int.natCast_nonneg, true_and, and_true, and_self, List.nil_append, List.cons_append, U2, List.getElem?_cons_zero, List.getElem?_cons_succ, List.append_nil, List.length_map, Bool.not_true, Bool.not_false, decide_true, decide_false, eq_self, ne_eq, not_false_eq_true, Int.reduceLT, Int.reduceLE, Int.reduceNeg, nat_lt0, now w12, hb12.cell, h2]
                exact fin (hext hbel11) hc12 hb12 (by rw [← hkah]) (fun h => absurd h (by decide)) ⟨rfl, hvd1, hva1⟩
end Go.Proofs.YtgickfllblmhpaaDoor
