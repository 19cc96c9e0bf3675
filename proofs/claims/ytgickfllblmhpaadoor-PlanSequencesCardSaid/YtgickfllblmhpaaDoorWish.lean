/- The layer world: ValidWish. -/
import Derived.Test.YtgickfllblmhpaaDoorSite
namespace Go.Proofs.YtgickfllblmhpaaDoor
set_option linter.unusedSimpArgs false
set_option linter.unusedVariables false
open Go
set_option maxRecDepth 100000
set_option linter.unusedSectionVars false
theorem worldBetween {w : World} {a b c : Int} : Ret Tryd.prog 47 #[intV a, intV b, intV c] w (.bool (btw a b c)) := by
  refine callsV_of Tryd.func47 rfl (by kernel_rfl) (by kernel_rfl) ?_
  rw [Tryd.results47]
  unfold intV
  cases h : decide (b ≤ a) <;> simp only [↓X, ↓Y, V, U, Z, ↓Q, Tsl, Tarr, Ttk, Tfl, Tint, Tbool, Tbld, Tze, Tzel, Tcall, ↓reduceIte, Nat.reduceEqDiff, Nat.reduceAdd, Nat.add_zero, Nat.zero_add, Int.toNat_natCast, Int.natCast_nonneg, true_and, and_true, and_self, List.nil_append, List.cons_append, U2, List.getElem?_cons_zero, List.getElem?_cons_succ, List.append_nil, List.length_map, Bool.not_true, Bool.not_false, decide_true, decide_false, eq_self, ne_eq, not_false_eq_true, Int.reduceLT, Int.reduceLE, Int.reduceNeg, nat_lt0, now w, h] <;> exact ⟨by simp [btw, h], Ext.refl w⟩
structure SrvV where
  x : ServiceD
  a : Value
  n : Value
def srvC (u : SrvV) : List Value := [intV u.x.cores, intV u.x.replicas, intV u.x.least, .int .u8 u.x.domain, intV u.x.spread, u.a, u.n, intV u.x.firmware]
def srvV (u : SrvV) : Value := .agg (srvC u).toArray
structure WishR (w : World) (B : Nat) (v : Value) (l : List SrvV) : Prop where
  v : Sl w B (some 8) 8 v (l.map srvV)
  a : ∀ u ∈ l, Sl w B none 1 u.a (u.x.apart.map intV)
  n : ∀ u ∈ l, Sl w B (some 2) 2 u.n (u.x.near.map nearV)
theorem WishR.ext {w w' : World} {B : Nat} {v : Value} {l : List SrvV} (h : WishR w B v l) (hx : Ext w w') (hB : B ≤ w.heap.size) : WishR w' B v l :=
  ⟨h.v.ext hx hB, fun u hu => (h.a u hu).ext hx hB, fun u hu => (h.n u hu).ext hx hB⟩
theorem worldSpread {w : World} {u : SrvV} : Ret Tryd.prog 48 #[srvV u] w (.bool (spreadB u.x)) := by
  refine callsV_of Tryd.func48 rfl (by kernel_rfl) (by kernel_rfl) ?_
  rw [Tryd.results48]
  simp only [↓X, ↓Y, V, U, Z, ↓Q, Tsl, Tarr, Ttk, Tfl, Tint, Tbool, Tbld, Tze, Tzel, Tcall, ↓reduceIte, Nat.reduceEqDiff, Nat.reduceAdd, Nat.add_zero, Nat.zero_add, Int.toNat_natCast, Int.natCast_nonneg, true_and, and_true, and_self, List.nil_append, List.cons_append, U2, List.getElem?_cons_zero, List.getElem?_cons_succ, List.append_nil, List.length_map, Bool.not_true, Bool.not_false, decide_true, decide_false, eq_self, ne_eq, not_false_eq_true, Int.reduceLT, Int.reduceLE, Int.reduceNeg, nat_lt0, now w, srvV, srvC, intV]
  refine alloc_intro fun b1 w1 hb1 hx1 _ => ?_
  simp only [↓X, ↓Y, V, U, Z, ↓Q, Tsl, Tarr, Ttk, Tfl, Tint, Tbool, Tbld, Tze, Tzel, Tcall, ↓reduceIte, Nat.reduceEqDiff, Nat.reduceAdd, Nat.add_zero, Nat.zero_add, Int.toNat_natCast, Int.natCast_nonneg, true_and, and_true, and_self, List.nil_append, List.cons_append, U2, List.getElem?_cons_zero, List.getElem?_cons_succ, List.append_nil, List.length_map, Bool.not_true, Bool.not_false, decide_true, decide_false, eq_self, ne_eq, not_false_eq_true, Int.reduceLT, Int.reduceLE, Int.reduceNeg, nat_lt0, now w1, hb1.cell]
  cases h : u.x.domain == 0
  · simp only [↓X, ↓Y, V, U, Z, ↓Q, Tsl, Tarr, Ttk, Tfl, Tint, Tbool, Tbld, Tze, Tzel, Tcall, ↓reduceIte, Nat.reduceEqDiff, Nat.reduceAdd, Nat.add_zero, Nat.zero_add, Int.toNat_natCast, Int.natCast_nonneg, true_and, and_true, and_self, List.nil_append, List.cons_append, U2, List.getElem?_cons_zero, List.getElem?_cons_succ, List.append_nil, List.length_map, Bool.not_true, Bool.not_false, decide_true, decide_false, eq_self, ne_eq, not_false_eq_true, Int.reduceLT, Int.reduceLE, Int.reduceNeg, nat_lt0, now w1, h, hb1.cell]
    rw [beq_eq_false_iff_ne] at h
    cases h2 : decide (u.x.domain ≤ 5)
    · simp only [↓X, ↓Y, V, U, Z, ↓Q, Tsl, Tarr, Ttk, Tfl, Tint, Tbool, Tbld, Tze, Tzel, Tcall, ↓reduceIte, Nat.reduceEqDiff, Nat.reduceAdd, Nat.add_zero, Nat.zero_add, Int.toNat_natCast, Int.natCast_nonneg, true_and, and_true, and_self, List.nil_append, List.cons_append, U2, List.getElem?_cons_zero, List.getElem?_cons_succ, List.append_nil, List.length_map, Bool.not_true, Bool.not_false, decide_true, decide_false, eq_self, ne_eq, not_false_eq_true, Int.reduceLT, Int.reduceLE, Int.reduceNeg, nat_lt0, now w1, h2, hb1.cell]
      exact ⟨by simp [spreadB, h, h2], hx1⟩
    simp only [↓X, ↓Y, V, U, Z, ↓Q, Tsl, Tarr, Ttk, Tfl, Tint, Tbool, Tbld, Tze, Tzel, Tcall, ↓reduceIte, Nat.reduceEqDiff, Nat.reduceAdd, Nat.add_zero, Nat.zero_add, Int.toNat_natCast, Int.natCast_nonneg, true_and, and_true, and_self, List.nil_append, List.cons_append, U2, List.getElem?_cons_zero, List.getElem?_cons_succ, List.append_nil, List.length_map, Bool.not_true, Bool.not_false, decide_true, decide_false, eq_self, ne_eq, not_false_eq_true, Int.reduceLT, Int.reduceLE, Int.reduceNeg, nat_lt0, now w1, h2, hb1.cell]
    refine ret_bind' hx1 worldBetween fun w3 hx3 => ?_
    simp only [↓X, ↓Y, V, U, Z, ↓Q, Tsl, Tarr, Ttk, Tfl, Tint, Tbool, Tbld, Tze, Tzel, Tcall, ↓reduceIte, Nat.reduceEqDiff, Nat.reduceAdd, Nat.add_zero, Nat.zero_add, Int.toNat_natCast, Int.natCast_nonneg, true_and, and_true, and_self, List.nil_append, List.cons_append, U2, List.getElem?_cons_zero, List.getElem?_cons_succ, List.append_nil, List.length_map, Bool.not_true, Bool.not_false, decide_true, decide_false, eq_self, ne_eq, not_false_eq_true, Int.reduceLT, Int.reduceLE, Int.reduceNeg, nat_lt0, now w3]
    exact ⟨by simp [spreadB, h, h2], hx3⟩
  · simp only [↓X, ↓Y, V, U, Z, ↓Q, Tsl, Tarr, Ttk, Tfl, Tint, Tbool, Tbld, Tze, Tzel, Tcall, ↓reduceIte, Nat.reduceEqDiff, Nat.reduceAdd, Nat.add_zero, Nat.zero_add, Int.toNat_natCast, Int.natCast_nonneg, true_and, and_true, and_self, List.nil_append, List.cons_append, U2, List.getElem?_cons_zero, List.getElem?_cons_succ, List.append_nil, List.length_map, Bool.not_true, Bool.not_false, decide_true, decide_false, eq_self, ne_eq, not_false_eq_true, Int.reduceLT, Int.reduceLE, Int.reduceNeg, nat_lt0, now w1, h, hb1.cell]
    rw [beq_iff_eq] at h
    exact ⟨by simp [spreadB, h], hx1⟩
theorem ascending_int {α : Type} {w : World} {B : Nat} {v : Value} {l : List α} {enc : α → Value} {cl : Nat} {caps : List Value} {q : α → Int} {bound but : Int} (hB : B ≤ w.heap.size) (hs : Sl w B none 1 v (l.map enc)) (hc : callable Tryd.prog cl = true)
    (hf : ∀ x ∈ l, ∀ w', Ext w w' → Ret Tryd.prog cl (enc x :: caps).toArray w' (intV (q x))) : Ret Tryd.prog 49 #[v, .func (.func cl) #[] caps.toArray, intV bound, intV but] w (.bool (ascB bound but (-1) (l.map q))) := by
  refine callsV_of Tryd.func49 rfl (by kernel_rfl) (by kernel_rfl) ?_
  rw [Tryd.results49]
  simp only [↓X, ↓Y, V, U, Z, ↓Q, Tsl, Tarr, Ttk, Tfl, Tint, Tbool, Tbld, Tze, Tzel, Tcall, ↓reduceIte, Nat.reduceEqDiff, Nat.reduceAdd, Nat.add_zero, Nat.zero_add, Int.toNat_natCast, Int.natCast_nonneg, true_and, and_true, and_self, List.nil_append, List.cons_append, U2, List.getElem?_cons_zero, List.getElem?_cons_succ, List.append_nil, List.length_map, Bool.not_true, Bool.not_false, decide_true, decide_false, eq_self, ne_eq, not_false_eq_true, Int.reduceLT, Int.reduceLE, Int.reduceNeg, nat_lt0, now w, hs.len_, intV]
  refine loopX_intro (fun m g w' => ∃ (k : Nat) (c : Int), k + m = l.length ∧ g 15 = .int .i64 k ∧ g 14 = .int .i64 l.length ∧ g 13 = v ∧ g 1 = .func (.func cl) #[] caps.toArray ∧ g 2 = .int .i64 bound ∧ g 3 = .int .i64 but ∧ g 9 = .int .i64 c ∧ ascB bound but c ((l.drop k).map q) = ascB bound but (-1) (l.map q) ∧ Ext w w') l.length (by kernel_rfl) ?_ ?_
  · refine ⟨0, -1, by omega, ?_⟩
    simp only [↓X, ↓Y, V, U, Z, ↓Q, Tsl, Tarr, Ttk, Tfl, Tint, Tbool, Tbld, Tze, Tzel, Tcall, ↓reduceIte, Nat.reduceEqDiff, Nat.reduceAdd, Nat.add_zero, Nat.zero_add, Int.toNat_natCast, Int.natCast_nonneg, true_and, and_true, and_self, List.nil_append, List.cons_append, U2, List.getElem?_cons_zero, List.getElem?_cons_succ, List.append_nil, List.length_map, Bool.not_true, Bool.not_false, decide_true, decide_false, eq_self, ne_eq, not_false_eq_true, Int.reduceLT, Int.reduceLE, Int.reduceNeg, nat_lt0]
    (repeat' apply And.intro) <;> first | rfl | assumption | exact Ext.refl w
  · rintro m g w1 ⟨k, c, hk, h15, h14, h13, h1, h2, h3, h9, hm, hx⟩
    by_cases hlt : k < l.length
    · simp only [↓X, ↓Y, V, U, Z, ↓Q, Tsl, Tarr, Ttk, Tfl, Tint, Tbool, Tbld, Tze, Tzel, Tcall, ↓reduceIte, Nat.reduceEqDiff, Nat.reduceAdd, Nat.add_zero, Nat.zero_add, Int.toNat_natCast, Int.natCast_nonneg, true_and, and_true, and_self, List.nil_append, List.cons_append, U2, List.getElem?_cons_zero, List.getElem?_cons_succ, List.append_nil, List.length_map, Bool.not_true, Bool.not_false, decide_true, decide_false, eq_self, ne_eq, not_false_eq_true, Int.reduceLT, Int.reduceLE, Int.reduceNeg, nat_lt0, now w1, h15, h14, h13, h1, h2, h3, h9, Int.ofNat_lt, hlt, hs.len_, (hs.ext hx hB).at_ k hlt, hc]
      refine ret_bind (hf _ (List.getElem_mem hlt) w1 hx) fun w2 hx2 => ?_
      rw [List.drop_eq_getElem_cons hlt, List.map_cons, ascB] at hm
      unfold intV
      simp only [↓X, ↓Y, V, U, Z, ↓Q, Tsl, Tarr, Ttk, Tfl, Tint, Tbool, Tbld, Tze, Tzel, Tcall, ↓reduceIte, Nat.reduceEqDiff, Nat.reduceAdd, Nat.add_zero, Nat.zero_add, Int.toNat_natCast, Int.natCast_nonneg, true_and, and_true, and_self, List.nil_append, List.cons_append, U2, List.getElem?_cons_zero, List.getElem?_cons_succ, List.append_nil, List.length_map, Bool.not_true, Bool.not_false, decide_true, decide_false, eq_self, ne_eq, not_false_eq_true, Int.reduceLT, Int.reduceLE, Int.reduceNeg, nat_lt0, now w2, h15, h14, h13, h1, h2, h3, h9]
      cases c1 : decide (q l[k] ≤ c)
      · cases c2 : decide (bound ≤ q l[k])
        · cases c3 : q l[k] == but
          · simp only [↓X, ↓Y, V, U, Z, ↓Q, Tsl, Tarr, Ttk, Tfl, Tint, Tbool, Tbld, Tze, Tzel, Tcall, ↓reduceIte, Nat.reduceEqDiff, Nat.reduceAdd, Nat.add_zero, Nat.zero_add, Int.toNat_natCast, Int.natCast_nonneg, true_and, and_true, and_self, List.nil_append, List.cons_append, U2, List.getElem?_cons_zero, List.getElem?_cons_succ, List.append_nil, List.length_map, Bool.not_true, Bool.not_false, decide_true, decide_false, eq_self, ne_eq, not_false_eq_true, Int.reduceLT, Int.reduceLE, Int.reduceNeg, nat_lt0, now w2, h15, h14, h13, h1, h2, h3, h9, c1, c2, c3]
            simp at c1 c2
            refine ⟨m - 1, by omega, k + 1, q l[k], ?_⟩
            (repeat' apply And.intro) <;> first | rfl | assumption | omega | exact hx.trans hx2 | rw [wrap_succ hlt hs.max_] | (rw [← hm, c3]; simp [c1, c2])
          · simp only [↓X, ↓Y, V, U, Z, ↓Q, Tsl, Tarr, Ttk, Tfl, Tint, Tbool, Tbld, Tze, Tzel, Tcall, ↓reduceIte, Nat.reduceEqDiff, Nat.reduceAdd, Nat.add_zero, Nat.zero_add, Int.toNat_natCast, Int.natCast_nonneg, true_and, and_true, and_self, List.nil_append, List.cons_append, U2, List.getElem?_cons_zero, List.getElem?_cons_succ, List.append_nil, List.length_map, Bool.not_true, Bool.not_false, decide_true, decide_false, eq_self, ne_eq, not_false_eq_true, Int.reduceLT, Int.reduceLE, Int.reduceNeg, nat_lt0, now w2, h15, h14, h13, h1, h2, h3, h9, c1, c2, c3]
            exact ⟨by rw [← hm, c3]; simp, hx.trans hx2⟩
        · simp only [↓X, ↓Y, V, U, Z, ↓Q, Tsl, Tarr, Ttk, Tfl, Tint, Tbool, Tbld, Tze, Tzel, Tcall, ↓reduceIte, Nat.reduceEqDiff, Nat.reduceAdd, Nat.add_zero, Nat.zero_add, Int.toNat_natCast, Int.natCast_nonneg, true_and, and_true, and_self, List.nil_append, List.cons_append, U2, List.getElem?_cons_zero, List.getElem?_cons_succ, List.append_nil, List.length_map, Bool.not_true, Bool.not_false, decide_true, decide_false, eq_self, ne_eq, not_false_eq_true, Int.reduceLT, Int.reduceLE, Int.reduceNeg, nat_lt0, now w2, h15, h14, h13, h1, h2, h3, h9, c1, c2]
          simp at c2
          exact ⟨by rw [← hm]; simp [Int.not_lt.mpr c2], hx.trans hx2⟩
      · simp only [↓X, ↓Y, V, U, Z, ↓Q, Tsl, Tarr, Ttk, Tfl, Tint, Tbool, Tbld, Tze, Tzel, Tcall, ↓reduceIte, Nat.reduceEqDiff, Nat.reduceAdd, Nat.add_zero, Nat.zero_add, Int.toNat_natCast, Int.natCast_nonneg, true_and, and_true, and_self, List.nil_append, List.cons_append, U2, List.getElem?_cons_zero, List.getElem?_cons_succ, List.append_nil, List.length_map, Bool.not_true, Bool.not_false, decide_true, decide_false, eq_self, ne_eq, not_false_eq_true, Int.reduceLT, Int.reduceLE, Int.reduceNeg, nat_lt0, now w2, h15, h14, h13, h1, h2, h3, h9, c1]
        simp at c1
        exact ⟨by rw [← hm]; simp [Int.not_lt.mpr c1], hx.trans hx2⟩
    · simp only [↓X, ↓Y, V, U, Z, ↓Q, Tsl, Tarr, Ttk, Tfl, Tint, Tbool, Tbld, Tze, Tzel, Tcall, ↓reduceIte, Nat.reduceEqDiff, Nat.reduceAdd, Nat.add_zero, Nat.zero_add, Int.toNat_natCast, Int.natCast_nonneg, true_and, and_true, and_self, List.nil_append, List.cons_append, U2, List.getElem?_cons_zero, List.getElem?_cons_succ, List.append_nil, List.length_map, Bool.not_true, Bool.not_false, decide_true, decide_false, eq_self, ne_eq, not_false_eq_true, Int.reduceLT, Int.reduceLE, Int.reduceNeg, nat_lt0, now w1, h15, h14, Int.ofNat_lt, hlt]
      rw [List.drop_eq_nil_of_le (by omega)] at hm
      exact ⟨by rw [← hm]; rfl, hx⟩
theorem ascending_Near {w : World} {B : Nat} {v : Value} {l : List NearD} {cl : Nat} {caps : List Value} {q : NearD → Int} {bound but : Int} (hB : B ≤ w.heap.size) (hs : Sl w B (some 2) 2 v (l.map nearV)) (hc : callable Tryd.prog cl = true)
    (hf : ∀ x ∈ l, ∀ w', Ext w w' → Ret Tryd.prog cl (nearV x :: caps).toArray w' (intV (q x))) : Ret Tryd.prog 51 #[v, .func (.func cl) #[] caps.toArray, intV bound, intV but] w (.bool (ascB bound but (-1) (l.map q))) := by
  refine callsV_of Tryd.func51 rfl (by kernel_rfl) (by kernel_rfl) ?_
  rw [Tryd.results51]
  simp only [↓X, ↓Y, V, U, Z, ↓Q, Tsl, Tarr, Ttk, Tfl, Tint, Tbool, Tbld, Tze, Tzel, Tcall, ↓reduceIte, Nat.reduceEqDiff, Nat.reduceAdd, Nat.add_zero, Nat.zero_add, Int.toNat_natCast, Int.natCast_nonneg, true_and, and_true, and_self, List.nil_append, List.cons_append, U2, List.getElem?_cons_zero, List.getElem?_cons_succ, List.append_nil, List.length_map, Bool.not_true, Bool.not_false, decide_true, decide_false, eq_self, ne_eq, not_false_eq_true, Int.reduceLT, Int.reduceLE, Int.reduceNeg, nat_lt0, now w, hs.len_, intV]
  refine loopX_intro (fun m g w' => ∃ (k : Nat) (c : Int), k + m = l.length ∧ g 15 = .int .i64 k ∧ g 14 = .int .i64 l.length ∧ g 13 = v ∧ g 1 = .func (.func cl) #[] caps.toArray ∧ g 2 = .int .i64 bound ∧ g 3 = .int .i64 but ∧ g 9 = .int .i64 c ∧ ascB bound but c ((l.drop k).map q) = ascB bound but (-1) (l.map q) ∧ Ext w w') l.length (by kernel_rfl) ?_ ?_
  · refine ⟨0, -1, by omega, ?_⟩
    simp only [↓X, ↓Y, V, U, Z, ↓Q, Tsl, Tarr, Ttk, Tfl, Tint, Tbool, Tbld, Tze, Tzel, Tcall, ↓reduceIte, Nat.reduceEqDiff, Nat.reduceAdd, Nat.add_zero, Nat.zero_add, Int.toNat_natCast, Int.natCast_nonneg, true_and, and_true, and_self, List.nil_append, List.cons_append, U2, List.getElem?_cons_zero, List.getElem?_cons_succ, List.append_nil, List.length_map, Bool.not_true, Bool.not_false, decide_true, decide_false, eq_self, ne_eq, not_false_eq_true, Int.reduceLT, Int.reduceLE, Int.reduceNeg, nat_lt0]
    (repeat' apply And.intro) <;> first | rfl | assumption | exact Ext.refl w
  · rintro m g w1 ⟨k, c, hk, h15, h14, h13, h1, h2, h3, h9, hm, hx⟩
    by_cases hlt : k < l.length
    · simp only [↓X, ↓Y, V, U, Z, ↓Q, Tsl, Tarr, Ttk, Tfl, Tint, Tbool, Tbld, Tze, Tzel, Tcall, ↓reduceIte, Nat.reduceEqDiff, Nat.reduceAdd, Nat.add_zero, Nat.zero_add, Int.toNat_natCast, Int.natCast_nonneg, true_and, and_true, and_self, List.nil_append, List.cons_append, U2, List.getElem?_cons_zero, List.getElem?_cons_succ, List.append_nil, List.length_map, Bool.not_true, Bool.not_false, decide_true, decide_false, eq_self, ne_eq, not_false_eq_true, Int.reduceLT, Int.reduceLE, Int.reduceNeg, nat_lt0, now w1, h15, h14, h13, h1, h2, h3, h9, Int.ofNat_lt, hlt, hs.len_, (hs.ext hx hB).at_ k hlt, hc]
      refine alloc_intro fun b2 w2 hb2 hx2 _ => ?_
      simp only [↓X, ↓Y, V, U, Z, ↓Q, Tsl, Tarr, Ttk, Tfl, Tint, Tbool, Tbld, Tze, Tzel, Tcall, ↓reduceIte, Nat.reduceEqDiff, Nat.reduceAdd, Nat.add_zero, Nat.zero_add, Int.toNat_natCast, Int.natCast_nonneg, true_and, and_true, and_self, List.nil_append, List.cons_append, U2, List.getElem?_cons_zero, List.getElem?_cons_succ, List.append_nil, List.length_map, Bool.not_true, Bool.not_false, decide_true, decide_false, eq_self, ne_eq, not_false_eq_true, Int.reduceLT, Int.reduceLE, Int.reduceNeg, nat_lt0, now w2, (hs.ext (hx.trans hx2) hB).at_ k hlt]
      refine storeAgg_intro (vs := [intV l[k].service, intV l[k].latency]) (by kernel_rfl) hb2 rfl (by simp [intV, Value.oneCell']) fun w3 hb3 hc3 => ?_
      have hx3 : Ext w1 w3 := ext_below hx2 (hc3.below (B := w1.heap.size) ‹_› hx2.size) (Nat.le_refl _)
      simp only [↓X, ↓Y, V, U, Z, ↓Q, Tsl, Tarr, Ttk, Tfl, Tint, Tbool, Tbld, Tze, Tzel, Tcall, ↓reduceIte, Nat.reduceEqDiff, Nat.reduceAdd, Nat.add_zero, Nat.zero_add, Int.toNat_natCast, Int.natCast_nonneg, true_and, and_true, and_self, List.nil_append, List.cons_append, U2, List.getElem?_cons_zero, List.getElem?_cons_succ, List.append_nil, List.length_map, Bool.not_true, Bool.not_false, decide_true, decide_false, eq_self, ne_eq, not_false_eq_true, Int.reduceLT, Int.reduceLE, Int.reduceNeg, nat_lt0, now w3, hb3.cell, h1, hc]
      refine ret_bind' hx3 (hf _ (List.getElem_mem hlt) w3 (hx.trans hx3)) fun w2 hx2 => ?_
      rw [List.drop_eq_getElem_cons hlt, List.map_cons, ascB] at hm
      unfold intV
      simp only [↓X, ↓Y, V, U, Z, ↓Q, Tsl, Tarr, Ttk, Tfl, Tint, Tbool, Tbld, Tze, Tzel, Tcall, ↓reduceIte, Nat.reduceEqDiff, Nat.reduceAdd, Nat.add_zero, Nat.zero_add, Int.toNat_natCast, Int.natCast_nonneg, true_and, and_true, and_self, List.nil_append, List.cons_append, U2, List.getElem?_cons_zero, List.getElem?_cons_succ, List.append_nil, List.length_map, Bool.not_true, Bool.not_false, decide_true, decide_false, eq_self, ne_eq, not_false_eq_true, Int.reduceLT, Int.reduceLE, Int.reduceNeg, nat_lt0, now w2, h15, h14, h13, h1, h2, h3, h9]
      cases c1 : decide (q l[k] ≤ c)
      · cases c2 : decide (bound ≤ q l[k])
        · cases c3 : q l[k] == but
          · simp only [↓X, ↓Y, V, U, Z, ↓Q, Tsl, Tarr, Ttk, Tfl, Tint, Tbool, Tbld, Tze, Tzel, Tcall, ↓reduceIte, Nat.reduceEqDiff, Nat.reduceAdd, Nat.add_zero, Nat.zero_add, Int.toNat_natCast, Int.natCast_nonneg, true_and, and_true, and_self, List.nil_append, List.cons_append, U2, List.getElem?_cons_zero, List.getElem?_cons_succ, List.append_nil, List.length_map, Bool.not_true, Bool.not_false, decide_true, decide_false, eq_self, ne_eq, not_false_eq_true, Int.reduceLT, Int.reduceLE, Int.reduceNeg, nat_lt0, now w2, h15, h14, h13, h1, h2, h3, h9, c1, c2, c3]
            simp at c1 c2
            refine ⟨m - 1, by omega, k + 1, q l[k], ?_⟩
            (repeat' apply And.intro) <;> first | rfl | assumption | omega | exact hx.trans hx2 | rw [wrap_succ hlt hs.max_] | (rw [← hm, c3]; simp [c1, c2])
          · simp only [↓X, ↓Y, V, U, Z, ↓Q, Tsl, Tarr, Ttk, Tfl, Tint, Tbool, Tbld, Tze, Tzel, Tcall, ↓reduceIte, Nat.reduceEqDiff, Nat.reduceAdd, Nat.add_zero, Nat.zero_add, Int.toNat_natCast, Int.natCast_nonneg, true_and, and_true, and_self, List.nil_append, List.cons_append, U2, List.getElem?_cons_zero, List.getElem?_cons_succ, List.append_nil, List.length_map, Bool.not_true, Bool.not_false, decide_true, decide_false, eq_self, ne_eq, not_false_eq_true, Int.reduceLT, Int.reduceLE, Int.reduceNeg, nat_lt0, now w2, h15, h14, h13, h1, h2, h3, h9, c1, c2, c3]
            exact ⟨by rw [← hm, c3]; simp, hx.trans hx2⟩
        · simp only [↓X, ↓Y, V, U, Z, ↓Q, Tsl, Tarr, Ttk, Tfl, Tint, Tbool, Tbld, Tze, Tzel, Tcall, ↓reduceIte, Nat.reduceEqDiff, Nat.reduceAdd, Nat.add_zero, Nat.zero_add, Int.toNat_natCast, Int.natCast_nonneg, true_and, and_true, and_self, List.nil_append, List.cons_append, U2, List.getElem?_cons_zero, List.getElem?_cons_succ, List.append_nil, List.length_map, Bool.not_true, Bool.not_false, decide_true, decide_false, eq_self, ne_eq, not_false_eq_true, Int.reduceLT, Int.reduceLE, Int.reduceNeg, nat_lt0, now w2, h15, h14, h13, h1, h2, h3, h9, c1, c2]
          simp at c2
          exact ⟨by rw [← hm]; simp [Int.not_lt.mpr c2], hx.trans hx2⟩
      · simp only [↓X, ↓Y, V, U, Z, ↓Q, Tsl, Tarr, Ttk, Tfl, Tint, Tbool, Tbld, Tze, Tzel, Tcall, ↓reduceIte, Nat.reduceEqDiff, Nat.reduceAdd, Nat.add_zero, Nat.zero_add, Int.toNat_natCast, Int.natCast_nonneg, true_and, and_true, and_self, List.nil_append, List.cons_append, U2, List.getElem?_cons_zero, List.getElem?_cons_succ, List.append_nil, List.length_map, Bool.not_true, Bool.not_false, decide_true, decide_false, eq_self, ne_eq, not_false_eq_true, Int.reduceLT, Int.reduceLE, Int.reduceNeg, nat_lt0, now w2, h15, h14, h13, h1, h2, h3, h9, c1]
        simp at c1
        exact ⟨by rw [← hm]; simp [Int.not_lt.mpr c1], hx.trans hx2⟩
    · simp only [↓X, ↓Y, V, U, Z, ↓Q, Tsl, Tarr, Ttk, Tfl, Tint, Tbool, Tbld, Tze, Tzel, Tcall, ↓reduceIte, Nat.reduceEqDiff, Nat.reduceAdd, Nat.add_zero, Nat.zero_add, Int.toNat_natCast, Int.natCast_nonneg, true_and, and_true, and_self, List.nil_append, List.cons_append, U2, List.getElem?_cons_zero, List.getElem?_cons_succ, List.append_nil, List.length_map, Bool.not_true, Bool.not_false, decide_true, decide_false, eq_self, ne_eq, not_false_eq_true, Int.reduceLT, Int.reduceLE, Int.reduceNeg, nat_lt0, now w1, h15, h14, Int.ofNat_lt, hlt]
      rw [List.drop_eq_nil_of_le (by omega)] at hm
      exact ⟨by rw [← hm]; rfl, hx⟩
theorem ascending_id {w : World} {B : Nat} {v : Value} {l : List Int} {cl : Nat} {caps : List Value} {bound but : Int} (hB : B ≤ w.heap.size) (hs : Sl w B none 1 v (l.map intV)) (hc : callable Tryd.prog cl = true)
    (hf : ∀ x ∈ l, ∀ w', Ext w w' → Ret Tryd.prog cl (intV x :: caps).toArray w' (intV x)) : Ret Tryd.prog 49 #[v, .func (.func cl) #[] caps.toArray, intV bound, intV but] w (.bool (ascB bound but (-1) l)) := by
  have := ascending_int (q := id) hB hs hc hf (bound := bound) (but := but)
  rwa [List.map_id] at this
theorem worldValidWish1 {w : World} {a : Int} : Ret Tryd.prog 50 #[intV a] w (intV a) := by
  refine callsV_of Tryd.func50 rfl (by kernel_rfl) (by kernel_rfl) ?_
  rw [Tryd.results50]
  simp only [↓X, ↓Y, V, U, Z, ↓Q, Tsl, Tarr, Ttk, Tfl, Tint, Tbool, Tbld, Tze, Tzel, Tcall, ↓reduceIte, Nat.reduceEqDiff, Nat.reduceAdd, Nat.add_zero, Nat.zero_add, Int.toNat_natCast, Int.natCast_nonneg, true_and, and_true, and_self, List.nil_append, List.cons_append, U2, List.getElem?_cons_zero, List.getElem?_cons_succ, List.append_nil, List.length_map, Bool.not_true, Bool.not_false, decide_true, decide_false, eq_self, ne_eq, not_false_eq_true, Int.reduceLT, Int.reduceLE, Int.reduceNeg, nat_lt0, now w]
  (repeat' apply And.intro) <;> first | rfl | assumption | exact Ext.refl w
theorem worldValidWish2 {w : World} {x : NearD} : Ret Tryd.prog 52 #[nearV x] w (intV x.service) := by
  refine callsV_of Tryd.func52 rfl (by kernel_rfl) (by kernel_rfl) ?_
  rw [Tryd.results52]
  simp only [↓X, ↓Y, V, U, Z, ↓Q, Tsl, Tarr, Ttk, Tfl, Tint, Tbool, Tbld, Tze, Tzel, Tcall, ↓reduceIte, Nat.reduceEqDiff, Nat.reduceAdd, Nat.add_zero, Nat.zero_add, Int.toNat_natCast, Int.natCast_nonneg, true_and, and_true, and_self, List.nil_append, List.cons_append, U2, List.getElem?_cons_zero, List.getElem?_cons_succ, List.append_nil, List.length_map, Bool.not_true, Bool.not_false, decide_true, decide_false, eq_self, ne_eq, not_false_eq_true, Int.reduceLT, Int.reduceLE, Int.reduceNeg, nat_lt0, now w, nearV]
  refine alloc_intro fun b1 w1 hb1 hx1 _ => ?_
  simp only [↓X, ↓Y, V, U, Z, ↓Q, Tsl, Tarr, Ttk, Tfl, Tint, Tbool, Tbld, Tze, Tzel, Tcall, ↓reduceIte, Nat.reduceEqDiff, Nat.reduceAdd, Nat.add_zero, Nat.zero_add, Int.toNat_natCast, Int.natCast_nonneg, true_and, and_true, and_self, List.nil_append, List.cons_append, U2, List.getElem?_cons_zero, List.getElem?_cons_succ, List.append_nil, List.length_map, Bool.not_true, Bool.not_false, decide_true, decide_false, eq_self, ne_eq, not_false_eq_true, Int.reduceLT, Int.reduceLE, Int.reduceNeg, nat_lt0, now w1, hb1.cell]
  (repeat' apply And.intro) <;> first | rfl | assumption
theorem worldValidWish3 {w : World} {x : NearD} : Ret Tryd.prog 54 #[nearV x] w (.bool (!btw x.latency 0 1000000)) := by
  refine callsV_of Tryd.func54 rfl (by kernel_rfl) (by kernel_rfl) ?_
  rw [Tryd.results54]
  simp only [↓X, ↓Y, V, U, Z, ↓Q, Tsl, Tarr, Ttk, Tfl, Tint, Tbool, Tbld, Tze, Tzel, Tcall, ↓reduceIte, Nat.reduceEqDiff, Nat.reduceAdd, Nat.add_zero, Nat.zero_add, Int.toNat_natCast, Int.natCast_nonneg, true_and, and_true, and_self, List.nil_append, List.cons_append, U2, List.getElem?_cons_zero, List.getElem?_cons_succ, List.append_nil, List.length_map, Bool.not_true, Bool.not_false, decide_true, decide_false, eq_self, ne_eq, not_false_eq_true, Int.reduceLT, Int.reduceLE, Int.reduceNeg, nat_lt0, now w, nearV, intV]
  refine alloc_intro fun b1 w1 hb1 hx1 _ => ?_
  simp only [↓X, ↓Y, V, U, Z, ↓Q, Tsl, Tarr, Ttk, Tfl, Tint, Tbool, Tbld, Tze, Tzel, Tcall, ↓reduceIte, Nat.reduceEqDiff, Nat.reduceAdd, Nat.add_zero, Nat.zero_add, Int.toNat_natCast, Int.natCast_nonneg, true_and, and_true, and_self, List.nil_append, List.cons_append, U2, List.getElem?_cons_zero, List.getElem?_cons_succ, List.append_nil, List.length_map, Bool.not_true, Bool.not_false, decide_true, decide_false, eq_self, ne_eq, not_false_eq_true, Int.reduceLT, Int.reduceLE, Int.reduceNeg, nat_lt0, now w1, hb1.cell]
  refine ret_bind' hx1 worldBetween fun w2 hx2 => ?_
  simp only [↓X, ↓Y, V, U, Z, ↓Q, Tsl, Tarr, Ttk, Tfl, Tint, Tbool, Tbld, Tze, Tzel, Tcall, ↓reduceIte, Nat.reduceEqDiff, Nat.reduceAdd, Nat.add_zero, Nat.zero_add, Int.toNat_natCast, Int.natCast_nonneg, true_and, and_true, and_self, List.nil_append, List.cons_append, U2, List.getElem?_cons_zero, List.getElem?_cons_succ, List.append_nil, List.length_map, Bool.not_true, Bool.not_false, decide_true, decide_false, eq_self, ne_eq, not_false_eq_true, Int.reduceLT, Int.reduceLE, Int.reduceNeg, nat_lt0, now w2]
  (repeat' apply And.intro) <;> first | rfl | assumption
theorem worldValidWish {w : World} {B : Nat} {v : Value} {l : List SrvV} (hB : B ≤ w.heap.size) (hs : WishR w B v l) : Ret Tryd.prog 26 #[.agg #[v]] w (.bool (wishB (l.map (·.x)))) := by
  refine callsV_of Tryd.func26 rfl (by kernel_rfl) (by kernel_rfl) ?_
  rw [Tryd.results26]
  simp only [↓X, ↓Y, V, U, Z, ↓Q, Tsl, Tarr, Ttk, Tfl, Tint, Tbool, Tbld, Tze, Tzel, Tcall, ↓reduceIte, Nat.reduceEqDiff, Nat.reduceAdd, Nat.add_zero, Nat.zero_add, Int.toNat_natCast, Int.natCast_nonneg, true_and, and_true, and_self, List.nil_append, List.cons_append, U2, List.getElem?_cons_zero, List.getElem?_cons_succ, List.append_nil, List.length_map, Bool.not_true, Bool.not_false, decide_true, decide_false, eq_self, ne_eq, not_false_eq_true, Int.reduceLT, Int.reduceLE, Int.reduceNeg, nat_lt0, now w]
  refine alloc_intro fun b1 w1 hb1 hx1 _ => ?_
  simp only [↓X, ↓Y, V, U, Z, ↓Q, Tsl, Tarr, Ttk, Tfl, Tint, Tbool, Tbld, Tze, Tzel, Tcall, ↓reduceIte, Nat.reduceEqDiff, Nat.reduceAdd, Nat.add_zero, Nat.zero_add, Int.toNat_natCast, Int.natCast_nonneg, true_and, and_true, and_self, List.nil_append, List.cons_append, U2, List.getElem?_cons_zero, List.getElem?_cons_succ, List.append_nil, List.length_map, Bool.not_true, Bool.not_false, decide_true, decide_false, eq_self, ne_eq, not_false_eq_true, Int.reduceLT, Int.reduceLE, Int.reduceNeg, nat_lt0, now w1, hb1.cell, hs.v.len_]
  cases h8 : decide (8 < (l.length : Int))
  · simp only [↓X, ↓Y, V, U, Z, ↓Q, Tsl, Tarr, Ttk, Tfl, Tint, Tbool, Tbld, Tze, Tzel, Tcall, ↓reduceIte, Nat.reduceEqDiff, Nat.reduceAdd, Nat.add_zero, Nat.zero_add, Int.toNat_natCast, Int.natCast_nonneg, true_and, and_true, and_self, List.nil_append, List.cons_append, U2, List.getElem?_cons_zero, List.getElem?_cons_succ, List.append_nil, List.length_map, Bool.not_true, Bool.not_false, decide_true, decide_false, eq_self, ne_eq, not_false_eq_true, Int.reduceLT, Int.reduceLE, Int.reduceNeg, nat_lt0, now w1, h8, hb1.cell, hs.v.len_]
    simp at h8
    refine loopX_intro (fun m g w' => ∃ (k : Nat) (c : Int), k + m = l.length ∧ g 15 = .int .i64 k ∧ g 14 = .int .i64 l.length ∧ g 13 = v ∧ g 3 = .int .i64 l.length ∧ g 4 = .int .i64 c ∧ srvsB l.length k ((l.drop k).map (·.x)) = srvsB l.length 0 (l.map (·.x)) ∧
      c + sumR ((l.drop k).map (·.x)) = sumR (l.map (·.x)) ∧ 0 ≤ c ∧ c ≤ 24 * k ∧ Ext w w') l.length (by kernel_rfl) ?_ ?_
    · refine ⟨0, 0, by omega, ?_⟩
      simp only [↓X, ↓Y, V, U, Z, ↓Q, Tsl, Tarr, Ttk, Tfl, Tint, Tbool, Tbld, Tze, Tzel, Tcall, ↓reduceIte, Nat.reduceEqDiff, Nat.reduceAdd, Nat.add_zero, Nat.zero_add, Int.toNat_natCast, Int.natCast_nonneg, true_and, and_true, and_self, List.nil_append, List.cons_append, U2, List.getElem?_cons_zero, List.getElem?_cons_succ, List.append_nil, List.length_map, Bool.not_true, Bool.not_false, decide_true, decide_false, eq_self, ne_eq, not_false_eq_true, Int.reduceLT, Int.reduceLE, Int.reduceNeg, nat_lt0]
      (repeat' apply And.intro) <;> first | rfl | assumption | omega | simp
    · rintro m g w2 ⟨k, c, hk, h15, h14, h13, h3, h4, hm, hsum, hc0, hc1, hx⟩
      by_cases hlt : k < l.length
      · simp only [↓X, ↓Y, V, U, Z, ↓Q, Tsl, Tarr, Ttk, Tfl, Tint, Tbool, Tbld, Tze, Tzel, Tcall, ↓reduceIte, Nat.reduceEqDiff, Nat.reduceAdd, Nat.add_zero, Nat.zero_add, Int.toNat_natCast, Int.natCast_nonneg, true_and, and_true, and_self, List.nil_append, List.cons_append, U2, List.getElem?_cons_zero, List.getElem?_cons_succ, List.append_nil, List.length_map, Bool.not_true, Bool.not_false, decide_true, decide_false, eq_self, ne_eq, not_false_eq_true, Int.reduceLT, Int.reduceLE, Int.reduceNeg, nat_lt0, now w2, h15, h14, h13, h3, h4, Int.ofNat_lt, hlt, hs.v.len_, (hs.v.ext hx hB).at_ k hlt]
        refine alloc_intro fun b3 w3 hb3 hx3 _ => ?_
        simp only [↓X, ↓Y, V, U, Z, ↓Q, Tsl, Tarr, Ttk, Tfl, Tint, Tbool, Tbld, Tze, Tzel, Tcall, ↓reduceIte, Nat.reduceEqDiff, Nat.reduceAdd, Nat.add_zero, Nat.zero_add, Int.toNat_natCast, Int.natCast_nonneg, true_and, and_true, and_self, List.nil_append, List.cons_append, U2, List.getElem?_cons_zero, List.getElem?_cons_succ, List.append_nil, List.length_map, Bool.not_true, Bool.not_false, decide_true, decide_false, eq_self, ne_eq, not_false_eq_true, Int.reduceLT, Int.reduceLE, Int.reduceNeg, nat_lt0, now w3, (hs.v.ext (hx.trans hx3) hB).at_ k hlt]
        refine storeAgg_intro (vs := srvC l[k]) (by kernel_rfl) hb3 rfl (by simp only [srvC, intV, List.mem_cons, List.not_mem_nil, or_false, forall_eq_or_imp, forall_eq, one_int, (hs.a _ (List.getElem_mem hlt)).one, (hs.n _ (List.getElem_mem hlt)).one, and_self]) fun w4 hb4 hc4 => ?_
        have hx4 : Ext w w4 := hx.trans (ext_below hx3 (hc4.below (B := w2.heap.size) ‹_› hx3.size) (Nat.le_refl _))
        rw [List.drop_eq_getElem_cons hlt, List.map_cons, srvsB] at hm
        rw [List.drop_eq_getElem_cons hlt, List.map_cons, sumR] at hsum
        have hf : serviceB l.length k l[k].x = false → srvsB l.length 0 (l.map (·.x)) = false := fun h => by rw [← hm, h, Bool.false_and]
        have wf : srvsB l.length 0 (l.map (·.x)) = false → wishB (l.map (·.x)) = false := fun h => by simp [wishB, h]
        have hmem := List.getElem_mem hlt
        have hB4 : B ≤ w4.heap.size := Nat.le_trans hB hx4.size
        have hs4 := hs.ext hx4 hB
        simp only [↓X, ↓Y, V, U, Z, ↓Q, Tsl, Tarr, Ttk, Tfl, Tint, Tbool, Tbld, Tze, Tzel, Tcall, ↓reduceIte, Nat.reduceEqDiff, Nat.reduceAdd, Nat.add_zero, Nat.zero_add, Int.toNat_natCast, Int.natCast_nonneg, true_and, and_true, and_self, List.nil_append, List.cons_append, U2, List.getElem?_cons_zero, List.getElem?_cons_succ, List.append_nil, List.length_map, Bool.not_true, Bool.not_false, decide_true, decide_false, eq_self, ne_eq, not_false_eq_true, Int.reduceLT, Int.reduceLE, Int.reduceNeg, nat_lt0, now w4, hb4.cell, srvC, intV]
        refine ret_bind' (Ext.refl w4) (worldBetween) fun w5 hx5 => ?_
        cases c1 : btw l[k].x.cores 1 1000
        · simp only [↓X, ↓Y, V, U, Z, ↓Q, Tsl, Tarr, Ttk, Tfl, Tint, Tbool, Tbld, Tze, Tzel, Tcall, ↓reduceIte, Nat.reduceEqDiff, Nat.reduceAdd, Nat.add_zero, Nat.zero_add, Int.toNat_natCast, Int.natCast_nonneg, true_and, and_true, and_self, List.nil_append, List.cons_append, U2, List.getElem?_cons_zero, List.getElem?_cons_succ, List.append_nil, List.length_map, Bool.not_true, Bool.not_false, decide_true, decide_false, eq_self, ne_eq, not_false_eq_true, Int.reduceLT, Int.reduceLE, Int.reduceNeg, nat_lt0, now w5, c1, (hb4.ext hx5).cell, srvC, intV]
          exact ⟨by rw [wf (hf (by simp [serviceB, c1]))], hx4.trans hx5⟩
        simp only [↓X, ↓Y, V, U, Z, ↓Q, Tsl, Tarr, Ttk, Tfl, Tint, Tbool, Tbld, Tze, Tzel, Tcall, ↓reduceIte, Nat.reduceEqDiff, Nat.reduceAdd, Nat.add_zero, Nat.zero_add, Int.toNat_natCast, Int.natCast_nonneg, true_and, and_true, and_self, List.nil_append, List.cons_append, U2, List.getElem?_cons_zero, List.getElem?_cons_succ, List.append_nil, List.length_map, Bool.not_true, Bool.not_false, decide_true, decide_false, eq_self, ne_eq, not_false_eq_true, Int.reduceLT, Int.reduceLE, Int.reduceNeg, nat_lt0, now w5, c1, (hb4.ext hx5).cell, srvC, intV]
        refine ret_bind' hx5 (worldBetween) fun w6 hx6 => ?_
        cases c2 : btw l[k].x.replicas 0 24
        · simp only [↓X, ↓Y, V, U, Z, ↓Q, Tsl, Tarr, Ttk, Tfl, Tint, Tbool, Tbld, Tze, Tzel, Tcall, ↓reduceIte, Nat.reduceEqDiff, Nat.reduceAdd, Nat.add_zero, Nat.zero_add, Int.toNat_natCast, Int.natCast_nonneg, true_and, and_true, and_self, List.nil_append, List.cons_append, U2, List.getElem?_cons_zero, List.getElem?_cons_succ, List.append_nil, List.length_map, Bool.not_true, Bool.not_false, decide_true, decide_false, eq_self, ne_eq, not_false_eq_true, Int.reduceLT, Int.reduceLE, Int.reduceNeg, nat_lt0, now w6, c2, (hb4.ext hx6).cell, srvC, intV]
          exact ⟨by rw [wf (hf (by simp [serviceB, c2]))], hx4.trans hx6⟩
        simp only [↓X, ↓Y, V, U, Z, ↓Q, Tsl, Tarr, Ttk, Tfl, Tint, Tbool, Tbld, Tze, Tzel, Tcall, ↓reduceIte, Nat.reduceEqDiff, Nat.reduceAdd, Nat.add_zero, Nat.zero_add, Int.toNat_natCast, Int.natCast_nonneg, true_and, and_true, and_self, List.nil_append, List.cons_append, U2, List.getElem?_cons_zero, List.getElem?_cons_succ, List.append_nil, List.length_map, Bool.not_true, Bool.not_false, decide_true, decide_false, eq_self, ne_eq, not_false_eq_true, Int.reduceLT, Int.reduceLE, Int.reduceNeg, nat_lt0, now w6, c2, (hb4.ext hx6).cell, srvC, intV]
        refine ret_bind' hx6 (worldBetween) fun w7 hx7 => ?_
        cases c3 : btw l[k].x.least 0 l[k].x.replicas
        · simp only [↓X, ↓Y, V, U, Z, ↓Q, Tsl, Tarr, Ttk, Tfl, Tint, Tbool, Tbld, Tze, Tzel, Tcall, ↓reduceIte, Nat.reduceEqDiff, Nat.reduceAdd, Nat.add_zero, Nat.zero_add, Int.toNat_natCast, Int.natCast_nonneg, true_and, and_true, and_self, List.nil_append, List.cons_append, U2, List.getElem?_cons_zero, List.getElem?_cons_succ, List.append_nil, List.length_map, Bool.not_true, Bool.not_false, decide_true, decide_false, eq_self, ne_eq, not_false_eq_true, Int.reduceLT, Int.reduceLE, Int.reduceNeg, nat_lt0, now w7, c3, (hb4.ext hx7).cell, srvC, intV]
          exact ⟨by rw [wf (hf (by simp [serviceB, c3]))], hx4.trans hx7⟩
        simp only [↓X, ↓Y, V, U, Z, ↓Q, Tsl, Tarr, Ttk, Tfl, Tint, Tbool, Tbld, Tze, Tzel, Tcall, ↓reduceIte, Nat.reduceEqDiff, Nat.reduceAdd, Nat.add_zero, Nat.zero_add, Int.toNat_natCast, Int.natCast_nonneg, true_and, and_true, and_self, List.nil_append, List.cons_append, U2, List.getElem?_cons_zero, List.getElem?_cons_succ, List.append_nil, List.length_map, Bool.not_true, Bool.not_false, decide_true, decide_false, eq_self, ne_eq, not_false_eq_true, Int.reduceLT, Int.reduceLE, Int.reduceNeg, nat_lt0, now w7, c3, (hb4.ext hx7).cell, srvC, intV]
        refine ret_bind' hx7 (worldBetween) fun w8 hx8 => ?_
        cases c4 : btw l[k].x.firmware 0 1000000
        · simp only [↓X, ↓Y, V, U, Z, ↓Q, Tsl, Tarr, Ttk, Tfl, Tint, Tbool, Tbld, Tze, Tzel, Tcall, ↓reduceIte, Nat.reduceEqDiff, Nat.reduceAdd, Nat.add_zero, Nat.zero_add, Int.toNat_natCast, Int.natCast_nonneg, true_and, and_true, and_self, List.nil_append, List.cons_append, U2, List.getElem?_cons_zero, List.getElem?_cons_succ, List.append_nil, List.length_map, Bool.not_true, Bool.not_false, decide_true, decide_false, eq_self, ne_eq, not_false_eq_true, Int.reduceLT, Int.reduceLE, Int.reduceNeg, nat_lt0, now w8, c4, (hb4.ext hx8).cell, srvC, intV]
          exact ⟨by rw [wf (hf (by simp [serviceB, c4]))], hx4.trans hx8⟩
        simp only [↓X, ↓Y, V, U, Z, ↓Q, Tsl, Tarr, Ttk, Tfl, Tint, Tbool, Tbld, Tze, Tzel, Tcall, ↓reduceIte, Nat.reduceEqDiff, Nat.reduceAdd, Nat.add_zero, Nat.zero_add, Int.toNat_natCast, Int.natCast_nonneg, true_and, and_true, and_self, List.nil_append, List.cons_append, U2, List.getElem?_cons_zero, List.getElem?_cons_succ, List.append_nil, List.length_map, Bool.not_true, Bool.not_false, decide_true, decide_false, eq_self, ne_eq, not_false_eq_true, Int.reduceLT, Int.reduceLE, Int.reduceNeg, nat_lt0, now w8, c4, (hb4.ext hx8).cell, srvC, intV]
        refine ret_bind' hx8 (worldSpread (u := l[k])) fun w9 hx9 => ?_
        cases c5 : spreadB l[k].x
        · simp only [↓X, ↓Y, V, U, Z, ↓Q, Tsl, Tarr, Ttk, Tfl, Tint, Tbool, Tbld, Tze, Tzel, Tcall, ↓reduceIte, Nat.reduceEqDiff, Nat.reduceAdd, Nat.add_zero, Nat.zero_add, Int.toNat_natCast, Int.natCast_nonneg, true_and, and_true, and_self, List.nil_append, List.cons_append, U2, List.getElem?_cons_zero, List.getElem?_cons_succ, List.append_nil, List.length_map, Bool.not_true, Bool.not_false, decide_true, decide_false, eq_self, ne_eq, not_false_eq_true, Int.reduceLT, Int.reduceLE, Int.reduceNeg, nat_lt0, now w9, c5, (hb4.ext hx9).cell, srvC, intV, h3]
          exact ⟨by rw [wf (hf (by simp [serviceB, c5]))], hx4.trans hx9⟩
        simp only [↓X, ↓Y, V, U, Z, ↓Q, Tsl, Tarr, Ttk, Tfl, Tint, Tbool, Tbld, Tze, Tzel, Tcall, ↓reduceIte, Nat.reduceEqDiff, Nat.reduceAdd, Nat.add_zero, Nat.zero_add, Int.toNat_natCast, Int.natCast_nonneg, true_and, and_true, and_self, List.nil_append, List.cons_append, U2, List.getElem?_cons_zero, List.getElem?_cons_succ, List.append_nil, List.length_map, Bool.not_true, Bool.not_false, decide_true, decide_false, eq_self, ne_eq, not_false_eq_true, Int.reduceLT, Int.reduceLE, Int.reduceNeg, nat_lt0, now w9, c5, (hb4.ext hx9).cell, srvC, intV, h3]
        refine ret_bind' hx9 (ascending_id (caps := []) (Nat.le_trans hB4 hx9.size) ((hs4.a _ hmem).ext hx9 hB4) (by kernel_rfl) (fun _ _ _ _ => worldValidWish1)) fun w10 hx10 => ?_
        cases c6 : ascB l.length k (-1) l[k].x.apart
        · simp only [↓X, ↓Y, V, U, Z, ↓Q, Tsl, Tarr, Ttk, Tfl, Tint, Tbool, Tbld, Tze, Tzel, Tcall, ↓reduceIte, Nat.reduceEqDiff, Nat.reduceAdd, Nat.add_zero, Nat.zero_add, Int.toNat_natCast, Int.natCast_nonneg, true_and, and_true, and_self, List.nil_append, List.cons_append, U2, List.getElem?_cons_zero, List.getElem?_cons_succ, List.append_nil, List.length_map, Bool.not_true, Bool.not_false, decide_true, decide_false, eq_self, ne_eq, not_false_eq_true, Int.reduceLT, Int.reduceLE, Int.reduceNeg, nat_lt0, now w10, c6, (hb4.ext hx10).cell, srvC, intV, h3]
          exact ⟨by rw [wf (hf (by simp [serviceB, c6]))], hx4.trans hx10⟩
        simp only [↓X, ↓Y, V, U, Z, ↓Q, Tsl, Tarr, Ttk, Tfl, Tint, Tbool, Tbld, Tze, Tzel, Tcall, ↓reduceIte, Nat.reduceEqDiff, Nat.reduceAdd, Nat.add_zero, Nat.zero_add, Int.toNat_natCast, Int.natCast_nonneg, true_and, and_true, and_self, List.nil_append, List.cons_append, U2, List.getElem?_cons_zero, List.getElem?_cons_succ, List.append_nil, List.length_map, Bool.not_true, Bool.not_false, decide_true, decide_false, eq_self, ne_eq, not_false_eq_true, Int.reduceLT, Int.reduceLE, Int.reduceNeg, nat_lt0, now w10, c6, (hb4.ext hx10).cell, srvC, intV, h3]
        refine ret_bind' hx10 (ascending_Near (caps := []) (q := fun k => k.service) (Nat.le_trans hB4 hx10.size) ((hs4.n _ hmem).ext hx10 hB4) (by kernel_rfl) (fun _ _ _ _ => worldValidWish2)) fun w11 hx11 => ?_
        cases c7 : ascB l.length k (-1) (l[k].x.near.map fun k => k.service)
        · simp only [↓X, ↓Y, V, U, Z, ↓Q, Tsl, Tarr, Ttk, Tfl, Tint, Tbool, Tbld, Tze, Tzel, Tcall, ↓reduceIte, Nat.reduceEqDiff, Nat.reduceAdd, Nat.add_zero, Nat.zero_add, Int.toNat_natCast, Int.natCast_nonneg, true_and, and_true, and_self, List.nil_append, List.cons_append, U2, List.getElem?_cons_zero, List.getElem?_cons_succ, List.append_nil, List.length_map, Bool.not_true, Bool.not_false, decide_true, decide_false, eq_self, ne_eq, not_false_eq_true, Int.reduceLT, Int.reduceLE, Int.reduceNeg, nat_lt0, now w11, c7, (hb4.ext hx11).cell, srvC, intV, h3]
          exact ⟨by rw [wf (hf (by simp [serviceB, c7]))], hx4.trans hx11⟩
        simp only [↓X, ↓Y, V, U, Z, ↓Q, Tsl, Tarr, Ttk, Tfl, Tint, Tbool, Tbld, Tze, Tzel, Tcall, ↓reduceIte, Nat.reduceEqDiff, Nat.reduceAdd, Nat.add_zero, Nat.zero_add, Int.toNat_natCast, Int.natCast_nonneg, true_and, and_true, and_self, List.nil_append, List.cons_append, U2, List.getElem?_cons_zero, List.getElem?_cons_succ, List.append_nil, List.length_map, Bool.not_true, Bool.not_false, decide_true, decide_false, eq_self, ne_eq, not_false_eq_true, Int.reduceLT, Int.reduceLE, Int.reduceNeg, nat_lt0, now w11, c7, (hb4.ext hx11).cell, srvC, intV, h3]
        refine ret_bind' hx11 (containsNot_Near (caps := []) (q := fun k => btw k.latency 0 1000000) (Nat.le_trans hB4 hx11.size) ((hs4.n _ hmem).ext hx11 hB4) (by kernel_rfl) (fun _ _ _ _ => worldValidWish3)) fun w12 hx12 => ?_
        cases c8 : (l[k].x.near.all fun k => btw k.latency 0 1000000)
        · simp only [↓X, ↓Y, V, U, Z, ↓Q, Tsl, Tarr, Ttk, Tfl, Tint, Tbool, Tbld, Tze, Tzel, Tcall, ↓reduceIte, Nat.reduceEqDiff, Nat.reduceAdd, Nat.add_zero, Nat.zero_add, Int.toNat_natCast, Int.natCast_nonneg, true_and, and_true, and_self, List.nil_append, List.cons_append, U2, List.getElem?_cons_zero, List.getElem?_cons_succ, List.append_nil, List.length_map, Bool.not_true, Bool.not_false, decide_true, decide_false, eq_self, ne_eq, not_false_eq_true, Int.reduceLT, Int.reduceLE, Int.reduceNeg, nat_lt0, now w12, c8, (hb4.ext hx12).cell, srvC, intV, h4, h15, h14, h13, h3]
          exact ⟨by rw [wf (hf (by simp [serviceB, c8]))], hx4.trans hx12⟩
        simp only [↓X, ↓Y, V, U, Z, ↓Q, Tsl, Tarr, Ttk, Tfl, Tint, Tbool, Tbld, Tze, Tzel, Tcall, ↓reduceIte, Nat.reduceEqDiff, Nat.reduceAdd, Nat.add_zero, Nat.zero_add, Int.toNat_natCast, Int.natCast_nonneg, true_and, and_true, and_self, List.nil_append, List.cons_append, U2, List.getElem?_cons_zero, List.getElem?_cons_succ, List.append_nil, List.length_map, Bool.not_true, Bool.not_false, decide_true, decide_false, eq_self, ne_eq, not_false_eq_true, Int.reduceLT, Int.reduceLE, Int.reduceNeg, nat_lt0, now w12, c8, (hb4.ext hx12).cell, srvC, intV, h4, h15, h14, h13, h3]
        have hb : serviceB l.length k l[k].x = true := by simp only [serviceB, c1, c2, c3, c4, c5, c6, c7, c8, Bool.and_self]
        have hr : 0 ≤ l[k].x.replicas ∧ l[k].x.replicas ≤ 24 := by simpa [btw] using c2
        refine ⟨m - 1, by omega, k + 1, c + l[k].x.replicas, ?_⟩
        (repeat' apply And.intro) <;> first | rfl | assumption | omega | exact hx4.trans hx12 | rw [wrap_succ hlt hs.v.max_] | rw [wrap_i64_id (by omega) (by omega)] | rw [← hm, hb, Bool.true_and]
      · simp only [↓X, ↓Y, V, U, Z, ↓Q, Tsl, Tarr, Ttk, Tfl, Tint, Tbool, Tbld, Tze, Tzel, Tcall, ↓reduceIte, Nat.reduceEqDiff, Nat.reduceAdd, Nat.add_zero, Nat.zero_add, Int.toNat_natCast, Int.natCast_nonneg, true_and, and_true, and_self, List.nil_append, List.cons_append, U2, List.getElem?_cons_zero, List.getElem?_cons_succ, List.append_nil, List.length_map, Bool.not_true, Bool.not_false, decide_true, decide_false, eq_self, ne_eq, not_false_eq_true, Int.reduceLT, Int.reduceLE, Int.reduceNeg, nat_lt0, now w2, h15, h14, h4, Int.ofNat_lt, hlt]
        rw [List.drop_eq_nil_of_le (by omega)] at hm hsum
        simp only [List.map_nil, srvsB, sumR, Int.add_zero] at hm hsum
        exact ⟨by simp [wishB, ← hm, ← hsum]; omega, hx⟩
  · simp only [↓X, ↓Y, V, U, Z, ↓Q, Tsl, Tarr, Ttk, Tfl, Tint, Tbool, Tbld, Tze, Tzel, Tcall, ↓reduceIte, Nat.reduceEqDiff, Nat.reduceAdd, Nat.add_zero, Nat.zero_add, Int.toNat_natCast, Int.natCast_nonneg, true_and, and_true, and_self, List.nil_append, List.cons_append, U2, List.getElem?_cons_zero, List.getElem?_cons_succ, List.append_nil, List.length_map, Bool.not_true, Bool.not_false, decide_true, decide_false, eq_self, ne_eq, not_false_eq_true, Int.reduceLT, Int.reduceLE, Int.reduceNeg, nat_lt0, now w1, h8]
    simp at h8
    exact ⟨by simp [wishB]; omega, hx1⟩
end Go.Proofs.YtgickfllblmhpaaDoor
