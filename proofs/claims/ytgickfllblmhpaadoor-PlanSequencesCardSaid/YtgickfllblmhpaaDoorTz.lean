/- math/bits.TrailingZeros on small sets; order.list. -/
import Derived.Test.YtgickfllblmhpaaDoorLib1
import Derived.Test.YtgickfllblmhpaaDoorOwn
import Derived.Test.YtgickfllblmhpaaDoorDom
import Derived.Test.YtgickfllblmhpaaDoorTzTab
namespace Go.Proofs.YtgickfllblmhpaaDoor
set_option linter.unusedSimpArgs false
set_option linter.unusedVariables false
open Go
set_option maxRecDepth 100000
/-- The table of the package math/bits. -/
def TabW (w : World) : Prop := ∀ j, j < 64 → w.cell? ⟨1, j, none⟩ = some (.int .u8 (Lib.deBruijn64tab.getD j 0))
theorem TabW.ext {w w' : World} (h : TabW w) (hx : Ext w w') : TabW w' := fun j hj => cell_ext (h j hj) hx
theorem u64_and {a b : Nat} (ha : a < 18446744073709551616) (hb : b < 18446744073709551616) : andI .u64 (a : Int) (b : Int) = ((a &&& b : Nat) : Int) := by
  have h1 : a &&& b ≤ a := Nat.and_le_left
  show IntKind.u64.wrap (((BitVec.ofInt 64 (a : Int) &&& BitVec.ofInt 64 (b : Int)).toNat : Nat) : Int) = _
  rw [bvOf, bvOf, BitVec.toNat_and, BitVec.toNat_ofNat, BitVec.toNat_ofNat, Nat.mod_eq_of_lt ha, Nat.mod_eq_of_lt hb, IntKind.wrap_u64]
  omega
theorem low_key {x : Nat} (hx : x < 4096) (h0 : x ≠ 0) : shrI .u64 (IntKind.u64.wrap (andI .u64 (x : Int) (IntKind.u64.wrap (-(x : Int))) * 285870213051353865)) 58 = ((lowI x : Nat) : Int) := by
  have e1 : IntKind.u64.wrap (-(x : Int)) = ((18446744073709551616 - x : Nat) : Int) := by rw [IntKind.wrap_u64]; omega
  rw [e1, u64_and (by omega) (by omega), IntKind.wrap_u64]
  unfold lowI
  generalize x &&& (18446744073709551616 - x) = y
  show Int.fdiv ((y : Int) * 285870213051353865 % 18446744073709551616) 288230376151711744 = _
  rw [Int.fdiv_eq_ediv_of_nonneg _ (by decide)]
  omega
theorem tz64_core {w : World} {x n k : Nat} (hb : ((x : Int) == 0) = false) (key : shrI .u64 (IntKind.u64.wrap (andI .u64 (x : Int) (IntKind.u64.wrap (-(x : Int))) * 285870213051353865)) 58 = (n : Int)) (hn : n < 64) (hk : k < 64)
    (hc : w.cell? ⟨1, n, none⟩ = some (.int .u8 k)) : Ret Tryd.prog 90 #[.int .u64 x] w (intV k) := by
  refine callsV_of Tryd.func90 rfl (by kernel_rfl) (by kernel_rfl) ?_
  rw [Tryd.results90]
  have hn' : ((n : Int) < ((64 : Nat) : Int)) = True := by simp; omega
  have hadd : (⟨1, 0, none⟩ : Addr).add n = ⟨1, n, none⟩ := by rw [add_none, Nat.zero_add]
  simp only [↓X, ↓Y, V, U, Z, ↓Q, Tsl, Tarr, Ttk, Tfl, Tint, Tbool, Tbld, Tze, Tzel, Tcall, ↓reduceIte, Nat.reduceEqDiff, Nat.reduceAdd, Nat.add_zero, Nat.zero_add, Int.toNat_natCast, Int.natCast_nonneg, true_and, and_true, and_self, List.nil_append, List.cons_append, U2, List.getElem?_cons_zero, List.getElem?_cons_succ, List.append_nil, List.length_map, Bool.not_true, Bool.not_false, decide_true, decide_false, eq_self, ne_eq, not_false_eq_true, Int.reduceLT, Int.reduceLE, Int.reduceNeg, nat_lt0, now w, hb, key, hn', Nat.mul_one, hadd, hc]
  rw [wrap_nat (by omega)]
  (repeat' apply And.intro) <;> first | rfl | assumption | exact Ext.refl w
theorem tz_lt {x : Nat} : tz x ≤ 13 := by
  have : ∀ f x, tzF f x ≤ f := by
    intro f
    induction f with
    | zero => intro x; exact Nat.le_refl _
    | succ f ih => intro x; unfold tzF; split <;> have := ih (x / 2) <;> omega
  exact this 13 x
theorem trailingZeros64 {w : World} {x : Nat} (hT : TabW w) (hx : x < 4096) (h0 : x ≠ 0) : Ret Tryd.prog 90 #[.int .u64 x] w (intV (tz x)) := by
  obtain ⟨h1, h2⟩ := tz_tab hx h0
  have hc := hT _ h1
  rw [h2] at hc
  exact tz64_core (by simp [h0]) (low_key hx h0) h1 (by have := @tz_lt x; omega) hc
theorem trailingZeros {w : World} {x : Nat} (hT : TabW w) (hx : x < 4096) (h0 : x ≠ 0) : Ret Tryd.prog 84 #[.int .u64 x] w (intV (tz x)) := by
  refine callsV_of Tryd.func84 rfl (by kernel_rfl) (by kernel_rfl) ?_
  rw [Tryd.results84]
  have hw : IntKind.u64.wrap (x : Int) = (x : Int) := by rw [IntKind.wrap_u64]; omega
  simp only [↓X, ↓Y, V, U, Z, ↓Q, Tsl, Tarr, Ttk, Tfl, Tint, Tbool, Tbld, Tze, Tzel, Tcall, ↓reduceIte, Nat.reduceEqDiff, Nat.reduceAdd, Nat.add_zero, Nat.zero_add, Int.toNat_natCast, Int.natCast_nonneg, true_and, and_true, and_self, List.nil_append, List.cons_append, U2, List.getElem?_cons_zero, List.getElem?_cons_succ, List.append_nil, List.length_map, Bool.not_true, Bool.not_false, decide_true, decide_false, eq_self, ne_eq, not_false_eq_true, Int.reduceLT, Int.reduceLE, Int.reduceNeg, nat_lt0, now w]
  refine ret_bind' (Ext.refl w) (trailingZeros64 hT hx h0) fun w1 hx1 => ?_
  simp only [↓X, ↓Y, V, U, Z, ↓Q, Tsl, Tarr, Ttk, Tfl, Tint, Tbool, Tbld, Tze, Tzel, Tcall, ↓reduceIte, Nat.reduceEqDiff, Nat.reduceAdd, Nat.add_zero, Nat.zero_add, Int.toNat_natCast, Int.natCast_nonneg, true_and, and_true, and_self, List.nil_append, List.cons_append, U2, List.getElem?_cons_zero, List.getElem?_cons_succ, List.append_nil, List.length_map, Bool.not_true, Bool.not_false, decide_true, decide_false, eq_self, ne_eq, not_false_eq_true, Int.reduceLT, Int.reduceLE, Int.reduceNeg, nat_lt0, now w1]
  (repeat' apply And.intro) <;> first | rfl | assumption
def natC (n : Nat) : List Value := [intV n]
def natV (n : Nat) : Value := intV n
theorem orderList {w : World} {s : Nat} (hT : TabW w) (hs : s < 4096) : CallsV Tryd.prog 72 #[natV s] w fun v w' => Ext w w' ∧ Own w' w.heap.size 3 1 v ((lst s).map natC) := by
  refine callsV_of Tryd.func72 rfl (by kernel_rfl) (by kernel_rfl) ?_
  rw [Tryd.results72]
  simp only [↓X, ↓Y, V, U, Z, ↓Q, Tsl, Tarr, Ttk, Tfl, Tint, Tbool, Tbld, Tze, Tzel, Tcall, ↓reduceIte, Nat.reduceEqDiff, Nat.reduceAdd, Nat.add_zero, Nat.zero_add, Int.toNat_natCast, Int.natCast_nonneg, true_and, and_true, and_self, List.nil_append, List.cons_append, U2, List.getElem?_cons_zero, List.getElem?_cons_succ, List.append_nil, List.length_map, Bool.not_true, Bool.not_false, decide_true, decide_false, eq_self, ne_eq, not_false_eq_true, Int.reduceLT, Int.reduceLE, Int.reduceNeg, nat_lt0, now w, natV, intV]
  refine loopX_intro (fun m g w' => ∃ (out : List Nat) (v : Value), m < 4096 ∧ g 0 = .int .i64 m ∧ g 3 = v ∧ out ++ lst m = lst s ∧ Own w' w.heap.size 3 1 v (out.map natC) ∧ Ext w w') s (by kernel_rfl) ?_ ?_
  · refine ⟨[], .slice none 0 0, ?_⟩
    simp only [↓X, ↓Y, V, U, Z, ↓Q, Tsl, Tarr, Ttk, Tfl, Tint, Tbool, Tbld, Tze, Tzel, Tcall, ↓reduceIte, Nat.reduceEqDiff, Nat.reduceAdd, Nat.add_zero, Nat.zero_add, Int.toNat_natCast, Int.natCast_nonneg, true_and, and_true, and_self, List.nil_append, List.cons_append, U2, List.getElem?_cons_zero, List.getElem?_cons_succ, List.append_nil, List.length_map, Bool.not_true, Bool.not_false, decide_true, decide_false, eq_self, ne_eq, not_false_eq_true, Int.reduceLT, Int.reduceLE, Int.reduceNeg, nat_lt0]
    (repeat' apply And.intro) <;> first | rfl | assumption | exact Ext.refl w | exact Own.nil _ _ _ _
  · rintro m g w1 ⟨out, v, hr, h0, h3, ho, hown, hx⟩
    cases hz : (m : Int) != 0
    · simp only [↓X, ↓Y, V, U, Z, ↓Q, Tsl, Tarr, Ttk, Tfl, Tint, Tbool, Tbld, Tze, Tzel, Tcall, ↓reduceIte, Nat.reduceEqDiff, Nat.reduceAdd, Nat.add_zero, Nat.zero_add, Int.toNat_natCast, Int.natCast_nonneg, true_and, and_true, and_self, List.nil_append, List.cons_append, U2, List.getElem?_cons_zero, List.getElem?_cons_succ, List.append_nil, List.length_map, Bool.not_true, Bool.not_false, decide_true, decide_false, eq_self, ne_eq, not_false_eq_true, Int.reduceLT, Int.reduceLE, Int.reduceNeg, nat_lt0, now w1, h0, h3, hz]
      have : m = 0 := by simpa using hz
      subst this
      rw [lst_zero, List.append_nil] at ho
      exact ⟨hx, ho ▸ hown⟩
    · have hm0 : m ≠ 0 := by simpa using hz
      have hw : IntKind.u64.wrap (m : Int) = (m : Int) := by rw [IntKind.wrap_u64]; omega
      simp only [↓X, ↓Y, V, U, Z, ↓Q, Tsl, Tarr, Ttk, Tfl, Tint, Tbool, Tbld, Tze, Tzel, Tcall, ↓reduceIte, Nat.reduceEqDiff, Nat.reduceAdd, Nat.add_zero, Nat.zero_add, Int.toNat_natCast, Int.natCast_nonneg, true_and, and_true, and_self, List.nil_append, List.cons_append, U2, List.getElem?_cons_zero, List.getElem?_cons_succ, List.append_nil, List.length_map, Bool.not_true, Bool.not_false, decide_true, decide_false, eq_self, ne_eq, not_false_eq_true, Int.reduceLT, Int.reduceLE, Int.reduceNeg, nat_lt0, now w1, h0, h3, hz, hw]
      refine ret_bind' (Ext.refl w1) (trailingZeros (hT.ext hx) hr hm0) fun w2 hx2 => ?_
      simp only [↓X, ↓Y, V, U, Z, ↓Q, Tsl, Tarr, Ttk, Tfl, Tint, Tbool, Tbld, Tze, Tzel, Tcall, ↓reduceIte, Nat.reduceEqDiff, Nat.reduceAdd, Nat.add_zero, Nat.zero_add, Int.toNat_natCast, Int.natCast_nonneg, true_and, and_true, and_self, List.nil_append, List.cons_append, U2, List.getElem?_cons_zero, List.getElem?_cons_succ, List.append_nil, List.length_map, Bool.not_true, Bool.not_false, decide_true, decide_false, eq_self, ne_eq, not_false_eq_true, Int.reduceLT, Int.reduceLE, Int.reduceNeg, nat_lt0, now w2, intV, idxOk, flatP, cellsL, List.length_cons, List.length_nil, Nat.reduceMul, Nat.reduceLeDiff, Nat.reduceLT]
      refine row_intro fun b3 w3 hb3 hx3 _ => ?_
      simp only [↓X, ↓Y, V, U, Z, ↓Q, Tsl, Tarr, Ttk, Tfl, Tint, Tbool, Tbld, Tze, Tzel, Tcall, ↓reduceIte, Nat.reduceEqDiff, Nat.reduceAdd, Nat.add_zero, Nat.zero_add, Int.toNat_natCast, Int.natCast_nonneg, true_and, and_true, and_self, List.nil_append, List.cons_append, U2, List.getElem?_cons_zero, List.getElem?_cons_succ, List.append_nil, List.length_map, Bool.not_true, Bool.not_false, decide_true, decide_false, eq_self, ne_eq, not_false_eq_true, Int.reduceLT, Int.reduceLE, Int.reduceNeg, nat_lt0, now w3, h3]
      obtain ⟨hs1, hs2⟩ := lst_step hr hm0
      have hlen : out.length + (lst m).length = (lst s).length := by rw [← ho, List.length_append]
      refine append_int (x := tz m) ((hown.ext hx2).ext hx3) hb3 rfl (by simp [natC, intV, one_int]) (by have := lst_len hs; omega) (Nat.le_trans hx.size (hx2.trans hx3).size) fun v' w4 hown' _ hbl _ => ?_
      simp only [↓X, ↓Y, V, U, Z, ↓Q, Tsl, Tarr, Ttk, Tfl, Tint, Tbool, Tbld, Tze, Tzel, Tcall, ↓reduceIte, Nat.reduceEqDiff, Nat.reduceAdd, Nat.add_zero, Nat.zero_add, Int.toNat_natCast, Int.natCast_nonneg, true_and, and_true, and_self, List.nil_append, List.cons_append, U2, List.getElem?_cons_zero, List.getElem?_cons_succ, List.append_nil, List.length_map, Bool.not_true, Bool.not_false, decide_true, decide_false, eq_self, ne_eq, not_false_eq_true, Int.reduceLT, Int.reduceLE, Int.reduceNeg, nat_lt0, now w4, h0]
      have hx4 : Ext w w4 := (hx.trans (hx2.trans hx3)).trans' hbl
      rw [show (m : Int) - 1 = ((m - 1 : Nat) : Int) by omega, wrap_nat (by omega), andI_nat (by omega) (by omega)]
      refine ⟨m &&& (m - 1), hs2, out ++ [tz m], v', ?_⟩
      (repeat' apply And.intro) <;> first | rfl | assumption | exact Nat.lt_trans hs2 hr | (rw [List.append_assoc, ← ho, hs1]; rfl)
end Go.Proofs.YtgickfllblmhpaaDoor
