/- The layer plan: Valid, open, ideal, asked, enabled, Ideals, Enabled. -/
import Derived.Test.YteeaccnklkcchaaDoorStep
import Derived.Test.YteeaccnklkcchaaDoorOrd
namespace Go.Proofs.YteeaccnklkcchaaDoor
set_option linter.unusedSimpArgs false
set_option linter.unusedVariables false
open Go Go.RowKit
set_option maxRecDepth 100000
set_option linter.unusedSectionVars false
theorem orderValid {w : World} {B : Nat} {v : Value} {vs : List Value} {after : List (List Int)} (hT : TabW w) (hB : B ≤ w.heap.size) (hv : LLR w B v vs after) : Ret Tryd.prog 23 #[v] w (intV (ofS after).1) := by
  (refine callsV_of Tryd.func23 rfl (by kernel_rfl) (by kernel_rfl) ?_; rw [Tryd.results23])
  simp only [↓X, ↓Y, ↓Q, S0, ↓reduceIte, Nat.reduceEqDiff, Nat.reduceAdd, Int.reduceLT, Int.reduceLE, Int.reduceNeg, now w]
  refine CallsV.mono (orderOf hT hB hv) fun r w1 ⟨hx1, nv, vd, va, hr, ⟨h1, h2, h3⟩, _⟩ => ?_
  subst hr
  simp only [↓X, ↓Y, ↓Q, S0, ↓reduceIte, Nat.reduceEqDiff, Nat.reduceAdd, Int.reduceLT, Int.reduceLE, Int.reduceNeg, now w1]
  refine alloc_intro fun b2 w2 hb2 hx2 hn2 => ?_
  simp only [↓X, ↓Y, ↓Q, S0, ↓reduceIte, Nat.reduceEqDiff, Nat.reduceAdd, Int.reduceLT, Int.reduceLE, Int.reduceNeg, now w2]
  refine storeAgg_intro (vs := [nv, vd, va]) (by kernel_rfl) hb2 rfl (by simp only [natV, intV, List.mem_cons, List.not_mem_nil, or_false, forall_eq_or_imp, forall_eq, one_int, one_bool, one_slice, one_ptr, and_self, h1, h2, h3]) fun w3 hb3 hc3 => ?_
  simp only [↓X, ↓Y, ↓Q, S0, ↓reduceIte, Nat.reduceEqDiff, Nat.reduceAdd, Int.reduceLT, Int.reduceLE, Int.reduceNeg, now w3]
  exact (hx1.trans hx2).trans' (hc3.below (Nat.le_trans hx1.size hn2) (hx1.trans hx2).size)
structure PlanR (w : World) (B : Nat) (sv av : Value) (vs : List Value) (p : PlanD) : Prop where
  s : Sl w B (some 4) 4 sv (p.steps.map stepV)
  a : LLR w B av vs p.after
theorem PlanR.ext {w w' : World} {B : Nat} {sv av : Value} {vs : List Value} {p : PlanD} (h : PlanR w B sv av vs p) (hx : Ext w w') (hB : B ≤ w.heap.size) : PlanR w' B sv av vs p := ⟨h.s.ext hx hB, h.a.ext hx hB⟩
set_option maxHeartbeats 1000000
section
variable {w : World} {B : Nat} {u : SiteVs} {s : SiteD} {wv sv av : Value} {vs : List Value} {l : List SrvV} {p : PlanD} (hT : TabW w) (hB : B ≤ w.heap.size) (hs : SiteR w B u s) (hl : WishR w B wv l) (hp : PlanR w B sv av vs p)
include hT hB hs hl hp
end
end Go.Proofs.YteeaccnklkcchaaDoor
/- The layer plan: open, ideal, enabled. -/
namespace Go.Proofs.YteeaccnklkcchaaDoor
set_option linter.unusedSimpArgs false
set_option linter.unusedVariables false
open Go Go.RowKit
set_option maxRecDepth 100000
set_option linter.unusedSectionVars false
/-- A plan whose shape is right. -/
structure Shape (p : PlanD) : Prop where
  len : p.after.length = p.steps.length
  small : p.steps.length ≤ 12
  range : ∀ l ∈ p.after, ∀ k ∈ l, 0 ≤ k ∧ k < (p.steps.length : Int)
def openB (p : PlanD) (set i : Nat) : Bool := (p.after.getD i []).all fun k => set.testBit k.toNat
def idealB (p : PlanD) (set : Nat) : Bool := decide (set < 2 ^ p.steps.length) && decide (∀ i, i < p.steps.length → set.testBit i = true → openB p set i = true)
def idealI (p : PlanD) (x : Int) : Bool := decide (0 ≤ x) && idealB p x.toNat
def enabledL (p : PlanD) (set : Nat) : List Nat := (List.range p.steps.length).filter fun i => !set.testBit i && openB p set i
section
variable {w : World} {B : Nat} {sv av : Value} {vs : List Value} {p : PlanD} (hB : B ≤ w.heap.size) (hp : PlanR w B sv av vs p) (ho : Shape p)
include hB hp ho
omit hB hp ho in
end
end Go.Proofs.YteeaccnklkcchaaDoor
