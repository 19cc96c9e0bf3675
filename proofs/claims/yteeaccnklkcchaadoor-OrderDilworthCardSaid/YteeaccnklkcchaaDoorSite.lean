/- The layer site: Valid. -/
import Derived.Test.YteeaccnklkcchaaDoorLib1
import Derived.Test.YteeaccnklkcchaaDoorOwn
import Derived.Test.YteeaccnklkcchaaDoorDom
namespace Go.Proofs.YteeaccnklkcchaaDoor
set_option linter.unusedSimpArgs false
set_option linter.unusedVariables false
open Go
set_option maxRecDepth 100000
set_option linter.unusedSectionVars false
theorem intV_eq (n : Int) : Value.int .i64 n = intV n := rfl
def minL : Int → List Int → Int
  | a, [] => a
  | a, b :: r => minL (if b < a then b else a) r
def maxL : Int → List Int → Int
  | a, [] => a
  | a, b :: r => maxL (if b > a then b else a) r
theorem minL_ge : ∀ (l : List Int) (a b : Int), b ≤ minL a l ↔ b ≤ a ∧ ∀ x ∈ l, b ≤ x
  | [], a, b => by simp [minL]
  | c :: r, a, b => by
    rw [minL, minL_ge r]
    simp only [List.mem_cons, forall_eq_or_imp]
    constructor
    · rintro ⟨h1, h2⟩; split at h1 <;> exact ⟨by omega, by omega, h2⟩
    · rintro ⟨h1, h2, h3⟩; exact ⟨by split <;> omega, h3⟩
theorem maxL_le : ∀ (l : List Int) (a b : Int), maxL a l ≤ b ↔ a ≤ b ∧ ∀ x ∈ l, x ≤ b
  | [], a, b => by simp [maxL]
  | c :: r, a, b => by
    rw [maxL, maxL_le r]
    simp only [List.mem_cons, forall_eq_or_imp]
    constructor
    · rintro ⟨h1, h2⟩; split at h1 <;> exact ⟨by omega, by omega, h2⟩
    · rintro ⟨h1, h2, h3⟩; exact ⟨by split <;> omega, h3⟩
structure SiteVs where
  f : Value
  b : Value
  l : Value
  r : Value
  k : Value
  h : Value
def siteC (u : SiteVs) (s : SiteD) : List Value := [u.f, u.b, u.l, u.r, intV s.switches, u.k, u.h]
structure SiteR (w : World) (B : Nat) (u : SiteVs) (s : SiteD) : Prop where
  f : Sl w B (some 1) 1 u.f (s.feeds.map feedV)
  b : Sl w B (some 4) 4 u.b (s.breakers.map breakerV)
  l : Sl w B (some 2) 2 u.l (s.loops.map loopV)
  r : Sl w B (some 4) 4 u.r (s.racks.map rackV)
  k : Sl w B (some 3) 3 u.k (s.links.map linkV)
  h : Sl w B (some 4) 4 u.h (s.hosts.map hostV)
theorem SiteR.ext {w w' : World} {B : Nat} {u : SiteVs} {s : SiteD} (h : SiteR w B u s) (hx : Ext w w') (hB : B ≤ w.heap.size) : SiteR w' B u s :=
  ⟨h.f.ext hx hB, h.b.ext hx hB, h.l.ext hx hB, h.r.ext hx hB, h.k.ext hx hB, h.h.ext hx hB⟩
section
end
end Go.Proofs.YteeaccnklkcchaaDoor
/- The layer world: ValidWish. -/
namespace Go.Proofs.YteeaccnklkcchaaDoor
set_option linter.unusedSimpArgs false
set_option linter.unusedVariables false
open Go
set_option maxRecDepth 100000
set_option linter.unusedSectionVars false
structure SrvV where
  x : ServiceD
  a : Value
  n : Value
def srvC (u : SrvV) : List Value := [intV u.x.cores, intV u.x.replicas, intV u.x.least, .int .u8 u.x.domain, intV u.x.spread, u.a, u.n, intV u.x.firmware]
def srvV (u : SrvV) : Value := .agg (srvC u).toArray
structure WishR (w : World) (B : Nat) (v : Value) (l : List SrvV) : Prop where
  v : Sl w B (some 8) 8 v (l.map srvV)
  a : ∀ u ∈ l, Sl w B none 1 u.a (u.x.apart.map intV)
  n : ∀ u ∈ l, Sl w B (some 2) 2 u.n (u.x.near.map nearV)
theorem WishR.ext {w w' : World} {B : Nat} {v : Value} {l : List SrvV} (h : WishR w B v l) (hx : Ext w w') (hB : B ≤ w.heap.size) : WishR w' B v l :=
  ⟨h.v.ext hx hB, fun u hu => (h.a u hu).ext hx hB, fun u hu => (h.n u hu).ext hx hB⟩
end Go.Proofs.YteeaccnklkcchaaDoor
