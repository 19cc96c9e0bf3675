
/- The layer world: order, sorted, Valid, Where, Runs, Has, Used. -/
import Derived.Test.YtopfddchckdhgaaGreatSite
import Derived.Test.YtopfddchckdhgaaGreatMid
import Derived.Test.YtopfddchckdhgaaGreatFrame
namespace Go.Proofs.YtopfddchckdhgaaGreat
set_option linter.unusedSimpArgs false
set_option linter.unusedVariables false
open Go Go.RowKit
set_option maxRecDepth 100000
set_option linter.unusedSectionVars false
set_option maxHeartbeats 1000000
abbrev SiteK (w : World) (B : Nat) (u : SiteVs) (s : SiteD) : Prop := SlK w B 1 (some 1) u.f s.feeds feedV ∧ SlK w B 4 (some 4) u.b s.breakers breakerV ∧ SlK w B 2 (some 2) u.l s.loops loopV ∧ SlK w B 4 (some 4) u.r s.racks rackV ∧ SlK w B 3 (some 3) u.k s.links linkV ∧ SlK w B 4 (some 4) u.h s.hosts hostV ∧ (∀ w', Bl B w w' → SiteR w' B u s)
abbrev WishK (w : World) (B : Nat) (v : Value) (l : List SrvV) : Prop := SlK w B 8 (some 8) v l srvV ∧ SlFk w B 8 v l srvV ∧ (∀ w', Bl B w w' → WishR w' B v l)
structure WorldR (w : World) (B : Nat) (hv rv : Value) (x : WorldD) : Prop where
  h : Sl w B (some 2) 2 hv (x.hosts.map stateV)
  r : Sl w B (some 2) 2 rv (x.replicas.map replicaV)
abbrev WorldK (w : World) (B : Nat) (hv rv : Value) (x : WorldD) : Prop := SlK w B 2 (some 2) hv x.hosts stateV ∧ SlK w B 2 (some 2) rv x.replicas replicaV ∧ SlFk w B 2 hv x.hosts stateV ∧ SlFk w B 2 rv x.replicas replicaV ∧ (∀ w', Bl B w w' → WorldR w' B hv rv x)
section
variable {w : World} {B : Nat} {u : SiteVs} {s : SiteD} {wv hv rv : Value} {l : List SrvV} {x : WorldD}
theorem SiteR.sk (h : SiteR w B u s) (hB : B ≤ w.heap.size) : SiteK w B u s := ⟨h.f.k hB, h.b.k hB, h.l.k hB, h.r.k hB, h.k.k hB, h.h.k hB, fun _ hb => ⟨h.f.bl hb, h.b.bl hb, h.l.bl hb, h.r.bl hb, h.k.bl hb, h.h.bl hb⟩⟩
theorem WishR.sk (h : WishR w B wv l) (hB : B ≤ w.heap.size) : WishK w B wv l := ⟨h.v.k hB, h.v.fk, fun _ hb => ⟨h.v.bl hb, fun u hu => (h.a u hu).bl hb, fun u hu => (h.n u hu).bl hb⟩⟩
theorem WorldR.sk (h : WorldR w B hv rv x) (hB : B ≤ w.heap.size) : WorldK w B hv rv x := ⟨h.h.k hB, h.r.k hB, h.h.fk, h.r.fk, fun _ hb => ⟨h.h.bl hb, h.r.bl hb⟩⟩
end
def cmpI (a b : Int) : Int := if a < b then -1 else if b < a then 1 else 0
theorem cmpIsNaN {w : World} {a : Int} : Ret Tryz.prog 135 #[intV a] w (.bool false) := by
  have hn : Now w := trivial
  have hx : Ext w w := Ext.refl w
  (refine callsV_of Tryz.func135 rfl KR KR ?_; rw [Tryz.results135])
  (repeat' first
    | with_reducible first | exact ⟨⟩ | (refine gB ?_; intros) | refine gT ?_ ?_
    | refine gs ?_
    | refine sx ?_)
def ordI (a b : ReplicaD) : Int := if cmpI a.service b.service = 0 then cmpI a.host b.host else cmpI a.service b.service
def sortedB : List ReplicaD → Bool
  | a :: b :: r => decide (ordI a b < 0) && sortedB (b :: r)
  | _ => true
theorem sortedB_iff {l : List ReplicaD} : sortedB l = true ↔ ∀ i (h : i + 1 < l.length), ordI l[i] l[i + 1] < 0 := by
  induction l with
  | nil => simp [sortedB]
  | cons a r ih =>
    cases r with
    | nil => simp [sortedB]
    | cons b r =>
      simp only [sortedB, Bool.and_eq_true, decide_eq_true_eq, ih]
      constructor
      · rintro ⟨h1, h2⟩ i hi
        cases i with
        | zero => exact h1
        | succ i => exact h2 i (by simpa using hi)
      · intro h
        exact ⟨h 0 (by simp), fun i hi => h (i + 1) (by simpa using hi)⟩
end Go.Proofs.YtopfddchckdhgaaGreat
