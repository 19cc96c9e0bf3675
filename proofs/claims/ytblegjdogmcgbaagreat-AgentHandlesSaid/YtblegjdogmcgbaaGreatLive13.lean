
/- The examples of the statements on layer 13. -/
import Derived.Test.YtblegjdogmcgbaaGreatStart13b
namespace Go.Proofs.YtblegjdogmcgbaaGreat
set_option linter.unusedSimpArgs false
set_option linter.unusedVariables false
open Go Go.RowKit
set_option maxRecDepth 100000
set_option linter.unusedSectionVars false
set_option maxHeartbeats 1000000
theorem row_of {w : World} {b t n sz : Nat} {cells : List Value} {l : List (List Value)} (hb : Blk w b t cells) (hc : cells = l.flatten) (hn : n = l.length) (hl : ∀ c ∈ l, c.length = sz) (hs : l.length ≤ 140737488355328) : Sl w w.heap.size (some sz) sz (.slice (some ⟨b, 0, none⟩) n n) (l.map fun c => .agg c.toArray) := by
  have h := Own.ofBlkN (B := 0) (cs := l) hn (by rw [← hc]; exact hb) hl (Nat.zero_le _) hs
  have := (show Own w 0 t sz _ (l.map id) by rwa [List.map_id]).slN (f := id)
  exact this
def siteEx : SiteD := ⟨[⟨1000⟩], [⟨0, 500, 0, 0⟩], [⟨1000, 0⟩], [⟨0, 0, 0, 0⟩, ⟨2, 0, 0, 0⟩], 1, [], [⟨0, 4, 0, 0⟩, ⟨0, 4, 0, 0⟩, ⟨1, 4, 0, 0⟩]⟩
def srvEx1 : ServiceD := ⟨2, 2, 0, 0, 0, [], [], 0⟩
def srvEx2 : ServiceD := ⟨1, 2, 0, 0, 0, [], [], 0⟩
def worldEx : WorldD := ⟨[⟨0, 0⟩, ⟨0, 0⟩, ⟨0, 0⟩], [⟨0, 0⟩, ⟨0, 2⟩, ⟨1, 0⟩]⟩
theorem OwnW.r {B : Nat} {v : Value} {w : World} {x : WorldD} (h : OwnW B v w x) : ∃ hv rv, v = .agg #[hv, rv] ∧ WorldR w w.heap.size hv rv x := by
  obtain ⟨hv, rv, rfl, h1, h2⟩ := h
  exact ⟨hv, rv, rfl, h1.slN (f := stateC), h2.slN (f := replC)⟩
theorem SiteR.up {w : World} {B B' : Nat} {u : SiteVs} {s : SiteD} (h : SiteR w B u s) (hB : B ≤ B') : SiteR w B' u s := ⟨h.f.more hB, h.b.more hB, h.l.more hB, h.r.more hB, h.k.more hB, h.h.more hB⟩
theorem WishR.up {w : World} {B B' : Nat} {v : Value} {l : List SrvV} (h : WishR w B v l) (hB : B ≤ B') : WishR w B' v l := ⟨h.v.more hB, fun u hu => (h.a u hu).more hB, fun u hu => (h.n u hu).more hB⟩
theorem WorldR.up {w : World} {B B' : Nat} {hv rv : Value} {x : WorldD} (h : WorldR w B hv rv x) (hB : B ≤ B') : WorldR w B' hv rv x := ⟨h.h.more hB, h.r.more hB⟩
def fewB (s : SiteD) (l : List ServiceD) (x : WorldD) : Bool := decide (s.feeds.length ≤ 60) && decide (s.breakers.length ≤ 60) && decide (s.loops.length ≤ 60) && decide (s.racks.length ≤ 60) && decide (s.links.length ≤ 60) && decide (s.hosts.length ≤ 60) && decide (l.length ≤ 60) && decide (x.hosts.length ≤ 60) && decide (x.replicas.length ≤ 60) && l.all fun y => decide (y.apart.length ≤ 60) && decide (y.near.length ≤ 60)
def worldEx1 : WorldD := ⟨[⟨0, 0⟩, ⟨0, 0⟩, ⟨0, 0⟩], [⟨0, 0⟩, ⟨0, 1⟩, ⟨0, 2⟩, ⟨1, 0⟩]⟩
def worldEx2 : WorldD := ⟨[⟨0, 0⟩, ⟨0, 0⟩, ⟨0, 0⟩], [⟨0, 0⟩, ⟨1, 0⟩]⟩
theorem ex_start : startE worldEx ⟨0, 1⟩ = 0 ∧ startW worldEx ⟨0, 1⟩ = worldEx1 := by decide
theorem ex_stop : stopE worldEx ⟨0, 2⟩ = 0 ∧ stopW worldEx ⟨0, 2⟩ = worldEx2 := by decide
theorem ex_valid : validB siteEx [srvEx1, srvEx2] worldEx = true := by decide
theorem ex_used : usedI [srvEx1, srvEx2] worldEx 0 = 3 := by decide
theorem ex_where : whereL worldEx 0 = [0, 2] := by decide
section
variable {w : World} {B : Nat} {u : SiteVs} {s : SiteD} {wv hv rv : Value} {l : List SrvV} {x : WorldD}
theorem few_no {s : SiteD} {l : List ServiceD} {x : WorldD} (h : 60 < s.feeds.length ∨ 60 < s.breakers.length ∨ 60 < s.loops.length ∨ 60 < s.racks.length ∨ 60 < s.links.length ∨ 60 < s.hosts.length ∨ 60 < l.length ∨ 60 < x.hosts.length ∨ 60 < x.replicas.length) : fewB s l x = false := by
  rw [← Bool.not_eq_true]
  intro h2
  simp only [fewB, Bool.and_eq_true, decide_eq_true_eq] at h2
  omega
def fewP (y : SrvV) : Bool := decide (y.x.apart.length ≤ 60) && decide (y.x.near.length ≤ 60)
theorem few_yes {s : SiteD} {l : List SrvV} {x : WorldD} (h : s.feeds.length ≤ 60 ∧ s.breakers.length ≤ 60 ∧ s.loops.length ≤ 60 ∧ s.racks.length ≤ 60 ∧ s.links.length ≤ 60 ∧ s.hosts.length ≤ 60 ∧ l.length ≤ 60 ∧ x.hosts.length ≤ 60 ∧ x.replicas.length ≤ 60) : fewB s (l.map (·.x)) x = l.all fewP := by
  obtain ⟨h1, h2, h3, h4, h5, h6, h7, h8, h9⟩ := h
  simp only [fewB, List.length_map, h1, h2, h3, h4, h5, h6, h7, h8, h9, decide_true, Bool.true_and, List.all_map]
  rfl
end
end Go.Proofs.YtblegjdogmcgbaaGreat
