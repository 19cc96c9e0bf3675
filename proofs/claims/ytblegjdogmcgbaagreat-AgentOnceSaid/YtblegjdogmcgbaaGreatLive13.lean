
/- The examples of the statements on layer 13. -/
import Derived.Test.YtblegjdogmcgbaaGreatStart13b
namespace Go.Proofs.YtblegjdogmcgbaaGreat
set_option linter.unusedSimpArgs false
set_option linter.unusedVariables false
open Go Go.RowKit
set_option maxRecDepth 100000
set_option linter.unusedSectionVars false
set_option maxHeartbeats 1000000
theorem row_of {w : World} {b t n sz : Nat} {cells : List Value} {l : List (List Value)} (hb : Blk w b t cells) (hc : cells = l.flatten) (hn : n = l.length) (hl : ∀ c ∈ l, c.length = sz) (hs : l.length ≤ 140737488355328) : Sl w w.heap.size (some sz) sz (.slice (some ⟨b, 0, none⟩) n n) (l.map fun c => .agg c.toArray) := by
  have h := Own.ofBlkN (B := 0) (cs := l) hn (by rw [← hc]; exact hb) hl (Nat.zero_le _) hs
  have := (show Own w 0 t sz _ (l.map id) by rwa [List.map_id]).slN (f := id)
  exact this
def srvEx1 : ServiceD := ⟨2, 2, 0, 0, 0, [], [], 0⟩
def srvEx2 : ServiceD := ⟨1, 2, 0, 0, 0, [], [], 0⟩
def worldEx : WorldD := ⟨[⟨0, 0⟩, ⟨0, 0⟩, ⟨0, 0⟩], [⟨0, 0⟩, ⟨0, 2⟩, ⟨1, 0⟩]⟩
theorem OwnW.r {B : Nat} {v : Value} {w : World} {x : WorldD} (h : OwnW B v w x) : ∃ hv rv, v = .agg #[hv, rv] ∧ WorldR w w.heap.size hv rv x := by
  obtain ⟨hv, rv, rfl, h1, h2⟩ := h
  exact ⟨hv, rv, rfl, h1.slN (f := stateC), h2.slN (f := replC)⟩
theorem SiteR.up {w : World} {B B' : Nat} {u : SiteVs} {s : SiteD} (h : SiteR w B u s) (hB : B ≤ B') : SiteR w B' u s := ⟨h.f.more hB, h.b.more hB, h.l.more hB, h.r.more hB, h.k.more hB, h.h.more hB⟩
theorem WishR.up {w : World} {B B' : Nat} {v : Value} {l : List SrvV} (h : WishR w B v l) (hB : B ≤ B') : WishR w B' v l := ⟨h.v.more hB, fun u hu => (h.a u hu).more hB, fun u hu => (h.n u hu).more hB⟩
theorem WorldR.up {w : World} {B B' : Nat} {hv rv : Value} {x : WorldD} (h : WorldR w B hv rv x) (hB : B ≤ B') : WorldR w B' hv rv x := ⟨h.h.more hB, h.r.more hB⟩
def worldEx1 : WorldD := ⟨[⟨0, 0⟩, ⟨0, 0⟩, ⟨0, 0⟩], [⟨0, 0⟩, ⟨0, 1⟩, ⟨0, 2⟩, ⟨1, 0⟩]⟩
section
variable {w : World} {B : Nat} {u : SiteVs} {s : SiteD} {wv hv rv : Value} {l : List SrvV} {x : WorldD}
end
end Go.Proofs.YtblegjdogmcgbaaGreat
