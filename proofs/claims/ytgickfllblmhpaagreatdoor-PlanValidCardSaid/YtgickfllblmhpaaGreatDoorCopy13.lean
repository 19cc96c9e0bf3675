/- The document's answer, layer 13, and the layer world: a world in memory of its own. -/
import Derived.Test.YtgickfllblmhpaaGreatDoorRef13
import Derived.Test.YtgickfllblmhpaaGreatDoorRow
namespace Go.Proofs.YtgickfllblmhpaaGreatDoor
set_option linter.unusedSimpArgs false
set_option linter.unusedVariables false
open Go Go.RowKit
set_option maxRecDepth 100000
set_option linter.unusedSectionVars false
set_option maxHeartbeats 1000000
def stateC (x : StateD) : List Value := [.int .u8 x.phase, intV x.firmware]
def replC (x : ReplicaD) : List Value := [intV x.service, intV x.host]
theorem stateC_one (x : StateD) : ∀ v ∈ stateC x, v.oneCell' = true := by simp [stateC, intV, one_int]
theorem replC_one (x : ReplicaD) : ∀ v ∈ replC x, v.oneCell' = true := by simp [replC, intV, one_int]
abbrev OwnH (w : World) (B : Nat) (v : Value) (l : List StateD) : Prop := Own w B 180 2 v (l.map stateC)
abbrev OwnP (w : World) (B : Nat) (v : Value) (l : List ReplicaD) : Prop := Own w B 167 2 v (l.map replC)
section
variable {w : World} {B : Nat} {hv rv : Value} {x : WorldD}
theorem newH {v : Value} {l : List StateD} {k : Value → World → Prop} {s : Value} (hown : OwnH w w.heap.size s []) (hv : Sl w B (some 2) 2 v (l.map stateV)) (hbound : l.length < 1000000000000) (h : ∀ v' w', Now w' → St w w' → OwnH w' w.heap.size v' l → k v' w') : appX Tryz.prog 159 159 159 s v w k :=
  appendNew_k (e := 180) (sz := 2) (by_ := 16) (z := .agg #[.int .u8 0, .int .i64 0]) hown (by kernel_rfl) (by kernel_rfl) rfl (by decide) (by decide) hv (fun _ => rfl) stateC_one hbound h
theorem newP {v : Value} {l : List ReplicaD} {k : Value → World → Prop} {s : Value} (hown : OwnP w w.heap.size s []) (hv : Sl w B (some 2) 2 v (l.map replicaV)) (hbound : l.length < 1000000000000) (h : ∀ v' w', Now w' → St w w' → OwnP w' w.heap.size v' l → k v' w') : appX Tryz.prog 160 160 160 s v w k :=
  appendNew_k (e := 167) (sz := 2) (by_ := 16) (z := .agg #[.int .i64 0, .int .i64 0]) hown (by kernel_rfl) (by kernel_rfl) rfl (by decide) (by decide) hv (fun _ => rfl) replC_one hbound h
/-- A world that a call hands back in memory of its own. -/
def OwnW (B : Nat) (v : Value) (w : World) (x : WorldD) : Prop := ∃ hv rv, v = .agg #[hv, rv] ∧ OwnH w B hv x.hosts ∧ OwnP w B rv x.replicas
end
end Go.Proofs.YtgickfllblmhpaaGreatDoor
/- The document's answer, layer 13, and the layer world: Same. -/
namespace Go.Proofs.YtgickfllblmhpaaGreatDoor
set_option linter.unusedSimpArgs false
set_option linter.unusedVariables false
open Go Go.RowKit
set_option maxRecDepth 100000
set_option linter.unusedSectionVars false
set_option maxHeartbeats 1000000
section
variable {w : World} {B B' : Nat} {hv rv hv' rv' : Value} {x y : WorldD}
theorem sameD {x y : WorldD} : decide (x = y) = (decide (x.hosts = y.hosts) && decide (x.replicas = y.replicas)) := by
  cases x; cases y
  rw [Bool.eq_iff_iff]; simp
end
end Go.Proofs.YtgickfllblmhpaaGreatDoor
/- The layer world: hosts, and the library's Clone. -/
namespace Go.Proofs.YtgickfllblmhpaaGreatDoor
set_option linter.unusedSimpArgs false
set_option linter.unusedVariables false
open Go Go.RowKit
set_option maxRecDepth 100000
set_option linter.unusedSectionVars false
set_option maxHeartbeats 1000000
section
variable {w : World} {B B' : Nat} {hv rv hv' rv' : Value} {x y : WorldD}
theorem Own.ofBlkN {e sz n : Nat} {b : Nat} {cs : List (List Value)} (hn : n = cs.length) (h : Blk w b e cs.flatten) (hc : ∀ c ∈ cs, c.length = sz) (hB : B ≤ b) (hs : cs.length ≤ 140737488355328) : Own w B e sz (.slice (some ⟨b, 0, none⟩) n n) cs := by
  subst hn
  exact Own.ofBlk h hc hB hs
theorem nil_of {α : Type} {f : α → Value} {k : Option Nat} {sz : Nat} {v : Value} {l : List α} (h : Sl w B k sz v (l.map f)) (hn : nilB v = true) : l = [] := by
  have h1 := h.len
  have h2 := h.wf
  match v, hn, h1, h2 with
  | .slice none n c, _, h1, h2 =>
    obtain rfl : n = 0 := h2
    rw [List.length_map] at h1
    exact List.eq_nil_of_length_eq_zero h1.symm
end
end Go.Proofs.YtgickfllblmhpaaGreatDoor
