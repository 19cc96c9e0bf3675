
/- The document's answer, layer 13, and the layer world: a world in memory of its own. -/
import Derived.Test.YtcdeeoakoljlpaaRef13e
import Derived.Test.YtcdeeoakoljlpaaRow
namespace Go.Proofs.Ytcdeeoakoljlpaa
set_option linter.unusedSimpArgs false
set_option linter.unusedVariables false
open Go Go.RowKit
set_option maxRecDepth 100000
set_option linter.unusedSectionVars false
set_option maxHeartbeats 1000000
def stateC (x : StateD) : List Value := [.int .u8 x.phase, intV x.firmware]
def replC (x : ReplicaD) : List Value := [intV x.service, intV x.host]
theorem stateC_one (x : StateD) : ∀ v ∈ stateC x, v.oneCell' = true := by simp [stateC, intV, one_int]
theorem replC_one (x : ReplicaD) : ∀ v ∈ replC x, v.oneCell' = true := by simp [replC, intV, one_int]
abbrev OwnH (w : World) (B : Nat) (v : Value) (l : List StateD) : Prop := Own w B 50 2 v (l.map stateC)
abbrev OwnP (w : World) (B : Nat) (v : Value) (l : List ReplicaD) : Prop := Own w B 52 2 v (l.map replC)
section
variable {w : World} {B : Nat} {hv rv : Value} {x : WorldD}
theorem newH {v : Value} {l : List StateD} {k : Value → World → Prop} {s : Value} (hown : OwnH w w.heap.size s []) (hv : Sl w B (some 2) 2 v (l.map stateV)) (hbound : l.length < 1000000000000) (h : ∀ v' w', Now w' → St w w' → OwnH w' w.heap.size v' l → k v' w') : appX Try.prog 33 33 33 s v w k :=
  appendNew_k (e := 50) (sz := 2) (by_ := 16) (z := .agg #[.int .u8 0, .int .i64 0]) hown (by kernel_rfl) (by kernel_rfl) rfl (by decide) (by decide) hv (fun _ => rfl) stateC_one hbound h
theorem newP {v : Value} {l : List ReplicaD} {k : Value → World → Prop} {s : Value} (hown : OwnP w w.heap.size s []) (hv : Sl w B (some 2) 2 v (l.map replicaV)) (hbound : l.length < 1000000000000) (h : ∀ v' w', Now w' → St w w' → OwnP w' w.heap.size v' l → k v' w') : appX Try.prog 34 34 34 s v w k :=
  appendNew_k (e := 52) (sz := 2) (by_ := 16) (z := .agg #[.int .i64 0, .int .i64 0]) hown (by kernel_rfl) (by kernel_rfl) rfl (by decide) (by decide) hv (fun _ => rfl) replC_one hbound h
/-- A world that a call hands back in memory of its own. -/
def OwnW (B : Nat) (v : Value) (w : World) (x : WorldD) : Prop := ∃ hv rv, v = .agg #[hv, rv] ∧ OwnH w B hv x.hosts ∧ OwnP w B rv x.replicas
end
end Go.Proofs.Ytcdeeoakoljlpaa
