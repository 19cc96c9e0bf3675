
/- The document's answer, layer 13: Stop. -/
import Derived.Test.YtcdeeoakoljlpaaSet13b
namespace Go.Proofs.Ytcdeeoakoljlpaa
set_option linter.unusedSimpArgs false
set_option linter.unusedVariables false
open Go Go.RowKit
set_option maxRecDepth 100000
set_option linter.unusedSectionVars false
set_option maxHeartbeats 1000000
def stopE (x : WorldD) (r : ReplicaD) : Int := if sortedB x.replicas = true then if hasB x.replicas r = true then 0 else 7 else 1
def stopF (r : ReplicaD) (l : List ReplicaD) : List ReplicaD := l.filter fun a => !decide (a = r)
def stopW (x : WorldD) (r : ReplicaD) : WorldD := if stopE x r = 0 then ⟨x.hosts, stopF r x.replicas⟩ else noW
theorem stop_take {l : List ReplicaD} {k : Nat} (h : k < l.length) (r : ReplicaD) : stopF r (l.take (k + 1)) = stopF r (l.take k) ++ if l[k] = r then [] else [l[k]] := by
  unfold stopF
  rw [filter_take h]
  by_cases e : l[k] = r <;> simp [e]
theorem stop_len (l : List ReplicaD) (r : ReplicaD) : (stopF r l).length ≤ l.length := List.length_filter_le _ _
theorem appP {w : World} {B b cp : Nat} {s : Value} {l : List ReplicaD} (x : ReplicaD) {k : Value → World → Prop} (hown : OwnP w B s l) (hb : Blk w b 52 (replC x)) (hbound : l.length < 1000000000000) (hB : B ≤ w.heap.size)
    (h : ∀ v' w', Now w' → Sa B w w' → OwnP w' B v' (l ++ [x]) → k v' w') : appX Try.prog 34 34 34 s (.slice (some ⟨b, 0, none⟩) 1 cp) w k :=
  append_k (e := 52) (sz := 2) (by_ := 16) (z := .agg #[.int .i64 0, .int .i64 0]) (c := replC) x (by kernel_rfl) (by kernel_rfl) rfl (by decide) (by decide) hown hb rfl (replC_one x) hbound hB h
section
variable {w : World} {B B' : Nat} {hv rv hv' rv' : Value} {x y : WorldD}
end
end Go.Proofs.Ytcdeeoakoljlpaa
