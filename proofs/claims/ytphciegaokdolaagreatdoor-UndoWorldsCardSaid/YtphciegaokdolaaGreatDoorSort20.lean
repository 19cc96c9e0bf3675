
/- The library's Sort and Compact on a row of ints of the call's own. -/
import Derived.Test.YtphciegaokdolaaGreatDoorShelf
import Derived.Lib.RowBridge
import Derived.Test.YtphciegaokdolaaGreatDoorAuto
import Derived.Sort.OwnSortedInts
namespace Go.Proofs.YtphciegaokdolaaGreatDoor
set_option linter.unusedSimpArgs false
set_option linter.unusedVariables false
open Go Go.RowKit Go.Sort
set_option maxRecDepth 100000
set_option maxHeartbeats 1000000
abbrev sortI (l : List Int) : List Int := l.mergeSort fun x y => decide (x ≤ y)
section
variable {w : World} {B : Nat} {v : Value} {l : List Int}
theorem flat_intC (l : List Int) : (l.map intC).flatten = l.map (Value.int .i64) := by
 induction l with
 | nil => rfl
 | cons a r ih => simp only [List.map_cons, List.flatten_cons, ih]; rfl
theorem own_intC {w : World} {v : Value} {l : List Int} (h : w.ownsRow B 3 1 v l.length (l.map (Value.int .i64))) (hs : l.length ≤ 140737488355328) : Own w B 3 1 v (l.map intC) :=
 ⟨by rw [flat_intC, List.length_map]; exact h, fun c hc => by obtain ⟨x, _, rfl⟩ := List.mem_map.1 hc; rfl, by rw [List.length_map]; exact hs⟩
end
end Go.Proofs.YtphciegaokdolaaGreatDoor
