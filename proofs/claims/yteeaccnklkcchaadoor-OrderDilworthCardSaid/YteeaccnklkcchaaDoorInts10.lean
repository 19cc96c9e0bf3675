
/- Rows of numbers of the call's own: one more. -/
import Derived.Test.YteeaccnklkcchaaDoorMid
import Derived.Test.YteeaccnklkcchaaDoorTzTab
namespace Go.Proofs.YteeaccnklkcchaaDoor
set_option linter.unusedSimpArgs false
set_option linter.unusedVariables false
open Go Go.RowKit
set_option maxRecDepth 100000
set_option linter.unusedSectionVars false
theorem natC_ints (l : List Nat) : l.map natV = (l.map fun n : Nat => (n : Int)).map intV := by simp [natV]
theorem appN {w : World} {B b cp : Nat} {s : Value} {l : List Nat} (x : Nat) {k : Value → World → Prop} (hown : Own w B 3 1 s (l.map natC)) (hb : Blk w b 3 (natC x)) (hbound : l.length < 1000000000000) (hB : B ≤ w.heap.size)
    (h : ∀ v' w', Now w' → Sa B w w' → Own w' B 3 1 v' ((l ++ [x]).map natC) → k v' w') : appX Tryd.prog 25 25 25 s (.slice (some ⟨b, 0, none⟩) 1 cp) w k :=
  append_k (e := 3) (sz := 1) (by_ := 8) (z := .int .i64 0) (c := natC) x KR KR rfl (by decide) (by decide) hown hb rfl (by simp [natC, intV, one_int]) hbound hB h
end Go.Proofs.YteeaccnklkcchaaDoor
