
/- The places of a list with its elements, the last first. -/
import Derived.Test.YtphciegaokdolaaGreatDoorEng1
namespace Go.Proofs.YtphciegaokdolaaGreatDoor
set_option linter.unusedSimpArgs false
set_option linter.unusedVariables false
open Go
set_option linter.unusedSectionVars false
section
variable {L : List Nat}
/-- The steps of an order with their places, the last first. -/
def xsL (L : List Nat) : List (Nat × Nat) := (List.range L.length).reverse.map fun i => (i, L.getD i 0)
theorem xsL_len (L : List Nat) : (xsL L).length = L.length := by simp [xsL]
theorem xsL_get {i : Nat} (h : i < (xsL L).length) : (xsL L)[i] = (L.length - 1 - i, L.getD (L.length - 1 - i) 0) := by
 simp [xsL]
theorem xsL_take {i : Nat} (h : i < L.length) : (xsL L).take (i + 1) = (xsL L).take i ++ [(L.length - 1 - i, L.getD (L.length - 1 - i) 0)] := by
 rw [List.take_add_one, List.getElem?_eq_getElem (by rw [xsL_len]; exact h), xsL_get]; rfl
end
end Go.Proofs.YtphciegaokdolaaGreatDoor
