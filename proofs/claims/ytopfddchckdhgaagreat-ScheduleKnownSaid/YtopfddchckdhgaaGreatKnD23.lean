
/- ScheduleKnown: the data of the law and what the specs give there. -/
import Derived.Test.YtopfddchckdhgaaGreatLive23
namespace Go.Proofs.YtopfddchckdhgaaGreat
set_option linter.unusedSimpArgs false
set_option linter.unusedVariables false
open Go Go.RowKit
set_option maxRecDepth 100000
set_option linter.unusedVariables false
def knBeg (i : Nat) : List Int := [[0, 2, 0, 99], [0, 1, 0, 2], [0, 2, 4, 8], [0, 2, 4, 6], [5, 7, 4, 6], [5, 7, 9, 11], [5, 7, 9, 11]].getD i []
def knEnd (i : Nat) : Int := [101, 4, 10, 8, 9, 12, 13].getD i 0
def knWant (i : Nat) : BreachD := [⟨1, 3, 0⟩, ⟨2, 1, 0⟩, ⟨3, 3, 0⟩, ⟨4, 0, 0⟩, ⟨5, 5, 2⟩, ⟨6, 0, 0⟩, ⟨0, 0, 0⟩].getD i ⟨0, 0, 0⟩
def knTerms (i : Nat) : TermsD := ⟨[⟨1, 1, 0, 6⟩, ⟨3, 1, 4, 9⟩, ⟨2, 1, 9, 13⟩], if 3 ≤ i then [⟨3, 0⟩] else [], if 4 ≤ i then 1 else 0, [0, 2, 2, 2, 2, 2, 2, 2], if 3 ≤ i then [5, 6, -1, -1] else List.replicate 4 (-1), 0, 100⟩
theorem kn_check0 : checkS (houseD 2) twoD (knTerms 0) ⟨knBeg 0, knEnd 0⟩ = (knWant 0, 13) := by kernel_rfl
theorem kn_check1 : checkS (houseD 2) twoD (knTerms 1) ⟨knBeg 1, knEnd 1⟩ = (knWant 1, 13) := by kernel_rfl
theorem kn_check2 : checkS (houseD 2) twoD (knTerms 2) ⟨knBeg 2, knEnd 2⟩ = (knWant 2, 13) := by kernel_rfl
theorem kn_check3 : checkS (houseD 2) twoD (knTerms 3) ⟨knBeg 3, knEnd 3⟩ = (knWant 3, 13) := by kernel_rfl
theorem kn_check4 : checkS (houseD 2) twoD (knTerms 4) ⟨knBeg 4, knEnd 4⟩ = (knWant 4, 13) := by kernel_rfl
theorem kn_check5 : checkS (houseD 2) twoD (knTerms 5) ⟨knBeg 5, knEnd 5⟩ = (knWant 5, 13) := by kernel_rfl
theorem kn_check6 : checkS (houseD 2) twoD (knTerms 6) ⟨knBeg 6, knEnd 6⟩ = (knWant 6, 0) := by kernel_rfl
theorem kn_short : checkS (houseD 2) twoD (termsD 4 0) ⟨[0, 2, 0], 0⟩ = (⟨0, 0, 0⟩, 1) := by kernel_rfl
theorem kn_far : checkS (houseD 2) twoD (termsD 4 0) ⟨[0, 2, 0, 1000001], 0⟩ = (⟨0, 0, 0⟩, 1) := by kernel_rfl
theorem kn_three : makeS (houseD 2) twoD (termsD 3 0) = (noT, -1, 1) := by kernel_rfl
def circleD : PlanD := ⟨twoD.steps.take 2, [[1], [0]]⟩
theorem kn_circle : makeS (houseD 2) circleD (termsD 2 0) = (noT, -1, 1) := by kernel_rfl
theorem kn_none : makeS (houseD 2) ⟨[], []⟩ (termsD 0 3) = (⟨[], 0⟩, -1, 0) := by kernel_rfl
def knLate (a : Int) : TermsD := ⟨[], [⟨1, 0⟩], 0, [0, 2, 2, 2, 2, 2, 2, 2], [5, a, -1, -1], 0, 100⟩
theorem kn_late : makeS (houseD 2) twoD (knLate 7) = (⟨[5, 7, 0, 2], 9⟩, -1, 0) := by kernel_rfl
theorem kn_stuck : makeS (houseD 2) twoD (knLate (-1)) = (noT, 1, 7) := by kernel_rfl
def badD (n : Nat) : TermsD := match n with
  | 0 => termsD 4 17
  | 1 => termsD 4 (-1)
  | 2 => ⟨[], [], 0, [0, 2, 2, 2, 2, 2, 2, 2], List.replicate 4 (-1), 101, 100⟩
  | 3 => ⟨[], [], 0, [0, 2, 2, 2, 2, 2, 2, 0], List.replicate 4 (-1), 0, 100⟩
  | 4 => ⟨[], [], 0, [0, 2, 2, 2, 2, 2, 2], List.replicate 4 (-1), 0, 100⟩
  | 5 => ⟨[], [], 0, [0, 2, 2, 2, 2, 2, 2, 2], [-2, -1, -1, -1], 0, 100⟩
  | _ => ⟨[⟨2, 2, 0, 1⟩], [], 0, [0, 2, 2, 2, 2, 2, 2, 2], List.replicate 4 (-1), 0, 100⟩
theorem kn_bad0 : validT (houseD 2) twoD (badD 0) = false := by kernel_rfl
theorem kn_bad1 : validT (houseD 2) twoD (badD 1) = false := by kernel_rfl
theorem kn_bad2 : validT (houseD 2) twoD (badD 2) = false := by kernel_rfl
theorem kn_bad3 : validT (houseD 2) twoD (badD 3) = false := by kernel_rfl
theorem kn_bad4 : validT (houseD 2) twoD (badD 4) = false := by kernel_rfl
theorem kn_bad5 : validT (houseD 2) twoD (badD 5) = false := by kernel_rfl
theorem kn_bad6 : validT (houseD 2) twoD (badD 6) = false := by kernel_rfl
def eightD : PlanD := ⟨[⟨8, 0, 0, 0⟩], [[]]⟩
theorem kn_eight : validT (houseD 2) eightD (termsD 1 0) = false := by kernel_rfl
theorem kn_at : atS eightD (termsD 1 0) ⟨[0], 0⟩ 5 = (0, 0) := by kernel_rfl
theorem kn_good : validT (houseD 2) twoD (termsD 4 16) = true := by kernel_rfl
end Go.Proofs.YtopfddchckdhgaaGreat
