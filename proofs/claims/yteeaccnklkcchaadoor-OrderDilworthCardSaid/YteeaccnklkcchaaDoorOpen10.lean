
/- The data of layer 10, opened: lists of lists of ints. -/
import Derived.Test.YteeaccnklkcchaaDoorOpen
import Derived.Test.YteeaccnklkcchaaDoorOrd
namespace Go.Proofs.YteeaccnklkcchaaDoor
set_option linter.unusedSimpArgs false
set_option linter.unusedVariables false
open Go Go.RowKit
set_option maxRecDepth 100000
theorem decInts10 {H : Type} {enc : TypeId × Value → H} {w : World} {base : Nat} {spare : Nat → Bool} {held : Bool} : Dec enc w base spare held 25 (fun x : Value × List Int => [x.1]) (fun x => Sl w w.heap.size none 1 x.1 (x.2.map intV)) := by
  intro fuel cs x h
  obtain ⟨v, l, e, p, _⟩ := open_sl1 Tryd.underlying25 (by kernel_rfl) (dec_int Tryd.underlying3) h
  exact ⟨(v, l), e, p⟩
theorem decLL {H : Type} {enc : TypeId × Value → H} {w : World} {base : Nat} {spare : Nat → Bool} {held : Bool} : Dec enc w base spare held 22 (fun x : Value × List Value × List (List Int) => [x.1]) (fun x => LLR w w.heap.size x.1 x.2.1 x.2.2) := by
  intro fuel cs x h
  obtain ⟨s1, l1, e1, p1, q1⟩ := open_sl1 (f := fun x : Value × List Int => x.1) Tryd.underlying22 (by kernel_rfl) decInts10 h
  refine ⟨(s1, l1.map (·.1), l1.map (·.2)), e1, ⟨p1, by simp, fun i hi => ?_⟩⟩
  simp only [List.length_map] at hi
  refine ⟨(l1[i]).1, by simp [List.getElem?_eq_getElem hi], ?_⟩
  simpa using q1 _ (List.getElem_mem hi)
theorem decU8s {H : Type} {enc : TypeId × Value → H} {w : World} {base : Nat} {spare : Nat → Bool} {held : Bool} : Dec enc w base spare held 48 (fun x : Value × List Int => [x.1]) (fun x => Sl w w.heap.size none 1 x.1 (x.2.map fun n => .int .u8 n) ∧ ∀ n ∈ x.2, 0 ≤ n ∧ n ≤ 255) := by
  intro fuel cs x h
  obtain ⟨v, l, e, p, q⟩ := open_sl1 (f := fun n : Int => Value.int .u8 n) Tryd.underlying48 (by kernel_rfl) (dec_u8 Tryd.underlying5) h
  exact ⟨(v, l), e, p, q⟩
end Go.Proofs.YteeaccnklkcchaaDoor
