
/- The data of layer 30, opened: steps. -/
import Derived.Test.YtmcdgepfhpakiaaGreatOpen2
namespace Go.Proofs.YtmcdgepfhpakiaaGreat
set_option linter.unusedSimpArgs false
set_option linter.unusedVariables false
open Go Go.RowKit Go.ChangeShapes Go.WideShapes Go.Deep
set_option maxRecDepth 100000
theorem decSteps {H : Type} {enc : TypeId × Value → H} {w : World} {base : Nat} {spare : Nat → Bool} {held : Bool} : Dec enc w base spare held 37 (fun x : Value × List StepD => [x.1]) (fun x => Sl w w.heap.size (some 4) 4 x.1 (x.2.map stepV)) := by
  intro fuel cs x h
  obtain ⟨v, l, e, p, q⟩ := open_slN (k := 4) (g := stepV) Tryz.underlying37 KR (by decide) decStep (fun _ => rfl) h
  exact ⟨(v, l), e, p⟩
end Go.Proofs.YtmcdgepfhpakiaaGreat
