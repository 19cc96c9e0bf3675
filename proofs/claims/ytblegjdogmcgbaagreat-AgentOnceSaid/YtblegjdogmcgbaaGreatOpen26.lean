
/- The data of layer 26, opened: agent, request, arrival. -/
import Derived.Test.YtblegjdogmcgbaaGreatOpen2
import Derived.Test.YtblegjdogmcgbaaGreatPure13
namespace Go.Proofs.YtblegjdogmcgbaaGreat
set_option linter.unusedSimpArgs false
set_option linter.unusedVariables false
open Go Go.RowKit Go.ChangeShapes Go.WideShapes Go.Deep
set_option maxRecDepth 100000
def I64 (n : Int) : Prop := -9223372036854775808 ≤ n ∧ n ≤ 9223372036854775807
theorem decRequest {H : Type} {enc : TypeId × Value → H} {w : World} {base : Nat} {spare : Nat → Bool} {held : Bool} : Dec enc w base spare held 44 (fun x : RequestD => requestC x) (fun x => I64 x.id ∧ I64 x.lease) := by
  intro fuel cs x h
  obtain ⟨ys, n, _, _, hlen, hyl, hf⟩ := DataW.trod_struct Tryz.underlying44 h
  have hc : cs.length = 6 := hlen.trans KR
  match cs, hc with
  | [c0, c1, c2, c3, c4, c5], _ =>
    have h0 : DataW.trod enc Tryz.prog w base spare held n 3 (([c0, c1, c2, c3, c4, c5].drop 0).take (Tryz.prog.cellsOf 3)) = ys[0]? := hf 0 _ rfl
    have h1 : DataW.trod enc Tryz.prog w base spare held n 3 (([c0, c1, c2, c3, c4, c5].drop 1).take (Tryz.prog.cellsOf 3)) = ys[1]? := hf 1 _ rfl
    have h2 : DataW.trod enc Tryz.prog w base spare held n 42 (([c0, c1, c2, c3, c4, c5].drop 2).take (Tryz.prog.cellsOf 42)) = ys[2]? := hf 2 _ rfl
    have hy : ys.length = 3 := hyl
    rw [show Tryz.prog.cellsOf 3 = 1 by kernel_rfl] at h0 h1
    rw [show Tryz.prog.cellsOf 42 = 4 by kernel_rfl] at h2
    obtain ⟨a0, e0, p0⟩ := dec_int Tryz.underlying3 _ _ _ (h0.trans (List.getElem?_eq_getElem (by omega)))
    obtain ⟨a1, e1, p1⟩ := dec_int Tryz.underlying3 _ _ _ (h1.trans (List.getElem?_eq_getElem (by omega)))
    obtain ⟨a2, e2, p2⟩ := decStep _ _ _ (h2.trans (List.getElem?_eq_getElem (by omega)))
    refine ⟨⟨a0, a1, a2⟩, ?_, p0, p1⟩
    simp only [List.drop_zero, List.drop_succ_cons, List.take_succ_cons, List.take_zero, stepC, List.cons.injEq, and_true] at e0 e1 e2
    obtain ⟨rfl, rfl, rfl, rfl⟩ := e2
    subst e0 e1
    rfl
end Go.Proofs.YtblegjdogmcgbaaGreat
