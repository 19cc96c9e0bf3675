
/- The data of layer 26, opened: arrival. -/
import Derived.Test.YtblegjdogmcgbaaGreatOpen26
namespace Go.Proofs.YtblegjdogmcgbaaGreat
set_option linter.unusedSimpArgs false
set_option linter.unusedVariables false
open Go Go.RowKit Go.ChangeShapes Go.WideShapes Go.Deep
set_option maxRecDepth 100000
structure ArrivalD where
  r : RequestD
  later : Int
  fails : Bool
def arrivalC (x : ArrivalD) : List Value := requestC x.r ++ [.int .u8 x.later, .bool x.fails]
def arrivalV (x : ArrivalD) : Value := .agg (arrivalC x).toArray
theorem decArrival {H : Type} {enc : TypeId × Value → H} {w : World} {base : Nat} {spare : Nat → Bool} {held : Bool} : Dec enc w base spare held 69 (fun x : ArrivalD => arrivalC x) (fun x => (I64 x.r.id ∧ I64 x.r.lease) ∧ 0 ≤ x.later ∧ x.later ≤ 255) := by
  intro fuel cs x h
  obtain ⟨ys, n, _, _, hlen, hyl, hf⟩ := DataW.trod_struct Tryz.underlying69 h
  have hc : cs.length = 8 := hlen.trans KR
  match cs, hc with
  | [c0, c1, c2, c3, c4, c5, c6, c7], _ =>
    have h0 : DataW.trod enc Tryz.prog w base spare held n 44 (([c0, c1, c2, c3, c4, c5, c6, c7].drop 0).take (Tryz.prog.cellsOf 44)) = ys[0]? := hf 0 _ rfl
    have h1 : DataW.trod enc Tryz.prog w base spare held n 5 (([c0, c1, c2, c3, c4, c5, c6, c7].drop 6).take (Tryz.prog.cellsOf 5)) = ys[1]? := hf 1 _ rfl
    have h2 : DataW.trod enc Tryz.prog w base spare held n 4 (([c0, c1, c2, c3, c4, c5, c6, c7].drop 7).take (Tryz.prog.cellsOf 4)) = ys[2]? := hf 2 _ rfl
    have hy : ys.length = 3 := hyl
    rw [show Tryz.prog.cellsOf 44 = 6 by kernel_rfl] at h0
    rw [show Tryz.prog.cellsOf 5 = 1 by kernel_rfl] at h1
    rw [show Tryz.prog.cellsOf 4 = 1 by kernel_rfl] at h2
    obtain ⟨a0, e0, p0⟩ := decRequest _ _ _ (h0.trans (List.getElem?_eq_getElem (by omega)))
    obtain ⟨a1, e1, p1⟩ := dec_u8 Tryz.underlying5 _ _ _ (h1.trans (List.getElem?_eq_getElem (by omega)))
    obtain ⟨a2, e2, p2⟩ := dec_bool Tryz.underlying4 _ _ _ (h2.trans (List.getElem?_eq_getElem (by omega)))
    refine ⟨⟨a0, a1, a2⟩, ?_, p0, p1⟩
    simp only [List.drop_zero, List.drop_succ_cons, List.take_succ_cons, List.take_zero, requestC, List.cons.injEq, and_true] at e0 e1 e2
    obtain ⟨rfl, rfl, rfl, rfl, rfl, rfl⟩ := e0
    subst e1 e2
    rfl
theorem decArrivals {H : Type} {enc : TypeId × Value → H} {w : World} {base : Nat} {spare : Nat → Bool} {held : Bool} : Dec enc w base spare held 59 (fun x : Value × List ArrivalD => [x.1]) (fun x => Sl w w.heap.size (some 8) 8 x.1 (x.2.map arrivalV) ∧ ∀ a ∈ x.2, (I64 a.r.id ∧ I64 a.r.lease) ∧ 0 ≤ a.later ∧ a.later ≤ 255) := by
  intro fuel cs x h
  obtain ⟨v, l, e, p, q⟩ := open_slN (k := 8) (g := arrivalV) Tryz.underlying59 KR (by decide) decArrival (fun _ => rfl) h
  exact ⟨(v, l), e, p, q⟩
end Go.Proofs.YtblegjdogmcgbaaGreat
