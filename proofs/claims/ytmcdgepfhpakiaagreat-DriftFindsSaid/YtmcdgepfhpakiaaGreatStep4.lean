
/- The layer step: back, Undo. -/
import Derived.Test.YtmcdgepfhpakiaaGreatStep3
import Derived.Test.YtmcdgepfhpakiaaGreatRef13
namespace Go.Proofs.YtmcdgepfhpakiaaGreat
set_option linter.unusedSimpArgs false
set_option linter.unusedVariables false
open Go Go.RowKit
set_option maxRecDepth 100000
set_option linter.unusedSectionVars false
set_option maxHeartbeats 2000000
section
variable {w : World} {B : Nat} {u : SiteVs} {s : SiteD} {wv hv rv : Value} {l : List SrvV} {x : WorldD} {st : StepD} {wl : List ServiceD}
/-- The beginning of a row that has just been made. -/
theorem row_cut {w : World} {b t n m : Nat} {l : List Value} (hb : Blk w b t l) (hm : m = l.length) (hn : n ≤ m) (hmax : l.length ≤ 9223372036854775807) : Sl w w.heap.size none 1 (.slice (some ⟨b, 0, none⟩) n m) (l.take n) :=
  ⟨trivial, by simp only [lenN, List.length_take]; omega, hn, by simp only [capN]; omega, fun b' h _ => by simp only [blockOf, Option.some.injEq] at h; subst h; exact hb.lt, fun i hi => by
    simp only [List.length_take] at hi
    simp only [elemAt, rdv, rd, Nat.mul_one, add_none, Nat.zero_add, hb.cell, List.getElem_take]
    exact List.getElem?_eq_getElem (by omega)⟩
theorem ready6 (ho : RdyOk s wl x st) (h6 : st.kind = 6) : (hostAt x st.host).phase = 1 ∨ (hostAt x st.host).phase = 2 ∨ (hostAt x st.host).phase = 3 := by
  have := ho.rdy
  simp only [readyK, h6] at this
  simp at this
  omega
def undoL (s : SiteD) (wl : List ServiceD) (x : WorldD) (st : StepD) : List StepD := if applyE s wl x st = 0 then undoS x st else []
def lastB (s : SiteD) (wl : List ServiceD) (x : WorldD) (st : StepD) : Bool := decide (applyE s wl x st = 0) && (undoS x st).isEmpty
def undoF (st : StepD) (k : Int) : StepD := ⟨k, st.host, if k = 1 ∨ k = 2 then st.service else 0, 0⟩
theorem stepC_one (x : StepD) : ∀ v ∈ stepC x, v.oneCell' = true := by
  intro v hv
  simp only [stepC, List.mem_cons, List.not_mem_nil, or_false] at hv
  rcases hv with rfl | rfl | rfl | rfl <;> rfl
theorem appS {w : World} {B b cp : Nat} {sv : Value} {l : List StepD} (x : StepD) {k : Value → World → Prop} (hown : Own w B 50 4 sv (l.map stepC)) (hb : Blk w b 50 (stepC x)) (hbound : l.length < 1000000000000) (hB : B ≤ w.heap.size)
    (h : ∀ v' w', Now w' → Sa B w w' → Own w' B 50 4 v' ((l ++ [x]).map stepC) → k v' w') : appX Tryz.prog 37 37 37 sv (.slice (some ⟨b, 0, none⟩) 1 cp) w k :=
  append_k (e := 50) (sz := 4) (by_ := 32) (z := .agg #[.int .u8 0, .int .i64 0, .int .i64 0, .int .i64 0]) (c := stepC) x KR KR rfl (by decide) (by decide) hown hb rfl (stepC_one x) hbound hB h
theorem undoK_len (x : WorldD) (st : StepD) : (undoK x st).length ≤ 3 := by
  unfold undoK
  (repeat' split) <;> simp
theorem len_empty {α : Type} (l : List α) : ((l.length : Int) == 0) = l.isEmpty := by cases l <;> simp <;> omega
end
end Go.Proofs.YtmcdgepfhpakiaaGreat
