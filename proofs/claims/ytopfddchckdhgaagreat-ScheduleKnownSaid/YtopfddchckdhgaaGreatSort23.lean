
/- The library's Sort on a row of ints of the call's own. -/
import Derived.Test.YtopfddchckdhgaaGreatShelf
import Derived.Lib.RowBridge
import Derived.Test.YtopfddchckdhgaaGreatAuto
import Derived.Test.YtopfddchckdhgaaGreatRelT
import Derived.Sort.OwnSortedInts
namespace Go.Proofs.YtopfddchckdhgaaGreat
set_option linter.unusedSimpArgs false
set_option linter.unusedVariables false
open Go Go.RowKit Go.Sort
set_option maxRecDepth 100000
set_option maxHeartbeats 1000000
abbrev sortI (l : List Int) : List Int := l.mergeSort fun x y => decide (x ≤ y)
section
variable {w : World} {B : Nat} {v : Value} {l : List Int}
theorem flat_intC (l : List Int) : (l.map intC).flatten = l.map (Value.int .i64) := by
  induction l with
  | nil => rfl
  | cons a r ih => simp only [List.map_cons, List.flatten_cons, ih]; rfl
theorem own_intC {w : World} {v : Value} {l : List Int} (h : w.ownsRow B 3 1 v l.length (l.map (Value.int .i64))) (hs : l.length ≤ 140737488355328) : Own w B 3 1 v (l.map intC) :=
  ⟨by rw [flat_intC, List.length_map]; exact h, fun c hc => by obtain ⟨x, _, rfl⟩ := List.mem_map.1 hc; rfl, by rw [List.length_map]; exact hs⟩
theorem call_w {P : Program} {f : FuncId} {args : Array Value} {Φ : Value → World → Prop} {K : Value → World → Prop} (h : CallsV P f args w fun v w' => Below B w w' ∧ Φ v w') (hk : ∀ v w', Now w' → Sa B w w' → Φ v w' → K v w') : CallsV P f args w K :=
  CallsV.mono h fun v w' ⟨hx, hv⟩ => hk v w' trivial (sa_of hx) hv
theorem sortIntsP (hB : B ≤ w.heap.size) (hown : Own w B 3 1 v (l.map intC)) : CallsV Tryz.prog 57 #[v] w fun r w' => Below B w w' ∧ r = .tuple #[] ∧ Own w' B 3 1 v ((sortI l).map intC) := by
  have hsm : l.length ≤ 140737488355328 := by simpa using hown.small
  have hln : (sortI l).length = l.length := List.length_mergeSort _
  rcases hown.1.2 with ⟨rfl, hn0⟩ | ⟨g, cap, cur, rfl, hb, hg, hc1, hc2, hsz, htk⟩
  · have : l = [] := by simpa using hn0
    subst this
    refine Calls.mono (Tryz.slices_Sort_int_none none 0 w) ?_
    rintro e w' ⟨rfl, rfl⟩
    exact ⟨_, rfl, Below.refl _ _, rfl, by simpa [sortI] using hown⟩
  · rw [List.length_map] at hc1 htk ⊢
    rw [flat_intC] at htk
    have hgl : g < w.heap.size := (Array.getElem?_eq_some_iff.1 hg).1
    refine Calls.mono (Tryz.slices_Sort_int g 0 cap l w (holds_of_blockI hg (by simpa using htk)) hgl (by omega)) ?_
    rintro e w' ⟨rfl, n, os, rfl⟩
    have hgr : w.grownBy _ (some g) := grownBy_sortedI (w := w) (n := n) (os := os) (sortI l).toArray
    refine ⟨_, rfl, (Below.refl B w).grown hgr hB (fun k hk => by cases hk; exact hb), rfl, own_intC ?_ (by omega)⟩
    rw [hln]
    exact ownsRow_sortedI (ss := l) (ts := sortI l) hln hb hg hc1 hc2 hsz
theorem sortIntsT (hown : Own w B 3 1 v (l.map intC)) : CallsV Tryz.prog 57 #[v] w fun r w' => TBn (fun c => v.ownBlock = some c) w w' ∧ r = .tuple #[] ∧ Own w' B 3 1 v ((sortI l).map intC) := by
  have hsm : l.length ≤ 140737488355328 := by simpa using hown.small
  have hln : (sortI l).length = l.length := List.length_mergeSort _
  rcases hown.1.2 with ⟨rfl, hn0⟩ | ⟨g, cap, cur, rfl, hb, hg, hc1, hc2, hsz, htk⟩
  · have : l = [] := by simpa using hn0
    subst this
    refine Calls.mono (Tryz.slices_Sort_int_none none 0 w) ?_
    rintro e w' ⟨rfl, rfl⟩
    exact ⟨_, rfl, TBn.refl _, rfl, by simpa [sortI] using hown⟩
  · rw [List.length_map] at hc1 htk ⊢
    rw [flat_intC] at htk
    have hgl : g < w.heap.size := (Array.getElem?_eq_some_iff.1 hg).1
    refine Calls.mono (Tryz.slices_Sort_int g 0 cap l w (holds_of_blockI hg (by simpa using htk)) hgl (by omega)) ?_
    rintro e w' ⟨rfl, n, os, rfl⟩
    have hgr : w.grownBy _ (some g) := grownBy_sortedI (w := w) (n := n) (os := os) (sortI l).toArray
    refine ⟨_, rfl, ⟨hgr.os, hgr.tape, hgr.output, hgr.size, fun c hc hne => hgr.block c hc (fun e => hne (by first | exact e | exact e.symm))⟩, rfl, own_intC ?_ (by omega)⟩
    rw [hln]
    exact ownsRow_sortedI (ss := l) (ts := sortI l) hln hb hg hc1 hc2 hsz
theorem sortI_mem {a : Int} : a ∈ sortI l ↔ a ∈ l := (List.mergeSort_perm l _).mem_iff
theorem sortI_asc : (sortI l).Pairwise (· ≤ ·) := (List.pairwise_mergeSort (le := fun x y : Int => decide (x ≤ y)) (fun a b c h1 h2 => by simp at *; omega) (fun a b => by simp; omega) l).imp fun h => by simpa using h
end
end Go.Proofs.YtopfddchckdhgaaGreat
