
/- The library's Sort and Compact on a row of ints of the call's own. -/
import Derived.Test.YtgickfllblmhpaaGreatDoorShelf
import Derived.Lib.RowBridge
import Derived.Test.YtgickfllblmhpaaGreatDoorAuto
import Derived.Sort.OwnSortedInts
namespace Go.Proofs.YtgickfllblmhpaaGreatDoor
set_option linter.unusedSimpArgs false
set_option linter.unusedVariables false
open Go Go.RowKit Go.Sort
set_option maxRecDepth 100000
set_option maxHeartbeats 1000000
abbrev sortI (l : List Int) : List Int := l.mergeSort fun x y => decide (x ≤ y)
section
variable {w : World} {B : Nat} {v : Value} {l : List Int}
theorem flat_intC (l : List Int) : (l.map intC).flatten = l.map (Value.int .i64) := by
  induction l with
  | nil => rfl
  | cons a r ih => simp only [List.map_cons, List.flatten_cons, ih]; rfl
theorem own_intC {w : World} {v : Value} {l : List Int} (h : w.ownsRow B 3 1 v l.length (l.map (Value.int .i64))) (hs : l.length ≤ 140737488355328) : Own w B 3 1 v (l.map intC) :=
  ⟨by rw [flat_intC, List.length_map]; exact h, fun c hc => by obtain ⟨x, _, rfl⟩ := List.mem_map.1 hc; rfl, by rw [List.length_map]; exact hs⟩
theorem call_w {P : Program} {f : FuncId} {args : Array Value} {Φ : Value → World → Prop} {K : Value → World → Prop} (h : CallsV P f args w fun v w' => Below B w w' ∧ Φ v w') (hk : ∀ v w', Now w' → Sa B w w' → Φ v w' → K v w') : CallsV P f args w K :=
  CallsV.mono h fun v w' ⟨hx, hv⟩ => hk v w' trivial (sa_of hx) hv
theorem sortIntsP (hB : B ≤ w.heap.size) (hown : Own w B 3 1 v (l.map intC)) : CallsV Tryz.prog 47 #[v] w fun r w' => Below B w w' ∧ r = .tuple #[] ∧ Own w' B 3 1 v ((sortI l).map intC) := by
  have hsm : l.length ≤ 140737488355328 := by simpa using hown.small
  have hln : (sortI l).length = l.length := List.length_mergeSort _
  rcases hown.1.2 with ⟨rfl, hn0⟩ | ⟨g, cap, cur, rfl, hb, hg, hc1, hc2, hsz, htk⟩
  · have : l = [] := by simpa using hn0
    subst this
    refine Calls.mono (Tryz.slices_Sort_int_none none 0 w) ?_
    rintro e w' ⟨rfl, rfl⟩
    exact ⟨_, rfl, Below.refl _ _, rfl, by simpa [sortI] using hown⟩
  · rw [List.length_map] at hc1 htk ⊢
    rw [flat_intC] at htk
    have hgl : g < w.heap.size := (Array.getElem?_eq_some_iff.1 hg).1
    refine Calls.mono (Tryz.slices_Sort_int g 0 cap l w (holds_of_blockI hg (by simpa using htk)) hgl (by omega)) ?_
    rintro e w' ⟨rfl, n, os, rfl⟩
    have hgr : w.grownBy _ (some g) := grownBy_sortedI (w := w) (n := n) (os := os) (sortI l).toArray
    refine ⟨_, rfl, (Below.refl B w).grown hgr hB (fun k hk => by cases hk; exact hb), rfl, own_intC ?_ (by omega)⟩
    rw [hln]
    exact ownsRow_sortedI (ss := l) (ts := sortI l) hln hb hg hc1 hc2 hsz
theorem compactIntsP (hB : B ≤ w.heap.size) (hown : Own w B 3 1 v (l.map intC)) : CallsV Tryz.prog 48 #[v] w fun r w' => Below B w w' ∧ Own w' B 3 1 r ((Lib.compact l).map intC) := by
  have hsm : l.length ≤ 140737488355328 := by simpa using hown.small
  have hle : (Lib.compact l).length ≤ l.length := Lib.compact_length_le l
  rcases hown.1.2 with ⟨rfl, hn0⟩ | ⟨g, cap, cur, rfl, hb, hg, hc1, hc2, hsz, htk⟩
  · have : l = [] := by simpa using hn0
    subst this
    refine Calls.mono (Tryz.slices_Compact_int_empty none 0 w) ?_
    rintro e w' ⟨rfl, rfl⟩
    exact ⟨_, rfl, Below.refl _ _, by simpa [Lib.compact, Lib.compactUpTo] using hown⟩
  · rw [List.length_map] at hc1 htk ⊢
    rw [flat_intC] at htk
    refine Calls.mono (Tryz.slices_Compact_int g 0 cap l w (holds_of_blockI hg (by simpa using htk)) (by omega) hc1) ?_
    rintro e w' ⟨rfl, q, rfl⟩
    have hgr : w.grownBy (grow (putRow (Value.int .i64) (Sort.ahead w q) g 0 (Lib.compact l ++ List.replicate (l.length - (Lib.compact l).length) 0).toArray) #[]) (some g) := grownBy_sortedI _
    rw [grow_empty] at hgr
    refine ⟨_, rfl, (Below.refl B w).grown hgr hB (fun k hk => by cases hk; exact hb), own_intC ?_ (by omega)⟩
    have ho := ownsRow_sortedI (w := w) (n := q) (os := #[]) (ss := l) (ts := Lib.compact l ++ List.replicate (l.length - (Lib.compact l).length) 0) (by simp; omega) hb hg hc1 hc2 hsz
    rw [grow_empty] at ho
    rcases ho.2 with ⟨h0, _⟩ | ⟨g', cap', cur', e', hb', hg', hc1', hc2', hsz', htk'⟩
    · cases h0
    · cases e'
      refine ⟨by simp, .inr ⟨_, _, cur', rfl, hb', hg', by omega, hc2', hsz', ?_⟩⟩
      rw [Nat.mul_one] at htk' ⊢
      have := congrArg (List.take (Lib.compact l).length) htk'
      rw [List.take_take, Nat.min_eq_left hle] at this
      rw [this, List.map_append, List.take_left' (by simp)]
end
end Go.Proofs.YtgickfllblmhpaaGreatDoor
