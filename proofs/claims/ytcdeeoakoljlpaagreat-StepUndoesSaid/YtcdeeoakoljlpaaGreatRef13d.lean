
/- The document's answer, layer 13, and the layer world: Where, Runs, Used. -/
import Derived.Test.YtcdeeoakoljlpaaGreatRef13c
namespace Go.Proofs.YtcdeeoakoljlpaaGreat
set_option linter.unusedSimpArgs false
set_option linter.unusedVariables false
open Go Go.RowKit
set_option maxRecDepth 100000
set_option linter.unusedSectionVars false
set_option maxHeartbeats 1000000
theorem filter_take {α : Type} {l : List α} {k : Nat} (h : k < l.length) (p : α → Bool) : (l.take (k + 1)).filter p = (l.take k).filter p ++ if p l[k] = true then [l[k]] else [] := by
  rw [List.take_succ_eq_append_getElem h, List.filter_append]
  congr 1
  rw [List.filter_cons]
  split <;> simp_all
theorem where_take {l : List ReplicaD} {k : Nat} (h : k < l.length) (svc : Int) : whereF svc (l.take (k + 1)) = whereF svc (l.take k) ++ if l[k].service = svc then [l[k].host] else [] := by
  unfold whereF
  rw [filter_take h, List.map_append]
  congr 1
  by_cases e : l[k].service = svc <;> simp [e]
theorem where_len (l : List ReplicaD) (svc : Int) : (whereF svc l).length ≤ l.length := by
  unfold whereF
  rw [List.length_map]
  exact List.length_filter_le _ _
theorem app_int {w : World} {B b cp : Nat} {s : Value} {l : List Int} (x : Int) {k : Value → World → Prop} (hown : Own w B 3 1 s (l.map intC)) (hb : Blk w b 3 [.int .i64 x]) (hbound : l.length < 1000000000000) (hB : B ≤ w.heap.size)
    (h : ∀ v' w', Now w' → Sa B w w' → Own w' B 3 1 v' ((l ++ [x]).map intC) → k v' w') : appX Tryz.prog 88 88 88 s (.slice (some ⟨b, 0, none⟩) 1 cp) w k :=
  append_k (e := 3) (sz := 1) (by_ := 8) (z := .int .i64 0) (c := intC) x (by kernel_rfl) (by kernel_rfl) rfl (by decide) (by decide) hown hb rfl (by simp [intC, intV, one_int]) hbound hB h
section
variable {w : World} {B : Nat} {u : SiteVs} {s : SiteD} {wv hv rv : Value} {l : List SrvV} {x : WorldD}
end
end Go.Proofs.YtcdeeoakoljlpaaGreat
