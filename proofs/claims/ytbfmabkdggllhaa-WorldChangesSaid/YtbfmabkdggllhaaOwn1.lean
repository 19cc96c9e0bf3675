/- A store of one field into a row of the call's own. -/
import Derived.Test.YtbfmabkdggllhaaLaw13b
namespace Go.Proofs.Ytbfmabkdggllhaa
set_option linter.unusedSimpArgs false
set_option linter.unusedVariables false
open Go Go.RowKit
set_option maxRecDepth 100000
set_option linter.unusedSectionVars false
set_option maxHeartbeats 1000000
theorem flat_set1 {k off : Nat} (u : Value) (ho : off < k) : ∀ (l : List (List Value)) (i : Nat) (h : i < l.length), (∀ c ∈ l, c.length = k) → l.flatten.set (i * k + off) u = (l.set i ((l[i]).set off u)).flatten
  | [], i, h, _ => absurd h (by simp)
  | a :: l, 0, _, hc => by
    have ha := hc a (List.mem_cons_self ..)
    simp only [List.flatten_cons, Nat.zero_mul, Nat.zero_add, List.set_cons_zero, List.getElem_cons_zero]
    rw [List.set_append_left _ _ (by omega)]
  | a :: l, i + 1, h, hc => by
    have ha := hc a (List.mem_cons_self ..)
    simp only [List.flatten_cons, List.set_cons_succ, List.getElem_cons_succ]
    rw [List.set_append_right _ _ (by rw [ha, Nat.succ_mul]; omega), ha, show (i + 1) * k + off - k = i * k + off by rw [Nat.succ_mul]; omega, flat_set1 u ho l i (by simpa using h) fun c hc' => hc c (List.mem_cons_of_mem _ hc')]
section
variable {w : World} {B e sz : Nat} {v : Value} {cs : List (List Value)}
theorem own_set1 {t' i off : Nat} {u : Value} {f : World → Prop} (ht : tyK Try.prog t' = some none) (hown : Own w B e sz v cs) (hi : i < cs.length) (hoff : off < sz) (hu : u.oneCell' = true)
    (h : ∀ b w', Now w' → blockOf v = some b → B ≤ b → b < w.heap.size → Own w' B e sz v (cs.set i ((cs[i]).set off u)) → Sc w w' b → Cg b w w' → f w') : storeX Try.prog t' (addF (elemAt v sz i) off) u w f := by
  rcases hown.1.2 with ⟨rfl, hn⟩ | ⟨g, cap, cur, rfl, hbg, hg, hnc, hcm, hcs, htake⟩
  · omega
  · have hle : i * sz + off < cs.length * sz := by
      have := Nat.mul_le_mul_right sz (Nat.succ_le_of_lt hi)
      rw [Nat.succ_mul] at this
      omega
    have hcap : cs.length * sz ≤ cap * sz := Nat.mul_le_mul_right _ hnc
    have hb : Blk w g e cur.toList := hg
    have he : addF (elemAt (.slice (some ⟨g, 0, none⟩) cs.length cap) sz i) off = .pointer (some ⟨g, i * sz + off, none⟩) := by
      simp only [elemAt, addF, add_none, Nat.zero_add]
    rw [he]
    refine store_intro ht hb (by rw [Array.length_toList, hcs]; omega) hu fun w' hb' hc => ?_
    have hall : ∀ c ∈ cs.set i ((cs[i]).set off u), c.length = sz := by
      intro c hc
      rcases List.mem_or_eq_of_mem_set hc with hc | rfl
      · exact hown.each c hc
      · rw [List.length_set]; exact hown.each _ (List.getElem_mem hi)
    refine h g w' trivial rfl hbg hb.lt (own_of_blk hb' (by rw [List.length_set]) hnc hcm (by rw [List.length_set, Array.length_toList, hcs]) ?_ hall hbg (by rw [List.length_set]; exact hown.small)) hc.sc hc
    rw [List.take_set, htake]
    exact flat_set1 u hoff cs i hi hown.each
end
end Go.Proofs.Ytbfmabkdggllhaa
