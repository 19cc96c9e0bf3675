/- A store of a whole struct into a row of the call's own. -/
import Derived.Test.YtbfmabkdggllhaaRow2
namespace Go.Proofs.Ytbfmabkdggllhaa
set_option linter.unusedSimpArgs false
set_option linter.unusedVariables false
open Go Go.RowKit
set_option maxRecDepth 100000
set_option linter.unusedSectionVars false
set_option maxHeartbeats 1000000
theorem flat_take {k : Nat} : ∀ (l : List (List Value)) (i : Nat), (∀ c ∈ l, c.length = k) → l.flatten.take (i * k) = (l.take i).flatten
  | [], _, _ => by simp
  | a :: l, 0, _ => by simp
  | a :: l, i + 1, h => by
    have ha := h a (List.mem_cons_self ..)
    rw [List.flatten_cons, List.take_succ_cons, List.flatten_cons, Nat.succ_mul, List.take_append, List.take_of_length_le (by omega), ha, Nat.add_sub_cancel, flat_take l i (fun c hc => h c (List.mem_cons_of_mem _ hc))]
theorem flat_drop {k : Nat} : ∀ (l : List (List Value)) (i : Nat), (∀ c ∈ l, c.length = k) → l.flatten.drop (i * k) = (l.drop i).flatten
  | [], _, _ => by simp
  | a :: l, 0, _ => by simp
  | a :: l, i + 1, h => by
    have ha := h a (List.mem_cons_self ..)
    rw [List.flatten_cons, List.drop_succ_cons, Nat.succ_mul, List.drop_append, List.drop_eq_nil_of_le (by omega), ha, Nat.add_sub_cancel, List.nil_append, flat_drop l i (fun c hc => h c (List.mem_cons_of_mem _ hc))]
theorem flat_set {k i : Nat} {l : List (List Value)} {cur vs : List Value} (hl : ∀ c ∈ l, c.length = k) (hi : i < l.length) (hv : vs.length = k) (hc : cur.take (l.length * k) = l.flatten) :
    (cur.take (i * k) ++ vs ++ cur.drop (i * k + k)).take (l.length * k) = (l.set i vs).flatten := by
  have h1 : i * k + k ≤ l.length * k := by
    have := Nat.mul_le_mul_right k (Nat.succ_le_of_lt hi)
    rw [Nat.succ_mul] at this
    exact this
  have hlen : (cur.take (l.length * k)).length = l.length * k := by rw [hc, flat_len _ hl]
  have hcl : l.length * k ≤ cur.length := by rw [List.length_take] at hlen; omega
  have e1 : cur.take (i * k) = (l.take i).flatten := by
    rw [← flat_take l i hl, ← hc, List.take_take, Nat.min_eq_left (by omega)]
  have e2 : (cur.drop (i * k + k)).take (l.length * k - (i * k + k)) = (l.drop (i + 1)).flatten := by
    rw [← flat_drop l (i + 1) hl, ← hc, Nat.succ_mul, List.drop_take]
  have e3 : (cur.take (i * k) ++ vs).length = i * k + k := by rw [List.length_append, List.length_take, hv]; omega
  rw [List.take_append, e3, List.take_of_length_le (by omega), e2, e1, List.set_eq_take_append_cons_drop, if_pos hi, List.flatten_append, List.flatten_cons, List.append_assoc]
section
variable {w : World} {B e sz : Nat} {v : Value} {cs : List (List Value)}
theorem own_set {t' i : Nat} {vs : List Value} {f : World → Prop} (ht : tyK Try.prog t' = some (some sz)) (hsz : 0 < sz) (hown : Own w B e sz v cs) (hi : i < cs.length) (hl : vs.length = sz) (h1 : ∀ u ∈ vs, u.oneCell' = true)
    (h : ∀ b w', Now w' → blockOf v = some b → B ≤ b → b < w.heap.size → Own w' B e sz v (cs.set i vs) → Sc w w' b → Cg b w w' → f w') : storeX Try.prog t' (elemAt v sz i) (.agg vs.toArray) w f := by
  obtain ⟨ti, hti, hts⟩ := tyK_agg ht
  rcases hown.1.2 with ⟨rfl, hn⟩ | ⟨g, cap, cur, rfl, hbg, hg, hnc, hcm, hcs, htake⟩
  · omega
  · have hle : i * sz + sz ≤ cs.length * sz := by
      have := Nat.mul_le_mul_right sz (Nat.succ_le_of_lt hi)
      rw [Nat.succ_mul] at this
      exact this
    have hcap : cs.length * sz ≤ cap * sz := Nat.mul_le_mul_right _ hnc
    have hst := run_storeCells_at Try.prog g (i * sz) e vs 0 cur w hg (by simp only [Nat.add_zero]; omega) h1
    simp only [Nat.add_zero, hl] at hst
    have hrun : (Instr.storeAt t' (elemAt (.slice (some ⟨g, 0, none⟩) cs.length cap) sz i) (.agg vs.toArray)).run Try.prog w = .ok () (w.setRow g (cur.toList.take (i * sz) ++ vs ++ cur.toList.drop (i * sz + sz)).toArray) := by
      simp [Instr.storeAt, Instr.sureAddr, storeVar, Value.cells, run_sizeOf' hti, hts, hl, elemAt, add_none]
      simpa using hst
    unfold storeX
    rw [hrun]
    have hcg := chg_row w g (cur.toList.take (i * sz) ++ vs ++ cur.toList.drop (i * sz + sz)).toArray
    have hset := flat_set hown.each hi hl htake
    have hall : ∀ c ∈ cs.set i vs, c.length = sz := by
      intro c hc
      rcases List.mem_or_eq_of_mem_set hc with hc | rfl
      · exact hown.each c hc
      · exact hl
    have hlen : (cs.set i vs).length = cs.length := List.length_set
    refine h g _ trivial rfl hbg (Array.getElem?_eq_some_iff.1 hg).1 ⟨⟨by rw [flat_len _ hall], .inr ⟨g, cap, _, by rw [hlen], hbg, setRow_heap w g cur _ e _ hg, by rw [hlen]; exact hnc, hcm, ?_, ?_⟩⟩, hall, by rw [hlen]; exact hown.small⟩ hcg.sc hcg
    · simp only [List.size_toArray, List.length_append, List.length_take, List.length_drop, Array.length_toList, hl]
      omega
    · rw [hlen, List.toList_toArray]
      exact hset
end
end Go.Proofs.Ytbfmabkdggllhaa
