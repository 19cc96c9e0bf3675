/- Own rows: cut at their end, cleared behind a place; loops that begin later. -/
import Derived.Test.YtbfmabkdggllhaaStart13
namespace Go.Proofs.Ytbfmabkdggllhaa
set_option linter.unusedSimpArgs false
set_option linter.unusedVariables false
open Go Go.RowKit
set_option maxRecDepth 100000
set_option linter.unusedSectionVars false
set_option maxHeartbeats 1000000
/-- A loop over s .. N-1; what is known of the world stands in what holds. -/
theorem loop_f {P : Program} {n : Nat} {c : Code} {Q : Exit → Fr → World → Prop} {g : Fr} {w : World} (s N : Nat) (I : Fr → Nat → Fr → World → Prop) (hd : dstsOk n c = true) (hs : s ≤ N) (h0 : I g s g w)
    (more : ∀ k m g' w', k + m = N → k < N → Now w' → I g k g' w' → wpx P n c (thenX (nextG N (I g) m) Q) g' w')
    (last : ∀ g' w', Now w' → I g N g' w' → wpx P n c (thenX (nextG N (I g) 0) Q) g' w') : loopX P n c Q g w := by
  refine loopX_intro (fun m g' w' => ∃ k, k + m = N ∧ I g k g' w') (N - s) hd ⟨s, by omega, h0⟩ ?_
  rintro m g' w' ⟨k, hk, hI⟩
  rcases Nat.lt_or_ge k N with hlt | hge
  · exact more k m g' w' hk hlt trivial hI
  · have : k = N := by omega
    subst this
    obtain rfl : m = 0 := by omega
    exact last g' w' trivial hI
section
variable {w : World} {B e sz : Nat} {v : Value} {cs : List (List Value)}
/-- Lengths of an own row. -/
abbrev OwnL (v : Value) (n : Nat) : Prop := lenN v = n ∧ lenN v ≤ capN v ∧ capN v ≤ 9223372036854775807
theorem Own.l (h : Own w B e sz v cs) : OwnL v cs.length := by
  rcases h.1.2 with ⟨rfl, hn⟩ | ⟨g, cap, cur, rfl, hb, hg, hc1, hc2, hsz, htk⟩
  · exact ⟨hn.symm, Nat.le_refl _, by simp [capN]⟩
  · exact ⟨rfl, hc1, hc2⟩
theorem own_cut (h : Own w B e sz v cs) {n : Nat} (hn : n ≤ cs.length) : Own w B e sz (cutV sz v 0 n (capN v)) (cs.take n) := by
  have hl : (cs.take n).length = n := by rw [List.length_take]; omega
  have hall : ∀ c ∈ cs.take n, c.length = sz := fun c hc => h.each c (List.mem_of_mem_take hc)
  refine ⟨⟨by rw [flat_len _ hall], ?_⟩, hall, Nat.le_trans (by rw [hl]; exact hn) h.small⟩
  rcases h.1.2 with ⟨rfl, hz⟩ | ⟨g, cap, cur, rfl, hb, hg, hc1, hc2, hsz, htk⟩
  · left
    have : n = 0 := by omega
    subst this
    exact ⟨rfl, by simp⟩
  · right
    refine ⟨g, cap, cur, ?_, hb, hg, by omega, hc2, hsz, ?_⟩
    · rw [hl]
      simp only [cutV, capN, Nat.sub_zero, Nat.zero_mul, Option.map_some]
      split <;> rfl
    · rw [hl, ← flat_take cs n h.each, ← htk, List.take_take, Nat.min_eq_left (Nat.mul_le_mul_right _ hn)]
theorem zc_list (z : Array Value) (n : Nat) : (Builtin.zeroCells z n).toList.length = n * z.size := by simp [Builtin.zeroCells]
theorem own_clear {t ty n by_ N : Nat} {z : Value} {f : Value → World → Prop} (hsl : slOf Try.prog t = some (e, sz, by_)) (hz : zeroElt Try.prog t = some z) (hzs : z.cells.size = sz) (hz1 : z.cells.toList.all (fun u => u.oneCell') = true) (hown : Own w B e sz v cs) (hn : n ≤ cs.length) (hB : B ≤ w.heap.size) (hN : N = lenN v)
    (h : ∀ w', Now w' → Own w' B e sz (cutV sz v 0 n (capN v)) (cs.take n) → Below B w w' → f (.tuple #[]) w') : clearX Try.prog t ty (cutV sz v n N (capN v)) w f := by
  subst hN
  obtain ⟨i, hu, hi, hs, hby⟩ := slOf_parts hsl
  have hz' : i.zero = some z := by
    unfold zeroElt at hz
    rw [hsl] at hz
    simpa [zeroOf, hi] using hz
  have hcut := own_cut hown hn
  rcases hown.1.2 with ⟨rfl, hn0⟩ | ⟨g, cap, cur, rfl, hb, hg, hc1, hc2, hsz, htk⟩
  · have hn : n = 0 := by omega
    subst hn
    exact runsV_ok (w' := w) (v := .tuple #[]) (by simp [Builtin.clear_, cutV, run_underlying hu, capN]) (h w trivial hcut (Below.refl _ _))
  · by_cases e0 : cs.length - n = 0
    · exact runsV_ok (w' := w) (v := .tuple #[]) (by by_cases hc : cap = n <;> simp [Builtin.clear_, cutV, lenN, capN, e0, hc, run_underlying hu]) (h w trivial hcut (Below.refl _ _))
    · have hne : ¬ cap = n := by omega
      have hle : cs.length * sz ≤ cap * sz := Nat.mul_le_mul_right _ hc1
      have hlen : n * sz + (cs.length - n) * sz = cs.length * sz := by rw [← Nat.add_mul]; congr 1; omega
      have hzl := zc_list z.cells (cs.length - n)
      rw [hzs] at hzl
      have hst := run_storeCells_at Try.prog g (n * sz) e (Builtin.zeroCells z.cells (cs.length - n)).toList 0 cur w hg (by simp only [Nat.add_zero, hzl]; omega) (fun u hu => by
        have h9 := List.all_eq_true.1 hz1
        rw [Builtin.zeroCells, Array.toList_map, List.mem_map] at hu
        obtain ⟨j, hj, rfl⟩ := hu
        rcases Nat.lt_or_ge (j % z.cells.size) z.cells.size with hlt | hge
        · rw [getElem!_pos z.cells _ hlt]
          exact h9 _ (by simp)
        · exact absurd hge (by
            have : 0 < z.cells.size := by
              rcases Nat.eq_zero_or_pos z.cells.size with h0 | h0
              · rw [h0] at hj; simp at hj
              · exact h0
            have := Nat.mod_lt j this
            omega))
      simp only [Nat.add_zero, hzl] at hst
      have hrun : (Builtin.clear_ #[t] ty #[cutV sz (.slice (some ⟨g, 0, none⟩) cs.length cap) n cs.length cap]).run Try.prog w = .ok (.tuple #[]) (w.setRow g (cur.toList.take (n * sz) ++ (Builtin.zeroCells z.cells (cs.length - n)).toList ++ cur.toList.drop (n * sz + (cs.length - n) * sz)).toArray) := by
        have h8 : ∃ m, cs.length - n = m + 1 := ⟨cs.length - n - 1, by omega⟩
        obtain ⟨m, hm⟩ := h8
        simp only [cutV, hne, if_false, Option.map_some, add_none, Nat.zero_add]
        rw [hm] at hst ⊢
        simp [Builtin.clear_, run_underlying hu, zeroValue, typeInfo, hi, hz']
        rw [hst]
        simp [Result.andThen]
      refine runsV_ok hrun (h _ trivial ?_ ?_)
      · have hl : (cs.take n).length = n := by rw [List.length_take]; omega
        refine ⟨⟨hcut.1.1, .inr ⟨g, cap, _, ?_, hb, setRow_heap w g cur _ e _ hg, by omega, hc2, ?_, ?_⟩⟩, hcut.each, hcut.small⟩
        · rw [hl]
          simp only [cutV, capN, Nat.sub_zero, Nat.zero_mul, Option.map_some]
          split <;> rfl
        · simp only [List.size_toArray, List.length_append, List.length_take, List.length_drop, Array.length_toList, hzl]
          omega
        · have hnc : n * sz ≤ cap * sz := Nat.mul_le_mul_right _ (by omega)
          rw [hl, List.toList_toArray, List.append_assoc, List.take_append_of_le_length (by rw [List.length_take, Array.length_toList]; omega), List.take_take, Nat.min_self, ← flat_take cs n hown.each, ← htk, List.take_take, Nat.min_eq_left (Nat.mul_le_mul_right _ hn)]
      · exact (chg_row w g _).below hb hB
end
end Go.Proofs.Ytbfmabkdggllhaa
