
/- What made makes is a valid order: no program is walked here. -/
import Derived.Test.YteeaccnklkcchaaDoorRows10
namespace Go.Proofs.YteeaccnklkcchaaDoor
set_option linter.unusedSimpArgs false
set_option linter.unusedVariables false
open Go Go.RowKit
set_option maxRecDepth 100000
set_option linter.unusedSectionVars false
theorem asc_of_pair {l : List Int} (h : l.Pairwise (· < ·)) : ascL l = true := by
  cases l with
  | nil => rfl
  | cons a r => exact asc_pair h
theorem walk_pos {ls : List (List Nat)} {pos : Nat → Nat} (h : ∀ i k, k ∈ ls.getD i [] → pos k < pos i) : ∀ {m i j : Nat}, Wk ls m i j → pos j + m ≤ pos i
  | 0, _, _, e => by cases e; exact Nat.le_refl _
  | m + 1, i, j, ⟨k, hk, hw⟩ => by
    have h1 := h i k hk
    have h2 := walk_pos h hw
    omega
theorem made_ok {A : List (List Int)} {pos : Nat → Nat} (h12 : A.length ≤ 12) (hasc : ∀ i (h : i < A.length), A[i].Pairwise (· < ·)) (hr : ∀ i (h : i < A.length), ∀ k ∈ A[i], 0 ≤ k ∧ k < A.length ∧ pos k.toNat < pos i) : (ofS A).1 = 0 := by
  have h1 : ¬ 12 < A.length := by omega
  have h2 : A.all ascL = true := by
    rw [List.all_eq_true]
    intro l hl
    obtain ⟨i, hi, rfl⟩ := List.getElem_of_mem hl
    exact asc_of_pair (hasc i hi)
  have h3 : badB A.length 0 A = false := by
    cases h : badB A.length 0 A with
    | false => rfl
    | true =>
      obtain ⟨j, hj, k, hk, ho⟩ := badB_iff.1 h
      obtain ⟨a, b, c⟩ := hr j hj k hk
      simp only [offB, Bool.or_eq_true, decide_eq_true_eq, Nat.zero_add] at ho
      rcases ho with (ho | ho) | ho
      · omega
      · omega
      · subst ho
        rw [Int.toNat_natCast] at c
        omega
  have h4 : cycB A = false := by
    cases h : cycB A with
    | false => rfl
    | true =>
      refine absurd (fun i m hm hw => ?_) (cycB_iff.1 h)
      have := walk_pos (pos := pos) (fun i k hk => ?_) hw
      · omega
      · have hi : i < A.length := by have := mem_lt hk; rwa [natA_len] at this
        rw [natA_get hi] at hk
        obtain ⟨y, hy, rfl⟩ := List.mem_map.1 hk
        exact (hr i hi y hy).2.2
  rw [← refErr_eq, refErr, if_neg h1, h2, h3, h4]
  rfl
/-- Rows while they are filled. -/
structure RI (nm : List Nat) (i j : Nat) (ll : List (List Int)) : Prop where
  len : ll.length = nm.length
  mem : ∀ a (_ : a < nm.length), ∀ x ∈ ll.getD nm[a] [], ∃ c, ∃ h : c < nm.length, x = (nm[c] : Int) ∧ c < a ∧ (a < i ∨ a = i ∧ c < j)
  nd : ∀ a (_ : a < nm.length), (ll.getD nm[a] []).Nodup
/-- The names. -/
structure NM (k : Nat) (nm : List Nat) : Prop where
  len : nm.length = k
  nd : nm.Nodup
  lt : ∀ x ∈ nm, x < k
theorem NM.start (k : Nat) : NM k (List.range k) := ⟨by simp, List.nodup_range, fun x h => List.mem_range.1 h⟩
theorem swap_perm {i j : Nat} {nm : List Nat} (hi : i < nm.length) (hj : j < nm.length) (e : i ≠ j) : ((nm.set i nm[j]).set j nm[i]).Perm nm := by
  rw [List.perm_iff_count]
  intro a
  rw [List.count_set (by simpa using hj), List.count_set hi, List.getElem_set_ne e]
  have h1 : nm[i] = a → 0 < nm.count a := fun h => List.count_pos_iff.2 (h ▸ List.getElem_mem hi)
  have h2 : nm[j] = a → 0 < nm.count a := fun h => List.count_pos_iff.2 (h ▸ List.getElem_mem hj)
  by_cases c1 : nm[i] = a <;> by_cases c2 : nm[j] = a <;> simp [c1, c2] <;> omega
theorem NM.swap {k i j : Nat} {nm : List Nat} (h : NM k nm) (hi : i < nm.length) (hj : j < nm.length) : NM k ((nm.set i nm[j]).set j nm[i]) := by
  have hp : ((nm.set i nm[j]).set j nm[i]).Perm nm := by
    by_cases e : i = j
    · subst e
      simp
    · exact swap_perm hi hj e
  exact ⟨by simp [h.len], hp.nodup_iff.2 h.nd, fun x hx => h.lt x (hp.mem_iff.1 hx)⟩
theorem RI.start {nm : List Nat} {k : Nat} (h : nm.length = k) : RI nm 0 0 (List.replicate k []) := by
  have hg : ∀ x : Nat, (List.replicate k ([] : List Int)).getD x [] = [] := fun x => by
    rw [List.getD_eq_getElem?_getD, List.getElem?_replicate]
    split <;> rfl
  exact ⟨by simp [h], fun a ha x hx => (by rw [hg] at hx; cases hx), fun a ha => (by rw [hg]; exact List.nodup_nil)⟩
theorem RI.skip {nm : List Nat} {i j : Nat} {ll : List (List Int)} (h : RI nm i j ll) : RI nm i (j + 1) ll :=
  ⟨h.len, fun a ha x hx => by
    obtain ⟨c, hc, e, h1, h2⟩ := h.mem a ha x hx
    exact ⟨c, hc, e, h1, by omega⟩, h.nd⟩
theorem RI.next {nm : List Nat} {i : Nat} {ll : List (List Int)} (h : RI nm i i ll) : RI nm (i + 1) 0 ll :=
  ⟨h.len, fun a ha x hx => by
    obtain ⟨c, hc, e, h1, h2⟩ := h.mem a ha x hx
    exact ⟨c, hc, e, h1, by omega⟩, h.nd⟩
theorem nd_inj {nm : List Nat} (h : nm.Nodup) {a b : Nat} (ha : a < nm.length) (hb : b < nm.length) (e : nm[a] = nm[b]) : a = b := by
  have hp := List.pairwise_iff_getElem.1 h
  rcases Nat.lt_trichotomy a b with h1 | h1 | h1
  · exact absurd e (hp a b ha hb h1)
  · exact h1
  · exact absurd e.symm (hp b a hb ha h1)
theorem RI.bound {nm : List Nat} {i j : Nat} {ll : List (List Int)} (h : RI nm i j ll) {a : Nat} (ha : a < nm.length) : (ll.getD nm[a] []).length ≤ nm.length := by
  have hsub : ll.getD nm[a] [] ⊆ nm.map fun n : Nat => (n : Int) := fun x hx => by
    obtain ⟨c, hc, rfl, _⟩ := h.mem a ha x hx
    exact List.mem_map.2 ⟨_, List.getElem_mem hc, rfl⟩
  have := List.Nodup.length_le_of_subset (h.nd a ha) hsub
  simpa using this
theorem RI.put {nm : List Nat} {i j : Nat} {ll : List (List Int)} (h : RI nm i j ll) (hn : nm.Nodup) (hlt : ∀ x ∈ nm, x < ll.length) (hi : i < nm.length) (hj : j < i) : RI nm i (j + 1) (ll.set nm[i] (ll.getD nm[i] [] ++ [(nm[j]'(by omega) : Int)])) := by
  have hrl : nm[i] < ll.length := hlt _ (List.getElem_mem hi)
  have hg : ∀ a (ha : a < nm.length), (ll.set nm[i] (ll.getD nm[i] [] ++ [(nm[j]'(by omega) : Int)])).getD nm[a] [] = if a = i then ll.getD nm[i] [] ++ [(nm[j]'(by omega) : Int)] else ll.getD nm[a] [] := fun a ha => by
    by_cases e : a = i
    · subst e
      rw [if_pos rfl, List.getD_eq_getElem?_getD, List.getElem?_set_self hrl]
      rfl
    · have : nm[i] ≠ nm[a] := fun e2 => e (nd_inj hn ha hi e2.symm)
      rw [if_neg e, List.getD_eq_getElem?_getD, List.getElem?_set_ne this, ← List.getD_eq_getElem?_getD]
  refine ⟨by rw [List.length_set, h.len], fun a ha x hx => ?_, fun a ha => ?_⟩
  · rw [hg a ha] at hx
    by_cases e : a = i
    · subst e
      rw [if_pos rfl] at hx
      rcases List.mem_append.1 hx with hx | hx
      · obtain ⟨c, hc, e, h1, h2⟩ := h.mem a ha x hx
        exact ⟨c, hc, e, h1, by omega⟩
      · obtain rfl := List.mem_singleton.1 hx
        exact ⟨j, by omega, rfl, hj, by omega⟩
    · rw [if_neg e] at hx
      obtain ⟨c, hc, e, h1, h2⟩ := h.mem a ha x hx
      exact ⟨c, hc, e, h1, by omega⟩
  · rw [hg a ha]
    by_cases e : a = i
    · subst e
      rw [if_pos rfl, List.nodup_append]
      refine ⟨h.nd a ha, by simp, fun x hx y hy => ?_⟩
      obtain rfl := List.mem_singleton.1 hy
      obtain ⟨c, hc, e, h1, h2⟩ := h.mem a ha x hx
      subst e
      intro e2
      have : c = j := nd_inj hn hc (by omega) (by omega)
      omega
    · rw [if_neg e]
      exact h.nd a ha
abbrev sortI10 (l : List Int) : List Int := l.mergeSort fun x y => decide (x ≤ y)
theorem sort_lt {l : List Int} (h : l.Nodup) : (sortI10 l).Pairwise (· < ·) := by
  have h1 : (sortI10 l).Pairwise fun a b => decide (a ≤ b) = true := List.pairwise_mergeSort (fun a b c hab hbc => by simp at *; omega) (fun a b => by simp; omega) l
  have h2 : (sortI10 l).Nodup := (List.mergeSort_perm _ _).nodup_iff.2 h
  have := h1.and h2
  refine this.imp fun {a b} hab => ?_
  have h3 := hab.1
  have h4 := hab.2
  simp only [decide_eq_true_eq] at h3
  omega
/-- Rows while they are sorted: the first i are. -/
def srt (ll : List (List Int)) (i : Nat) : List (List Int) := (List.range ll.length).map fun r => if r < i then sortI10 (ll.getD r []) else ll.getD r []
theorem srt_len (ll : List (List Int)) (i : Nat) : (srt ll i).length = ll.length := by simp [srt]
theorem srt_get {ll : List (List Int)} {i r : Nat} (h : r < ll.length) : (srt ll i).getD r [] = if r < i then sortI10 (ll.getD r []) else ll.getD r [] := by
  unfold srt
  rw [List.getD_eq_getElem?_getD, List.getElem?_map, List.getElem?_range h]
  rfl
theorem srt_zero (ll : List (List Int)) : srt ll 0 = ll := by
  apply List.ext_getElem (by simp [srt])
  intro i h1 h2
  simp [srt, List.getD_eq_getElem?_getD, List.getElem?_eq_getElem h2]
theorem srt_step {ll : List (List Int)} {i : Nat} (h : i < ll.length) : (srt ll i).set i (sortI10 ((srt ll i).getD i [])) = srt ll (i + 1) := by
  rw [srt_get h, if_neg (Nat.lt_irrefl _)]
  apply List.ext_getElem (by simp [srt])
  intro r h1 h2
  simp only [srt, List.getElem_set, List.getElem_map, List.getElem_range]
  by_cases e : i = r
  · subst e; simp
  · rw [if_neg e]
    by_cases h3 : r < i
    · simp [h3, show r < i + 1 by omega]
    · simp [h3, show ¬ r < i + 1 by omega]
theorem rows_valid {nm : List Nat} {k : Nat} {ll : List (List Int)} (hN : NM k nm) (h : RI nm k 0 ll) (h12 : k ≤ 12) : (ofS (srt ll ll.length)).1 = 0 ∧ (srt ll ll.length).length = k := by
  have hll : ll.length = k := h.len.trans hN.len
  have hsur : ∀ r, r < k → ∃ a, ∃ ha : a < nm.length, nm[a] = r := fun r hr => by
    have hm : r ∈ nm := Classical.byContradiction fun hm => by
      have hsub : (r :: nm) ⊆ List.range k := fun x hx => by
        rcases List.mem_cons.1 hx with rfl | hx
        · exact List.mem_range.2 hr
        · exact List.mem_range.2 (hN.lt x hx)
      have := List.Nodup.length_le_of_subset (List.nodup_cons.2 ⟨hm, hN.nd⟩) hsub
      simp only [List.length_cons, List.length_range, hN.len] at this
      omega
    obtain ⟨a, ha, e⟩ := List.getElem_of_mem hm
    exact ⟨a, ha, e⟩
  have hsl : (srt ll ll.length).length = k := by rw [srt_len, hll]
  have hrow : ∀ i (hi : i < (srt ll ll.length).length), (srt ll ll.length)[i] = sortI10 (ll.getD i []) := fun i hi => by
    have h1 := srt_get (ll := ll) (i := ll.length) (r := i) (by omega)
    rw [if_pos (by omega), List.getD_eq_getElem?_getD, List.getElem?_eq_getElem hi] at h1
    exact h1
  refine ⟨made_ok (pos := fun x => nm.idxOf x) (by omega) (fun i hi => ?_) (fun i hi x hx => ?_), hsl⟩
  · rw [hrow i hi]
    obtain ⟨a, ha, e⟩ := hsur i (by omega)
    have := h.nd a ha
    rw [e] at this
    exact sort_lt this
  · rw [hrow i hi, List.mem_mergeSort] at hx
    obtain ⟨a, ha, e⟩ := hsur i (by omega)
    rw [← e] at hx
    obtain ⟨c, hc, rfl, h1, _⟩ := h.mem a ha x hx
    have hcl := hN.lt _ (List.getElem_mem hc)
    refine ⟨by omega, by omega, ?_⟩
    rw [Int.toNat_natCast, ← e, List.Nodup.idxOf_getElem hN.nd c hc, List.Nodup.idxOf_getElem hN.nd a ha]
    exact h1
end Go.Proofs.YteeaccnklkcchaaDoor
