
/- The examples of OrderKnown: twelve elements without any order, and in one line: no program is walked here. -/
import Derived.Test.YteeaccnklkcchaaDoorWorks10
namespace Go.Proofs.YteeaccnklkcchaaDoor
set_option linter.unusedSimpArgs false
set_option linter.unusedVariables false
open Go Go.RowKit
set_option maxRecDepth 100000
set_option linter.unusedSectionVars false
set_option maxHeartbeats 2000000
def kcs : List (List (List Int) × Int) := [(List.replicate 13 [], 1), ([[2, 1], [0], [0]], 1), ([[5], [1, 1]], 1), ([[-1]], 2), ([[1]], 2), ([[0]], 2), ([[1], [0], [2]], 2), ([[2], [0], [1]], 12)]
theorem kcs_of : kcs.all (fun c => decide ((ofS c.1).1 = c.2) && decide (c.2 ≠ 0)) = true := by kernel_rfl
theorem kcs_at {k : Nat} (h : k < kcs.length) : (ofS kcs[k].1).1 = kcs[k].2 ∧ kcs[k].2 ≠ 0 := by
  have := List.all_eq_true.1 kcs_of _ (List.getElem_mem h)
  simpa using this
def ranks10 : List (List Int) := [[0, 2, 1, 3], [0, 1, 2], [0, 1, 2, 3, 3], [0, 0, 2, 3], [0, 1, 2, 4], [-1, 1, 2, 3], []]
theorem ranks_of : ranks10.all (fun l => decide ((rankE 0 smpD l).2 = 13)) = true := by kernel_rfl
theorem ranks_at {k : Nat} (h : k < ranks10.length) : (rankE 0 smpD ranks10[k]).2 = 13 := by
  have := List.all_eq_true.1 ranks_of _ (List.getElem_mem h)
  simpa using this
theorem smp_is4 : isIdealE 0 smpA.length smpD 4 = (false, 0) := by kernel_rfl
theorem smp_en4 : (enabE 0 smpA.length smpD 4).2 = 13 := by kernel_rfl
theorem smp_ism : (isIdealE 0 smpA.length smpD (-1)).2 = 2 ∧ (isIdealE 0 smpA.length smpD 16).2 = 2 ∧ (enabE 0 smpA.length smpD (-1)).2 = 2 ∧ (enabE 0 smpA.length smpD 16).2 = 2 := by refine ⟨?_, ?_, ?_, ?_⟩ <;> kernel_rfl
theorem smp_nth2 : (nthE 0 smpD 2).2 = 2 ∧ (nthE 0 smpD (-1)).2 = 2 := by refine ⟨?_, ?_⟩ <;> kernel_rfl
/-- Twelve elements without any order. -/
abbrev freeA : List (List Int) := List.replicate 12 []
abbrev z12 : List Nat := List.replicate 12 0
theorem free_of : ofS freeA = (0, z12, z12) := by kernel_rfl
def fac : Nat → Nat
  | 0 => 1
  | n + 1 => (n + 1) * fac n
theorem rdyF_zeros (s : Nat) : ∀ (n i : Nat) (j : Nat), (rdyF s i (List.replicate n 0)).testBit j = true ↔ i ≤ j ∧ j < i + n ∧ s.testBit j = false := by
  intro n i j
  constructor
  · intro h
    obtain ⟨h1, h2, _⟩ := rdyF_has s _ i j h
    rw [List.length_replicate] at h2
    exact ⟨h1, h2, rdyF_bit s _ i j h⟩
  · rintro ⟨h1, h2, h3⟩
    refine rdyF_set s _ i j h1 (by rw [List.length_replicate]; exact h2) h3 ?_
    rw [List.getD_eq_getElem?_getD, List.getElem?_replicate, if_pos (by omega), Option.getD_some]
    exact (beq_iff_eq.1 ((sub_zero_iff 0 s).2 fun k hk => by rw [Nat.zero_testBit] at hk; cases hk))
theorem card_free (s : Nat) : (lst (rdyF s 0 z12)).length = 12 - card s := by
  have h1 : lst (rdyF s 0 z12) = (List.range 12).filter fun i => !s.testBit i := by
    unfold lst
    refine List.filter_congr fun i hi => ?_
    have := rdyF_zeros s 12 0 i
    simp only [List.mem_range] at hi
    rw [Bool.eq_iff_iff, this]
    simp [hi]
  have h2 : ((List.range 12).filter fun i => s.testBit i).length + ((List.range 12).filter fun i => !s.testBit i).length = 12 := by
    have : ∀ (l : List Nat) (p : Nat → Bool), (l.filter p).length + (l.filter fun i => !p i).length = l.length := by
      intro l p
      induction l with
      | nil => rfl
      | cons a r ih => cases h : p a <;> simp [List.filter_cons, h] <;> omega
    have := this (List.range 12) (fun i => s.testBit i)
    simpa using this
  rw [h1]
  unfold card lst
  omega
theorem sum_const {l : List Nat} {f : Nat → Nat} {c : Nat} (h : ∀ x ∈ l, f x = c) : (l.map f).sum = l.length * c := by
  induction l with
  | nil => simp
  | cons a r ih =>
    rw [List.map_cons, List.sum_cons, h a (List.mem_cons_self ..), ih fun x hx => h x (List.mem_cons_of_mem _ hx), List.length_cons, Nat.succ_mul, Nat.add_comm]
theorem way_free : ∀ (f s : Nat), card s + f = 12 → wayN z12 f s = fac f
  | 0, _, _ => rfl
  | f + 1, s, h => by
    rw [wayN, sum_const (c := fac f), card_free, fac]
    · congr 1; omega
    · intro i hi
      have hi2 := rdy_mem (ds := z12) (by simp) hi
      rw [List.length_replicate] at hi2
      exact way_free f _ (by rw [card_or hi2.1 hi2.2]; omega)
theorem card_le12 (s : Nat) : card s ≤ 12 := lst_le12 s
theorem wayS_free (s : Nat) : wayS z12 s = fac (12 - card s) := by
  unfold wayS
  rw [List.length_replicate]
  exact way_free _ _ (by have := card_le12 s; omega)
def nthF : Nat → Nat → Nat → List Nat
  | 0, _, _ => []
  | f + 1, s, k => match pickN (fun _ => fac f) (lst (rdyF s 0 z12)) k with
    | none => []
    | some (i, k') => i :: nthF f (s ||| 2 ^ i) k'
theorem pick_congr {c c' : Nat → Nat} : ∀ {l : List Nat} {k : Nat}, (∀ i ∈ l, c i = c' i) → pickN c l k = pickN c' l k
  | [], _, _ => rfl
  | a :: r, k, h => by
    rw [pickN, pickN, h a (List.mem_cons_self ..), pick_congr fun i hi => h i (List.mem_cons_of_mem _ hi)]
theorem nth_free : ∀ (f s k : Nat), card s + f = 12 → nthS z12 f s k = nthF f s k
  | 0, _, _, _ => rfl
  | f + 1, s, k, h => by
    have hc : ∀ i ∈ lst (rdyF s 0 z12), card (s ||| 2 ^ i) + f = 12 := fun i hi => by
      have hi2 := rdy_mem (ds := z12) (by simp) hi
      rw [List.length_replicate] at hi2
      rw [card_or hi2.1 hi2.2]; omega
    rw [nthS, nthF, pick_congr (c' := fun _ => fac f)]
    · cases hp : pickN (fun _ => fac f) (lst (rdyF s 0 z12)) k with
      | none => rfl
      | some p =>
        obtain ⟨i, k'⟩ := p
        have hm := pick_mem10 hp
        simp only
        rw [nth_free f _ k' (hc i hm)]
    · intro i hi
      rw [wayS_free]
      congr 1
      have := hc i hi
      omega
  where pick_mem10 {c : Nat → Nat} : ∀ {l : List Nat} {k i k' : Nat}, pickN c l k = some (i, k') → i ∈ l
  | [], _, _, _, h => by cases h
  | a :: r, k, i, k', h => by
    rw [pickN] at h
    split at h
    · obtain ⟨rfl, _⟩ := Prod.mk.inj (Option.some.inj h)
      exact List.mem_cons_self ..
    · exact List.mem_cons_of_mem _ (pick_mem10 h)
theorem free_count : countE 0 z12 = (479001600, 0) := by
  rw [countE, if_pos rfl, wayS_free]
  kernel_rfl
theorem free_nth : nthE 0 z12 479001599 = ([11, 10, 9, 8, 7, 6, 5, 4, 3, 2, 1, 0], 0) := by
  have h1 : nthS z12 12 0 479001599 = [11, 10, 9, 8, 7, 6, 5, 4, 3, 2, 1, 0] := by
    rw [nth_free 12 0 _ (by rw [card_zero])]
    kernel_rfl
  have h2 : wayS z12 0 = 479001600 := by rw [wayS_free]; kernel_rfl
  rw [nthE, if_pos rfl, h2, if_neg (by decide), List.length_replicate]
  exact congrArg (fun l => (l, (0 : Int))) h1
theorem free_ideals : (idL z12 (2 ^ freeA.length)).length = 4096 := by
  have : idL z12 (2 ^ freeA.length) = List.range 4096 := by
    unfold idL
    refine List.filter_eq_self.2 fun s _ => ?_
    rw [idealD, List.all_eq_true]
    intro k _
    have : z12.getD k 0 = 0 := by
      rw [List.getD_eq_getElem?_getD, List.getElem?_replicate]
      split <;> rfl
    rw [this]
    exact (sub_zero_iff 0 s).2 fun k hk => by rw [Nat.zero_testBit] at hk; cases hk
  rw [this, List.length_range]
theorem free_chains : (chainsN z12 freeA.length).map List.length = some 12 := by kernel_rfl
/-- Twelve elements in one line. -/
def lineA : List (List Int) := (List.range 12).map fun i => intL (List.range i)
theorem line_of : (ofS lineA).1 = 0 := by kernel_rfl
theorem line_red : redR (bef (natA lineA)) = [[], [0], [1], [2], [3], [4], [5], [6], [7], [8], [9], [10]] := by kernel_rfl
theorem line_height : heightE 0 lineA.length (ofS lineA).2.1 = (12, 0) := by kernel_rfl
theorem line_chains : (chainsN (ofS lineA).2.2 lineA.length).map List.length = some 1 := by kernel_rfl
def lineP (i j : Nat) : List (List Int) := (List.range 12).map fun r => if r < i then intL (List.range r) else if r = i then intL (List.range j) else []
theorem lineP_start : List.replicate 12 [] = lineP 1 0 := by kernel_rfl
theorem lineP_end : lineP 12 0 = lineA := by kernel_rfl
theorem lineP_next (i : Nat) : lineP i i = lineP (i + 1) 0 := by
  unfold lineP
  refine List.map_congr_left fun r _ => ?_
  by_cases h : r < i
  · simp [h, show r < i + 1 by omega]
  · by_cases h2 : r = i
    · subst h2; simp
    · have : ¬ r < i + 1 := by omega
      simp only [h, h2, this, if_false]
      split <;> rfl
theorem lineP_len (i j : Nat) : (lineP i j).length = 12 := by simp [lineP]
theorem lineP_get {i j : Nat} (h : i < 12) : (lineP i j).getD i [] = intL (List.range j) := by
  unfold lineP
  rw [List.getD_eq_getElem?_getD, List.getElem?_map, List.getElem?_range h]
  simp
theorem lineP_step {i j : Nat} (h : i < 12) : (lineP i j).set i ((lineP i j).getD i [] ++ [(j : Int)]) = lineP i (j + 1) := by
  rw [lineP_get h]
  apply List.ext_getElem (by simp [lineP])
  intro r h1 h2
  simp only [lineP, List.getElem_set, List.getElem_map, List.getElem_range]
  by_cases e : i = r
  · subst e
    simp [intL, List.range_succ]
  · rw [if_neg e]
    have : ¬ r = i := fun e2 => e e2.symm
    simp [this]
theorem nil_of10' : ofS [] = (0, [], []) := by kernel_rfl
theorem nil_facts : countE 0 [] = (1, 0) ∧ nthE 0 [] 0 = ([], 0) ∧ idL [] (2 ^ ([] : List (List Int)).length) = [0] ∧ chainsN [] ([] : List (List Int)).length = some [] ∧ heightE 0 ([] : List (List Int)).length [] = (0, 0) := by refine ⟨?_, ?_, ?_, ?_, ?_⟩ <;> kernel_rfl
end Go.Proofs.YteeaccnklkcchaaDoor
