
/- Closure and Reduce of what they hand back: no program is walked here. -/
import Derived.Test.YteeaccnklkcchaaDoorPureB10
import Derived.Test.YteeaccnklkcchaaDoorPureMd10
import Derived.Test.YteeaccnklkcchaaDoorSame10
namespace Go.Proofs.YteeaccnklkcchaaDoor
set_option linter.unusedSimpArgs false
set_option linter.unusedVariables false
open Go Go.RowKit
set_option maxRecDepth 100000
set_option linter.unusedSectionVars false
theorem lst_pair (s : Nat) : (intL (lst s)).Pairwise (· < ·) := by
  unfold intL lst
  rw [List.pairwise_map]
  exact (List.pairwise_lt_range.filter _).imp fun h => by omega
section
variable {A : List (List Int)}
theorem bef_card' (h0 : (ofS A).1 = 0) {x y : Nat} (h : Bef (natA A) y x) : card ((bef (natA A)).getD x 0) < card ((bef (natA A)).getD y 0) := by
  obtain ⟨h12, hS, hdn, hb, hbl, hn, hr, _, _, _⟩ := ord_ok h0
  have hr' : ∀ i k, k ∈ (natA A).getD i [] → k < (natA A).length := fun i k hk => by rw [natA_len]; exact (hr i k hk).1
  have hxn := (Bef.lt hr' h).2
  rw [natA_len] at hxn
  refine card_lt (x := x) (fun j hj => (bef_iff hn y j).2 (h.trans ((bef_iff hn x j).1 hj))) (by omega) ((bef_iff hn y x).2 h) ?_
  cases hc : ((bef (natA A)).getD x 0).testBit x with
  | false => rfl
  | true =>
    obtain ⟨m, h1, h2⟩ := (bef_iff hn x x).1 hc
    exact absurd h2 (hn x m h1)
theorem bef_mono {ls ls' : List (List Nat)} (h : ∀ i j, j ∈ ls.getD i [] → Bef ls' i j) : ∀ {m i j : Nat}, 1 ≤ m → Wk ls m i j → Bef ls' i j
  | 0, _, _, h1, _ => by omega
  | 1, i, j, _, ⟨k, hk, e⟩ => (show k = j from e) ▸ h i k hk
  | m + 2, i, j, _, ⟨k, hk, hw⟩ => (h i k hk).trans (bef_mono h (by omega) hw)
/-- An order whose lists are among those that come before is valid. -/
theorem ok_of_bef (h0 : (ofS A).1 = 0) {F : List (List Int)} (hl : F.length = A.length) (hasc : ∀ i (h : i < F.length), F[i].Pairwise (· < ·)) (hm : ∀ i (h : i < F.length), ∀ x ∈ F[i], 0 ≤ x ∧ Bef (natA A) i x.toNat) : (ofS F).1 = 0 := by
  obtain ⟨h12, hS, hdn, hb, hbl, hn, hr, _, _, _⟩ := ord_ok h0
  have hr' : ∀ i k, k ∈ (natA A).getD i [] → k < (natA A).length := fun i k hk => by rw [natA_len]; exact (hr i k hk).1
  refine made_ok (pos := fun x => card ((bef (natA A)).getD x 0)) (by omega) hasc fun i hi x hx => ?_
  obtain ⟨h1, h2⟩ := hm i hi x hx
  have := (Bef.lt hr' h2).2
  rw [natA_len] at this
  exact ⟨h1, by omega, bef_card' h0 h2⟩
theorem same_bef {F : List (List Int)} (h0 : (ofS A).1 = 0) (h1 : (ofS F).1 = 0) (hl : F.length = A.length) (h : ∀ i j, Bef (natA F) i j ↔ Bef (natA A) i j) : (ofS F).2.2 = (ofS A).2.2 := by
  obtain ⟨_, _, _, hb, hbl, hn, _⟩ := ord_ok h0
  obtain ⟨_, _, _, hb', hbl', hn', _⟩ := ord_ok h1
  rw [hb, hb']
  refine eq_of_bits (by rw [← hb, ← hb', hbl, hbl', hl]) fun i _ j => ?_
  rw [bef_iff hn' i j, bef_iff hn i j]
  exact h i j
/-- The closure as lists of ints. -/
def clA (A : List (List Int)) : List (List Int) := ((ofS A).2.2.map lst).map intL
theorem clA_len (h0 : (ofS A).1 = 0) : (clA A).length = A.length := by simp [clA, (ord_ok h0).2.2.2.2.1]
theorem clA_get (h0 : (ofS A).1 = 0) {i : Nat} (h : i < (clA A).length) : (clA A)[i] = intL (lst ((bef (natA A)).getD i 0)) := by
  have hb := (ord_ok h0).2.2.2.1
  have hi : i < (bef (natA A)).length := by have := clA_len h0; have h2 := (ord_ok h0).2.2.2.2.1; rw [hb] at h2; omega
  simp only [clA, hb, List.getElem_map, List.getD_eq_getElem?_getD, List.getElem?_eq_getElem hi, Option.getD_some]
theorem clA_mem (h0 : (ofS A).1 = 0) {i : Nat} (h : i < (clA A).length) {x : Int} : x ∈ (clA A)[i] ↔ 0 ≤ x ∧ Bef (natA A) i x.toNat := by
  obtain ⟨h12, hS, hdn, hb, hbl, hn, hr, _, _, hl4⟩ := ord_ok h0
  rw [hb] at hl4
  rw [clA_get h0 h]
  unfold intL
  rw [List.mem_map]
  constructor
  · rintro ⟨y, hy, rfl⟩
    have := (mem_lst' (hl4 i)).1 hy
    exact ⟨by omega, by rw [Int.toNat_natCast]; exact (bef_iff hn i y).1 this⟩
  · rintro ⟨h1, h2⟩
    exact ⟨x.toNat, (mem_lst' (hl4 i)).2 ((bef_iff hn i _).2 h2), by omega⟩
theorem cl_ok (h0 : (ofS A).1 = 0) : (ofS (clA A)).1 = 0 := by
  refine ok_of_bef h0 (clA_len h0) (fun i hi => ?_) fun i hi x hx => (clA_mem h0 hi).1 hx
  rw [clA_get h0 hi]
  exact lst_pair _
theorem natA_mem {F : List (List Int)} {i j : Nat} (hi : i < F.length) (hpos : ∀ x ∈ F[i], 0 ≤ x) : j ∈ (natA F).getD i [] ↔ (j : Int) ∈ F[i] := by
  rw [natA_get hi, List.mem_map]
  constructor
  · rintro ⟨x, hx, rfl⟩
    have := hpos x hx
    rw [Int.toNat_of_nonneg this]; exact hx
  · intro h
    exact ⟨_, h, by simp⟩
theorem cl_same (h0 : (ofS A).1 = 0) : (ofS (clA A)).2.2 = (ofS A).2.2 := by
  refine same_bef h0 (cl_ok h0) (clA_len h0) fun i j => ⟨fun ⟨m, h1, h2⟩ => bef_mono (fun i j hj => ?_) h1 h2, fun h => Bef.step.2 (.inl ?_)⟩
  · have hi : i < (clA A).length := by have := mem_lt hj; rwa [natA_len] at this
    have := (natA_mem hi fun x hx => ((clA_mem h0 hi).1 hx).1).1 hj
    have := ((clA_mem h0 hi).1 this).2
    rwa [Int.toNat_natCast] at this
  · obtain ⟨_, _, _, _, _, hn, hr, _⟩ := ord_ok h0
    have hr' : ∀ i k, k ∈ (natA A).getD i [] → k < (natA A).length := fun i k hk => by rw [natA_len]; exact (hr i k hk).1
    have hi : i < (clA A).length := by have := (Bef.lt hr' h).1; rw [natA_len] at this; rw [clA_len h0]; exact this
    exact (natA_mem hi fun x hx => ((clA_mem h0 hi).1 hx).1).2 ((clA_mem h0 hi).2 ⟨by omega, by rwa [Int.toNat_natCast]⟩)
theorem red_same (h0 : (ofS A).1 = 0) : (ofS (redA A)).2.2 = (ofS A).2.2 :=
  same_bef h0 (red_ok h0) (redA_len A) fun i j => ⟨fun ⟨m, h1, h2⟩ => bef_mono (fun i j hj => Bef.step.2 (.inl (red_sub h0 hj))) h1 h2, fun h => red_bef h0 h⟩
theorem redA_mem (h0 : (ofS A).1 = 0) {i : Nat} (hi : i < (redA A).length) {x : Int} (hx : x ∈ (redA A)[i]) : 0 ≤ x ∧ Dir (natA A) i x.toNat := by
  obtain ⟨h12, hS, hdn, hb, hbl, hn, hr, _⟩ := ord_ok h0
  have hr' : ∀ i k, k ∈ (natA A).getD i [] → k < (natA A).length := fun i k hk => by rw [natA_len]; exact (hr i k hk).1
  have hi2 : i < (redR (bef (natA A))).length := by simpa [redA] using hi
  have e : (redA A)[i] = intL ((redR (bef (natA A))).getD i []) := by
    simp only [redA, List.getElem_map, List.getD_eq_getElem?_getD, List.getElem?_eq_getElem hi2, Option.getD_some]
  rw [e] at hx
  obtain ⟨y, hy, rfl⟩ := List.mem_map.1 hx
  exact ⟨by omega, by rw [Int.toNat_natCast]; exact (redR_get hn hr' (by rw [natA_len]; exact h12) i y).1 hy⟩
theorem redA_pair {i : Nat} (hi : i < (redA A).length) : (redA A)[i].Pairwise (· < ·) := by
  have hi2 : i < (bef (natA A)).length := by simpa [redA, redR] using hi
  simp only [redA, redR, List.getElem_map]
  exact lst_pair _
/-- The order without one element of one list. -/
def fewA (A : List (List Int)) (i k : Nat) : List (List Int) := (redA A).set i (((redA A).getD i []).eraseIdx k)
theorem few_get {i k r : Nat} (hr : r < (fewA A i k).length) : ∃ h : r < (redA A).length, (fewA A i k)[r] = if i = r then ((redA A)[r]).eraseIdx k else (redA A)[r] := by
  have h : r < (redA A).length := by simpa [fewA] using hr
  refine ⟨h, ?_⟩
  simp only [fewA, List.getElem_set]
  by_cases e : i = r
  · subst e
    simp [List.getD_eq_getElem?_getD, List.getElem?_eq_getElem h]
  · simp [e]
theorem few_sub {i k r : Nat} (hr : r < (fewA A i k).length) (h : r < (redA A).length) {x : Int} (hx : x ∈ (fewA A i k)[r]) : x ∈ (redA A)[r] := by
  obtain ⟨_, e⟩ := few_get hr
  rw [e] at hx
  split at hx
  · exact List.mem_of_mem_eraseIdx hx
  · exact hx
theorem few_ok (h0 : (ofS A).1 = 0) (i k : Nat) : (ofS (fewA A i k)).1 = 0 := by
  refine ok_of_bef h0 (by simp [fewA, redA_len]) (fun r hr => ?_) fun r hr x hx => ?_
  · obtain ⟨h, e⟩ := few_get hr
    rw [e]
    split
    · exact (redA_pair h).sublist (List.eraseIdx_sublist _ _)
    · exact redA_pair h
  · obtain ⟨h, _⟩ := few_get hr
    obtain ⟨h1, h2⟩ := redA_mem h0 h (few_sub hr h hx)
    exact ⟨h1, h2.1⟩
theorem few_diff (h0 : (ofS A).1 = 0) {i k : Nat} (hi : i < (redA A).length) (hk : k < ((redA A)[i]).length) : clA (fewA A i k) ≠ clA A := by
  intro e
  have hF := few_ok h0 i k
  have hi1 : i < (clA A).length := by rw [clA_len h0, ← redA_len A]; exact hi
  have hfl : (fewA A i k).length = A.length := by simp [fewA, redA_len]
  have hi2 : i < (clA (fewA A i k)).length := by rw [clA_len hF, hfl, ← redA_len A]; exact hi
  have hx := redA_mem h0 hi (List.getElem_mem hk)
  generalize hxe : ((redA A)[i])[k] = x at *
  obtain ⟨hx0, hD⟩ := hx
  have hm : x ∈ (clA A)[i] := (clA_mem h0 hi1).2 ⟨hx0, hD.1⟩
  have hm2 : x ∈ (clA (fewA A i k))[i] := by simpa only [e] using hm
  have hB := ((clA_mem hF hi2).1 hm2).2
  have hsub : ∀ r j, j ∈ (natA (fewA A i k)).getD r [] → Bef (natA A) r j := fun r j hj => by
    have hr : r < (fewA A i k).length := by have := mem_lt hj; rwa [natA_len] at this
    obtain ⟨h, _⟩ := few_get hr
    have hpos : ∀ y ∈ (fewA A i k)[r], 0 ≤ y := fun y hy => (redA_mem h0 h (few_sub hr h hy)).1
    have := (redA_mem h0 h (few_sub hr h ((natA_mem hr hpos).1 hj))).2.1
    rwa [Int.toNat_natCast] at this
  have hif : i < (fewA A i k).length := by rw [hfl, ← redA_len A]; exact hi
  obtain ⟨h, eg⟩ := few_get hif
  rw [if_pos rfl] at eg
  have hpos : ∀ y ∈ (fewA A i k)[i], 0 ≤ y := fun y hy => (redA_mem h0 h (few_sub hif h hy)).1
  rcases Bef.step.1 hB with h1 | ⟨z, h1, h2⟩
  · have h3 := (natA_mem hif hpos).1 h1
    rw [Int.toNat_of_nonneg hx0, eg] at h3
    have hnd : ((redA A)[i]).Nodup := (redA_pair h).imp fun {a b} hab => by omega
    rw [← hxe] at h3
    obtain ⟨j, hj, he⟩ := List.mem_eraseIdx_iff_getElem.1 h3
    obtain ⟨hjk, he⟩ := he
    have hp := List.pairwise_iff_getElem.1 (redA_pair h)
    rcases Nat.lt_trichotomy j k with h4 | h4 | h4
    · have := hp j k hj hk h4; omega
    · exact hjk h4
    · have := hp k j hk hj h4; omega
  · have hbz := hsub i z h1
    obtain ⟨m, hm1, hm3⟩ := h2
    exact hD.2 z hbz (bef_mono hsub hm1 hm3)
theorem ownA_id {F : List (List Int)} (h1 : F.length ≤ 13) (h2 : ∀ l ∈ F, l.length ≤ 14) : ownA F = F := by
  unfold ownA
  rw [List.take_of_length_le h1]
  exact (List.map_congr_left fun l hl => List.take_of_length_le (h2 l hl)).trans (List.map_id _)
theorem own_cl (h0 : (ofS A).1 = 0) : ownA (clA A) = clA A := by
  refine ownA_id (by rw [clA_len h0]; have := (ord_ok h0).1; omega) fun l hl => ?_
  obtain ⟨i, hi, rfl⟩ := List.getElem_of_mem hl
  rw [clA_get h0 hi, intL, List.length_map]
  have := lst_le12 ((bef (natA A)).getD i 0)
  omega
theorem own_red (h0 : (ofS A).1 = 0) : ownA (redA A) = redA A := by
  refine ownA_id (by rw [redA_len]; have := (ord_ok h0).1; omega) fun l hl => ?_
  obtain ⟨i, hi, rfl⟩ := List.getElem_of_mem hl
  have hi2 : i < (bef (natA A)).length := by simpa [redA, redR] using hi
  simp only [redA, redR, List.getElem_map, intL, List.length_map]
  have := lst_le12 (outR (bef (natA A)) (bef (natA A))[i])
  omega
end
end Go.Proofs.YteeaccnklkcchaaDoor
