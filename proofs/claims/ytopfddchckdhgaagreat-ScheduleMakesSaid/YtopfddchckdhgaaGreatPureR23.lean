
/- What the statements of layer 23 make out of bytes: the plain law that it is valid. -/
import Derived.Test.YtopfddchckdhgaaGreatLive23
import Derived.Test.YtopfddchckdhgaaGreatPureL23
namespace Go.Proofs.YtopfddchckdhgaaGreat
set_option linter.unusedSimpArgs false
set_option linter.unusedVariables false
open Go Go.RowKit
set_option maxRecDepth 100000
set_option linter.unusedSectionVars false
set_option maxHeartbeats 1000000
def takesOk : List Int → Prop
  | [a, b, c, d, e, f, g, h] => a = 0 ∧ ∀ n ∈ [b, c, d, e, f, g, h], 1 ≤ n ∧ n ≤ 16
  | _ => False
/-- A plan of at most 8 steps on 4 hosts, and its terms. -/
structure MadeX (p : PlanD) (x : TermsD) : Prop where
  n : p.steps.length ≤ 8
  steps : ∀ t ∈ p.steps, 1 ≤ t.kind ∧ t.kind ≤ 7 ∧ 0 ≤ t.host ∧ t.host ≤ 3
  la : p.after.length = p.steps.length
  aft : ∀ i, i < p.after.length → ∃ f : Nat → Bool, p.after[i]? = some (((List.range i).filter f).map Int.ofNat)
  first : 0 ≤ x.first ∧ x.first ≤ 20
  last : 20 ≤ x.last ∧ x.last ≤ 600
  takes : takesOk x.takes
  lp : x.approved.length = p.steps.length
  app : ∀ n ∈ x.approved, -1 ≤ n ∧ n ≤ 254
  lw : x.windows.length ≤ 6
  win : ∀ y ∈ x.windows, (y.domain = 1 ∨ y.domain = 2 ∨ y.domain = 3) ∧ 0 ≤ y.index ∧ y.index ≤ 1 ∧ 0 ≤ y.frm ∧ y.frm < y.til ∧ y.til ≤ 600
  lr : x.areas.length ≤ 4
  area : ∀ y ∈ x.areas, (y.domain = 1 ∨ y.domain = 2 ∨ y.domain = 3) ∧ 0 ≤ y.index ∧ y.index ≤ 1
  blast : 0 ≤ x.blast ∧ x.blast ≤ 4
theorem asc_from {n i : Nat} (hin : i < n) (f : Nat → Bool) : ∀ (l k : Nat) (last : Int), last < (k : Int) → k + l ≤ i → ascB (n : Int) (i : Int) last (((List.range' k l).filter f).map Int.ofNat) = true
  | 0, _, _, _, _ => rfl
  | l + 1, k, last, h1, h2 => by
    rw [List.range'_succ, List.filter_cons]
    by_cases hf : f k = true
    · rw [if_pos hf, List.map_cons]
      simp only [ascB, Bool.and_eq_true, decide_eq_true_eq, Bool.not_eq_true', beq_eq_false_iff_ne]
      refine ⟨⟨⟨h1, by show (k : Int) < n; omega⟩, by show ¬ (k : Int) = i; omega⟩, asc_from hin f l (k + 1) _ (by show (k : Int) < ((k + 1 : Nat) : Int); omega) (by omega)⟩
    · rw [if_neg hf]
      exact asc_from hin f l (k + 1) last (by omega) (by omega)
theorem asc_range {n i : Nat} (hin : i < n) (f : Nat → Bool) : placesB (n : Int) (i : Int) (((List.range i).filter f).map Int.ofNat) = true := by
  rw [List.range_eq_range']
  exact asc_from hin f i 0 (-1) (by decide) (by omega)
theorem placesAll_of {n : Nat} : ∀ (l : List (List Int)) (k : Nat), (∀ i (h : i < l.length), placesB (n : Int) ((k + i : Nat) : Int) l[i] = true) → placesAll n k l = true
  | [], _, _ => rfl
  | x :: r, k, h => by
    rw [placesAll, Bool.and_eq_true]
    refine ⟨by have := h 0 (by simp); simpa using this, placesAll_of r (k + 1) fun i hi => ?_⟩
    have := h (i + 1) (by simp; omega)
    rw [show k + 1 + i = k + (i + 1) by omega]
    simpa using this
theorem house_site : siteB (houseD 4) = true := by kernel_rfl
theorem made_aft {p : PlanD} {x : TermsD} (h : MadeX p x) {i : Nat} (hi : i < p.after.length) : ∀ j ∈ aftN p.after i, j < i := by
  obtain ⟨f, hf⟩ := h.aft i hi
  intro j hj
  simp only [aftN, hf, Option.getD_some, List.map_map, List.mem_map, List.mem_filter, List.mem_range] at hj
  obtain ⟨a, ⟨h1, _⟩, h2⟩ := hj
  simp only [Function.comp] at h2
  have : a = j := by simpa using h2
  omega
theorem made_ord {p : PlanD} {x : TermsD} (h : MadeX p x) : ordB p = true := by
  have hn := h.n
  have hl := h.la
  simp only [ordB, Bool.and_eq_true, decide_eq_true_eq]
  refine ⟨⟨⟨by omega, hl⟩, placesAll_of _ 0 fun i hi => ?_⟩, ?_⟩
  · obtain ⟨f, hf⟩ := h.aft i hi
    rw [List.getElem?_eq_getElem hi] at hf
    rw [Option.some.inj hf, Nat.zero_add]
    exact asc_range (by omega) f
  · refine (rounds_iff fun i hi j hj => Nat.lt_trans (made_aft h hi j hj) hi).2 fun i => ?_
    induction i using Nat.strongRecOn with
    | _ i ih => exact fun hi => Lf.mk i fun j hj => ih j (made_aft h hi j hj) (Nat.lt_trans (made_aft h hi j hj) hi)
theorem house_count {d : Int} (h : d = 1 ∨ d = 2 ∨ d = 3) : 1 ≤ countF (houseD 4) d - 1 := by
  rcases h with rfl | rfl | rfl
  · exact (by decide : (1 : Int) ≤ 3)
  · exact (by decide : (1 : Int) ≤ 1)
  · exact (by decide : (1 : Int) ≤ 3)
theorem btw_of {n lo hi : Int} (h1 : lo ≤ n) (h2 : n ≤ hi) : btw n lo hi = true := by simp [btw, h1, h2]
theorem takes_len {l : List Int} (h : takesOk l) : l.length = 8 ∧ ∀ n ∈ l.drop 1, 1 ≤ n ∧ n ≤ 16 := by
  match l, h with
  | [a, b, c, d, e, f, g, k], h => exact ⟨rfl, h.2⟩
theorem made_valid {p : PlanD} {x : TermsD} (h : MadeX p x) : validT (houseD 4) p x = true := by
  have h1 := h.first
  have h2 := h.last
  have h3 := h.blast
  have h4 := h.lw
  have h5 := h.lr
  obtain ⟨h6, h7⟩ := takes_len h.takes
  have e1 : p.steps.all (stepT (houseD 4)) = true := List.all_eq_true.2 fun t ht => by
    obtain ⟨a, b, c, d⟩ := h.steps t ht
    rw [stepT, Bool.and_eq_true]
    exact ⟨btw_of a b, btw_of c (by show t.host ≤ 3; exact d)⟩
  have e2 : ((x.takes.drop 1).all fun n => btw n 1 1000) = true := List.all_eq_true.2 fun n hn => by
    obtain ⟨a, b⟩ := h7 n hn
    exact btw_of (by omega) (by omega)
  have e3 : (x.approved.all fun n => btw n (-1) 1000000) = true := List.all_eq_true.2 fun n hn => by
    obtain ⟨a, b⟩ := h.app n hn
    exact btw_of (by omega) (by omega)
  have e4 : x.windows.all (windowT (houseD 4)) = true := List.all_eq_true.2 fun y hy => by
    obtain ⟨a, b, c, d, e, f⟩ := h.win y hy
    have := house_count a
    rw [windowT, btw_of b (by omega), btw_of (by omega) (by omega), btw_of d (by omega)]
    rfl
  have e5 : x.areas.all (areaT (houseD 4)) = true := List.all_eq_true.2 fun y hy => by
    obtain ⟨a, b, c⟩ := h.area y hy
    have := house_count a
    exact btw_of b (by omega)
  rw [validT, house_site, made_ord h, decide_eq_true h6, decide_eq_true h.lp, btw_of (by omega) (by omega), btw_of (by omega) (by omega), btw_of (by omega) (by omega), decide_eq_true (show x.windows.length ≤ 16 by omega), decide_eq_true (show x.areas.length ≤ 16 by omega), e1, e2, e3, e4, e5]
  rfl
theorem made_kinds {p : PlanD} {x : TermsD} (h : MadeX p x) : ∀ t ∈ p.steps, 0 ≤ t.kind ∧ t.kind ≤ 255 := fun t ht => by
  obtain ⟨a, b, c, d⟩ := h.steps t ht
  omega
end Go.Proofs.YtopfddchckdhgaaGreat
