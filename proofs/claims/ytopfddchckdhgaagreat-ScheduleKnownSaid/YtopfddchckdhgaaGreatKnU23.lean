
/- ScheduleKnown: the calls of the program at the law's data, for any terms and any plan. -/
import Derived.Test.YtopfddchckdhgaaGreatAwk23
import Derived.Test.YtopfddchckdhgaaGreatKnD23
namespace Go.Proofs.YtopfddchckdhgaaGreat
set_option linter.unusedSimpArgs false
set_option linter.unusedVariables false
open Go Go.RowKit
set_option maxRecDepth 100000
set_option linter.unusedSectionVars false
theorem eight_kinds : ∀ t ∈ eightD.steps, 0 ≤ t.kind ∧ t.kind ≤ 255 := by
  intro t ht
  simp only [eightD, List.mem_cons, List.not_mem_nil, or_false] at ht
  subst ht
  simp
theorem circle_kinds : ∀ t ∈ circleD.steps, 0 ≤ t.kind ∧ t.kind ≤ 255 := fun t ht => two_kinds t (List.mem_of_mem_take ht)
section
variable {w w' : World}
theorem plan_make {hv sv av : Value} {vs : List Value} {p : PlanD} {q : TermsVs} {x : TermsD} {T : TableD} {i e : Int} (h1 : HouV w hv 2) (hp : PlanT w w.heap.size sv av vs p) (hk : ∀ t ∈ p.steps, 0 ≤ t.kind ∧ t.kind ≤ 255) (h3 : TermsT w w.heap.size q x) (hm : makeS (houseD 2) p x = (T, i, e)) : CallsV Tryz.prog 11 #[hv, .agg #[sv, av], .agg (termsC q x).toArray] w fun r w' => Ext w w' ∧ ∃ t, r = .tuple #[t, intV i, intV e] ∧ TabV w' t T := by
  obtain ⟨u, rfl, hu⟩ := h1.site
  refine CallsV.mono (schedMake (f := ⟨u, sv, av, vs, q⟩) (Nat.le_refl _) ⟨hu, hp, h3⟩ hk) ?_
  rintro _ w' ⟨hx, tv, rfl, ho⟩
  rw [hm] at ho ⊢
  exact ⟨hx, _, rfl, tv, _, rfl, ho⟩
theorem plan_check {hv pv bv : Value} {q : TermsVs} {x : TermsD} {b : List Int} {m e : Int} {br : BreachD} (h1 : HouV w hv 2) (h2 : TwoV w pv) (h3 : TermsT w w.heap.size q x) (h4 : Sl w w.heap.size none 1 bv (b.map intV)) (hm : checkS (houseD 2) twoD x ⟨b, m⟩ = (br, e)) : Ret Tryz.prog 15 #[hv, pv, .agg (termsC q x).toArray, .agg #[bv, intV m]] w (.tuple #[.agg (breachC br).toArray, intV e]) := by
  obtain ⟨u, rfl, hu⟩ := h1.site
  obtain ⟨sv, av, vs, rfl, hp⟩ := h2.plan
  have := schedCheck (f := ⟨u, sv, av, vs, q⟩) (stop := m) (Nat.le_refl _) ⟨hu, hp, h3⟩ two_kinds h4
  rw [hm] at this
  exact this
theorem plan_valid {hv sv av : Value} {vs : List Value} {p : PlanD} {q : TermsVs} {x : TermsD} {r : Bool} (h1 : HouV w hv 2) (hp : PlanT w w.heap.size sv av vs p) (hk : ∀ t ∈ p.steps, 0 ≤ t.kind ∧ t.kind ≤ 255) (h3 : TermsT w w.heap.size q x) (hm : validT (houseD 2) p x = r) : Ret Tryz.prog 20 #[hv, .agg #[sv, av], .agg (termsC q x).toArray] w (.bool r) := by
  obtain ⟨u, rfl, hu⟩ := h1.site
  have := schedValid (f := ⟨u, sv, av, vs, q⟩) (Nat.le_refl _) ⟨hu, hp, h3⟩ hk
  rw [hm] at this
  exact this
theorem two_valid {hv pv : Value} {q : TermsVs} {x : TermsD} {r : Bool} (h1 : HouV w hv 2) (h2 : TwoV w pv) (h3 : TermsT w w.heap.size q x) (hm : validT (houseD 2) twoD x = r) : Ret Tryz.prog 20 #[hv, pv, .agg (termsC q x).toArray] w (.bool r) := by
  obtain ⟨sv, av, vs, rfl, hp⟩ := h2.plan
  exact plan_valid h1 hp two_kinds h3 hm
end
end Go.Proofs.YtopfddchckdhgaaGreat
