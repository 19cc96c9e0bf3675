
/- What the statements on layer 23 lean on, plainly: what is made is allowed, ideals, the earliest of all. No program is walked here. -/
import Derived.Test.YtopfddchckdhgaaGreatPureS23
namespace Go.Proofs.YtopfddchckdhgaaGreat
set_option linter.unusedSimpArgs false
set_option linter.unusedVariables false
open Go
set_option linter.unusedSectionVars false
section
variable {s : SiteD} {p : PlanD} {x : TermsD} {b r : List Int}
/-- What is made, in parts. -/
structure MadeT (s : SiteD) (p : PlanD) (x : TermsD) (r : List Int) : Prop where
  part : Sch.Part (scS s p x) r
  all : Sch.unset r = 0
  crowd : crowdS s p x r = none
theorem crowd_nil (hF : Fit s p x) (h0 : p.steps.length = 0) : crowdS s p x b = none := by
  unfold crowdS
  split
  · rfl
  · have : Sch.least (fromsS s p x b) (fun t => decide (x.blast < cntS s p x b t)) = none := Sch.least_none.2 fun a ha => by
      obtain ⟨h, c, e⟩ := (mem_froms hF).1 ha
      unfold spanS at e
      rw [h0] at e
      cases e
    rw [this]; rfl
theorem made_of (hF : Fit s p x) (h : Sch.make (scS s p x) p.steps.length (List.replicate p.steps.length (-1)) = (r, true)) : MadeT s p x r := by
  obtain ⟨h1, h2, h3⟩ := Sch.make_ok (c := scS s p x) hF.first.1 _ _ _ (Sch.init_part _) (Sch.init_unset _) h
  refine ⟨h1, h2, ?_⟩
  rcases Nat.eq_zero_or_pos p.steps.length with h0 | h0
  · exact crowd_nil hF h0
  · have : (crowdS s p x r).isSome = false := h3 h0
    cases hc : crowdS s p x r
    · rfl
    · rw [hc] at this; cases this
theorem MadeT.len (h : MadeT s p x r) : r.length = p.steps.length := h.part.l
theorem MadeT.at_ (h : MadeT s p x r) {i : Nat} (hi : i < p.steps.length) : x.first ≤ Sch.at_ r i ∧ Sch.at_ r i + takeS p x i ≤ x.last ∧ (winB s p x i (Sch.at_ r i) && appB s p x i (Sch.at_ r i)) = true ∧ ∀ j ∈ afterS p i, Sch.at_ r j.toNat + takeS p x j.toNat ≤ Sch.at_ r i := by
  have hl : i < r.length := by rw [h.len]; exact hi
  obtain ⟨h1, h2, h3, h4⟩ := h.part.ok i hi (Sch.set_all h.all i hl)
  exact ⟨h1, h2, h3, fun j hj => (h4 j.toNat (List.mem_map.2 ⟨j, hj, rfl⟩)).2⟩
theorem MadeT.begs (hF : Fit s p x) (h : MadeT s p x r) : ∀ n ∈ r, 0 ≤ n ∧ n ≤ 1000000 := fun n hn => by
  obtain ⟨i, hi, rfl⟩ := List.getElem_of_mem hn
  have hi' : i < p.steps.length := by rw [← h.len]; exact hi
  obtain ⟨h1, h2, _⟩ := h.at_ hi'
  rw [at_at hi] at h1 h2
  have := hF.take i hi'
  have := hF.first
  have := hF.last
  omega
theorem MadeT.broken (h : MadeT s p x r) : brokenS s p x r = none := by
  unfold brokenS
  rw [List.findSome?_eq_none_iff]
  intro k hk
  rw [List.findSome?_eq_none_iff]
  intro i hi
  have hi' := List.mem_range.1 hi
  have hk' := List.mem_range.1 hk
  obtain ⟨h1, h2, h3, h4⟩ := h.at_ hi'
  rw [Bool.and_eq_true] at h3
  rw [if_pos]
  rcases (by omega : k = 0 ∨ k = 1 ∨ k = 2 ∨ k = 3) with rfl | rfl | rfl | rfl
  · show timeB p x r i = true
    unfold timeB
    rw [decide_eq_true h1, decide_eq_true h2]; rfl
  · show (orderJ p x r i).isNone = true
    unfold orderJ
    rw [Option.isNone_iff_eq_none, List.find?_eq_none]
    intro j hj
    have := h4 j hj
    simp only [decide_eq_true_eq]
    omega
  · exact h3.1
  · exact h3.2
/-- What is made is allowed. -/
theorem check_made (hv : validT s p x = true) (h : MadeT s p x r) : checkS s p x ⟨r, Sch.stop (scS s p x) r⟩ = (noB, 0) := by
  have ht : tableT p ⟨r, Sch.stop (scS s p x) r⟩ = true := by
    simp only [tableT, Bool.and_eq_true, decide_eq_true_eq, List.all_eq_true, btw]
    exact ⟨h.len, fun n hn => h.begs (fit_of hv) n hn⟩
  unfold checkS
  rw [if_pos ⟨hv, ht⟩, h.broken, h.crowd]
  simp
/-- Where a step is named, there is such a step. -/
theorem make_stuck (hv : validT s p x = true) (h : Sch.make (scS s p x) p.steps.length (List.replicate p.steps.length (-1)) = (r, false)) : 0 ≤ Sch.stuck (scS s p x) r ∧ Sch.stuck (scS s p x) r < p.steps.length := by
  have key : ∀ (f : Nat) (b : List Int), b.length = p.steps.length → Sch.unset b = f → Sch.make (scS s p x) f b = (r, false) → r.length = p.steps.length ∧ 0 < Sch.unset r := by
    intro f
    induction f with
    | zero => intro b _ _ h; rw [Sch.make] at h; cases (Prod.mk.inj h).2
    | succ f ih =>
      intro b hl hu h
      rw [Sch.make] at h
      cases hk : Sch.pick (scS s p x) b with
      | none =>
        rw [hk] at h
        obtain rfl := (Prod.mk.inj h).1
        exact ⟨hl, by omega⟩
      | some q =>
        obtain ⟨i, t⟩ := q
        rw [hk] at h
        simp only at h
        obtain ⟨h1, h2, h3⟩ := Sch.pick_some hk
        obtain ⟨_, h4, _⟩ := Sch.least_some h3
        have hlb : i < b.length := by rw [hl]; exact h1
        have hF := fit_of hv
        have htn : t ≠ -1 := by
          have h5 : x.first ≤ t := (Sch.poss_iff.1 h4).1.1
          have := hF.first
          omega
        have := Sch.unset_set hlb (Sch.ready_iff.1 h2).1 htn
        exact ih _ (by rw [List.length_set]; exact hl) (by omega) h
  obtain ⟨h1, h2⟩ := key _ _ List.length_replicate (Sch.init_unset (scS s p x)) h
  exact Sch.stuck_in (sc_acy hv) h1 h2
/-- A timetable that Check passes obeys the rules. -/
theorem check_allowed {t : TableD} (h : (checkS s p x t).2 = 0) : validT s p x = true ∧ tableT p t = true ∧ Sch.Allowed (scS s p x) (Sch.at_ t.begin_) := by
  unfold checkS at h
  split at h
  · rename_i hv
    refine ⟨hv.1, hv.2, ⟨fun i hi => ?_⟩⟩
    cases hb : brokenS s p x t.begin_ with
    | some y => rw [hb] at h; cases h
    | none =>
      have hr : ∀ k, k < 4 → (ruleS s p x t.begin_ k i).2 = true := fun k hk => by
        unfold brokenS at hb
        rw [List.findSome?_eq_none_iff] at hb
        have h1 := hb k (List.mem_range.2 hk)
        rw [List.findSome?_eq_none_iff] at h1
        have h2 := h1 i (List.mem_range.2 hi)
        split at h2
        · assumption
        · cases h2
      have h0 : timeB p x t.begin_ i = true := hr 0 (by decide)
      have h1 : (orderJ p x t.begin_ i).isNone = true := hr 1 (by decide)
      have h2 : winB s p x i (Sch.at_ t.begin_ i) = true := hr 2 (by decide)
      have h3 : appB s p x i (Sch.at_ t.begin_ i) = true := hr 3 (by decide)
      simp only [timeB, Bool.and_eq_true, decide_eq_true_eq] at h0
      refine ⟨h0.1, h0.2, ?_, fun j hj => ?_⟩
      · show (winB s p x i (Sch.at_ t.begin_ i) && appB s p x i (Sch.at_ t.begin_ i)) = true
        rw [h2, h3]; rfl
      · obtain ⟨a, ha, rfl⟩ := List.mem_map.1 hj
        unfold orderJ at h1
        rw [Option.isNone_iff_eq_none, List.find?_eq_none] at h1
        have := h1 a ha
        simp only [decide_eq_true_eq] at this
        show Sch.at_ t.begin_ a.toNat + takeS p x a.toNat ≤ Sch.at_ t.begin_ i
        omega
  · cases h
theorem check_err {t : TableD} (hv : validT s p x = true) (ht : tableT p t = true) : (checkS s p x t).2 = 0 ∨ (checkS s p x t).2 = 13 := by
  unfold checkS
  rw [if_pos ⟨hv, ht⟩]
  split
  · exact .inr rfl
  · split
    · exact .inr rfl
    · split
      · exact .inl rfl
      · exact .inr rfl
theorem sc_ready (hv : validT s p x = true) : ∀ b : List Int, b.length = (scS s p x).n → 0 < Sch.unset b → ∃ i, i < (scS s p x).n ∧ Sch.ready (scS s p x) b i = true := fun _ hl hu => Sch.ready_some (sc_acy hv) hl hu
/-- With no limit of hosts: no allowed timetable has a step earlier, and if there is one, one is made. -/
theorem first_le (hv : validT s p x = true) (hb : x.blast = 0) {T : Nat → Int} (hT : Sch.Allowed (scS s p x) T) : ∃ r, Sch.make (scS s p x) p.steps.length (List.replicate p.steps.length (-1)) = (r, true) ∧ ∀ i, i < p.steps.length → Sch.at_ r i ≤ T i := by
  have hF := fit_of hv
  obtain ⟨r, h1, _, _, h4⟩ := Sch.make_first (c := scS s p x) hF.first.1 sc_tries (fun b => by show (crowdS s p x b).isSome = false; unfold crowdS; rw [if_pos hb]; rfl) hT (fun i hi => fit_aft hF hi) (sc_ready hv) _ (List.replicate p.steps.length (-1)) List.length_replicate (Sch.init_unset (scS s p x)) fun i hi hs => by
    refine absurd ?_ hs
    have hi' : i < p.steps.length := hi
    simp [Sch.at_, List.getD_eq_getElem?_getD, hi']
  exact ⟨r, h1, h4⟩
/-- Earlier firsts and approvals, a later last. -/
structure Eased (x y : TermsD) (n : Nat) : Prop where
  takes : y.takes = x.takes
  windows : y.windows = x.windows
  areas : y.areas = x.areas
  first : y.first ≤ x.first
  last : x.last ≤ y.last
  app : ∀ i, i < n → (appS x i = -1 ∧ appS y i = -1) ∨ (¬ appS y i = -1 ∧ appS y i ≤ appS x i)
theorem more_le {y : TermsD} (hv : validT s p x = true) (hv' : validT s p y = true) (hb : y.blast = 0) (he : Eased x y p.steps.length) (h : Sch.make (scS s p x) p.steps.length (List.replicate p.steps.length (-1)) = (r, true)) :
    ∃ r', Sch.make (scS s p y) p.steps.length (List.replicate p.steps.length (-1)) = (r', true) ∧ r'.length = p.steps.length ∧ (∀ i, i < p.steps.length → Sch.at_ r' i ≤ Sch.at_ r i) ∧ Sch.stop (scS s p y) r' ≤ Sch.stop (scS s p x) r := by
  have hF := fit_of hv'
  have htk : takeS p y = takeS p x := by funext i; unfold takeS; rw [he.takes]
  exact Sch.make_more (c := scS s p x) (d := scS s p y) rfl rfl htk hF.first.1 he.first he.last (fun i t hi hr => by
    have hr' : (winB s p x i t && appB s p x i t) = true := hr
    show (winB s p y i t && appB s p y i t) = true
    rw [Bool.and_eq_true] at hr' ⊢
    refine ⟨?_, ?_⟩
    · have := hr'.1
      unfold winB at this ⊢
      rw [he.windows, htk]
      exact this
    · have := hr'.2
      unfold appB at this ⊢
      rw [he.areas]
      rw [Bool.or_eq_true] at this ⊢
      rcases this with h1 | h1
      · left
        simp only [Bool.and_eq_true, decide_eq_true_eq, Bool.not_eq_true', beq_eq_false_iff_ne, ne_eq] at h1 ⊢
        rcases he.app i hi with ⟨h2, _⟩ | ⟨h2, h3⟩
        · exact absurd h2 h1.1
        · exact ⟨h2, by omega⟩
      · exact .inr h1) sc_tries (fun b => by show (crowdS s p y b).isSome = false; unfold crowdS; rw [if_pos hb]; rfl) (fun i hi => fit_aft hF hi) (sc_ready hv') h
/- bits -/
theorem bits_bit {f : Nat → Bool} : ∀ (n i : Nat), (bitsS f n).testBit i = (decide (i < n) && f i)
  | 0, i => by simp [bitsS]
  | k + 1, i => by
    rw [bitsS, Nat.testBit_or, bits_bit k i]
    by_cases e : i = k
    · subst e
      cases hf : f i
      · simp
      · simp
    · have : (if f k = true then 2 ^ k else 0).testBit i = false := by
        split
        · rw [Nat.testBit_two_pow]; simpa using fun h => e h.symm
        · simp
      rw [this, Bool.or_false]
      by_cases h1 : i < k
      · rw [decide_eq_true h1, decide_eq_true (by omega : i < k + 1)]
      · rw [decide_eq_false h1, decide_eq_false (by omega : ¬ i < k + 1)]
theorem bits_lt {f : Nat → Bool} : ∀ (n : Nat), bitsS f n < 2 ^ n
  | 0 => by simp [bitsS]
  | k + 1 => by
    rw [bitsS]
    refine Nat.or_lt_two_pow ?_ ?_
    · exact Nat.lt_of_lt_of_le (bits_lt k) (Nat.pow_le_pow_right (by decide) (by omega))
    · split
      · exact Nat.pow_lt_pow_right (by decide) (by omega)
      · exact Nat.pow_pos (by decide)
theorem at_made (hv : validT s p x = true) (h : MadeT s p x r) {e : Int} : atT p x ⟨r, e⟩ = true := by
  have hF := fit_of hv
  simp only [atT, Bool.and_eq_true, decide_eq_true_eq, List.all_eq_true, num, btw]
  refine ⟨⟨⟨hF.n12, h.len⟩, fun y hy => ?_⟩, fun n hn => h.begs hF n hn⟩
  obtain ⟨i, hi, rfl⟩ := List.getElem_of_mem hy
  have h1 := hF.kind i hi
  have h2 := hF.take i hi
  have h3 := hF.takes
  unfold takeS at h2
  rw [stepS_at hi] at h1 h2
  exact ⟨by omega, by omega⟩
/-- At every moment what is done, and what is begun, contains with a step all that it is after. -/
theorem ideal_made (hv : validT s p x = true) (h : MadeT s p x r) {e now : Int} : ∀ i, i < p.steps.length → ((atS p x ⟨r, e⟩ now).1.testBit i = true → (atS p x ⟨r, e⟩ now).2.testBit i = true) ∧
    ∀ j ∈ afterS p i, ((atS p x ⟨r, e⟩ now).1.testBit i = true → (atS p x ⟨r, e⟩ now).1.testBit j.toNat = true) ∧ ((atS p x ⟨r, e⟩ now).2.testBit i = true → (atS p x ⟨r, e⟩ now).1.testBit j.toNat = true) := by
  intro i hi
  have hF := fit_of hv
  unfold atS
  rw [if_pos (at_made hv h)]
  simp only [bits_bit, Bool.and_eq_true, decide_eq_true_eq]
  have h1 := hF.take i hi
  refine ⟨fun ⟨_, h2⟩ => ⟨hi, by omega⟩, fun j hj => ?_⟩
  have h3 := hF.places i hi j hj
  have h4 := (h.at_ hi).2.2.2 j hj
  exact ⟨fun ⟨_, h2⟩ => ⟨by omega, by omega⟩, fun ⟨_, h2⟩ => ⟨by omega, by omega⟩⟩
end
end Go.Proofs.YtopfddchckdhgaaGreat
