
/- Who is out of service, and when; what the moments of a schedule must be. No program is walked here. -/
import Derived.Test.YtopfddchckdhgaaGreatPureO23
namespace Go.Proofs.YtopfddchckdhgaaGreat
set_option linter.unusedSimpArgs false
set_option linter.unusedVariables false
open Go
set_option linter.unusedSectionVars false
section
variable {s : SiteD} {p : PlanD} {x : TermsD} {b : List Int}
theorem mem_hosts {h : Int} : h ∈ hostsN s ↔ 0 ≤ h ∧ h < s.hosts.length := by
  unfold hostsN
  rw [List.mem_map]
  constructor
  · rintro ⟨i, hi, rfl⟩
    have := List.mem_range.1 hi
    exact ⟨Int.natCast_nonneg _, by show (i : Int) < _; omega⟩
  · rintro ⟨h1, h2⟩
    exact ⟨h.toNat, List.mem_range.2 (by omega), by show ((h.toNat : Nat) : Int) = h; omega⟩
theorem hosts_nd : (hostsN s).Nodup := by
  unfold hostsN
  rw [List.Nodup, List.pairwise_map]
  exact List.Pairwise.imp (fun h e => h (by injection e)) List.nodup_range
theorem span_rng (hF : Fit s p x) (hb : BegD p b) {h : Int} : ∀ (k : Nat), k ≤ p.steps.length → ∀ a c, spanK p x b h k = some (a, c) → 0 ≤ a ∧ a ≤ 1000000 ∧ a < c ∧ c ≤ 1001000
  | 0, _, _, _, e => by cases e
  | k + 1, hk, a, c, e => by
    have ih := span_rng hF hb (h := h) k (by omega)
    have h1 := hb.at_ (i := k) (by omega)
    have h2 := hF.take k (by omega)
    rw [spanK] at e
    split at e
    · rename_i hc
      have h3 : ¬ Sch.at_ b k = -1 := hc.2
      split at e
      · obtain ⟨rfl, rfl⟩ := Prod.mk.inj (Option.some.inj e)
        omega
      · rename_i a0 c0 e0
        obtain ⟨rfl, rfl⟩ := Prod.mk.inj (Option.some.inj e)
        have := ih a0 c0 e0
        omega
    · exact ih a c e
theorem spanS_rng (hF : Fit s p x) (hb : BegD p b) {h a c : Int} (e : spanS p x b h = some (a, c)) : 0 ≤ a ∧ a ≤ 1000000 ∧ a < c ∧ c ≤ 10000000 := by
  unfold spanS closeS at e
  obtain ⟨⟨a0, c0⟩, e0, e1⟩ := Option.map_eq_some_iff.1 e
  have := span_rng hF hb _ (Nat.le_refl _) a0 c0 e0
  obtain ⟨rfl, rfl⟩ := Prod.mk.inj e1
  simp only
  split <;> omega
theorem spanK_out {h : Int} (hn : ∀ i, i < p.steps.length → ¬ (stepS p i).host = h) : ∀ (k : Nat), k ≤ p.steps.length → spanK p x b h k = none
  | 0, _ => rfl
  | k + 1, hk => by
    rw [spanK, if_neg, spanK_out hn k (by omega)]
    rintro ⟨h1, _⟩
    simp only [outB, Bool.and_eq_true, beq_iff_eq] at h1
    exact hn k (by omega) h1.2
theorem spanS_host (hF : Fit s p x) {h : Int} (e : (spanS p x b h).isSome = true) : h ∈ hostsN s := by
  rw [mem_hosts]
  refine Classical.byContradiction fun hn => ?_
  have : spanK p x b h p.steps.length = none := spanK_out (fun i hi e2 => hn (by have := hF.host i hi; omega)) _ (Nat.le_refl _)
  unfold spanS closeS at e
  rw [this] at e
  cases e
theorem cnt_keys (hF : Fit s p x) {keys : List Int} (hn : keys.Nodup) (hk : ∀ h, h ∈ keys ↔ (spanS p x b h).isSome = true) (t : Int) : keys.countP (fun h => inSp t (spanS p x b h)) = cntS s p x b t := by
  have h1 : keys.Perm ((hostsN s).filter fun h => (spanS p x b h).isSome) := (List.perm_ext_iff_of_nodup hn (List.Nodup.sublist List.filter_sublist hosts_nd)).2 fun h => by
    rw [List.mem_filter, hk h]
    exact ⟨fun e => ⟨spanS_host hF e, e⟩, fun e => e.2⟩
  rw [h1.countP_eq, List.countP_filter]
  unfold cntS
  refine List.countP_congr fun h _ => ?_
  cases spanS p x b h <;> simp [inSp]
/-- What a look at some hosts has found: the first moment at which too many are out. -/
def Found (s : SiteD) (p : PlanD) (x : TermsD) (b : List Int) (seen : Int → Prop) (found : Bool) (at_ many : Int) : Prop :=
  (∀ h, seen h → ∀ a c, spanS p x b h = some (a, c) → x.blast < cntS s p x b a → found = true ∧ at_ ≤ a) ∧
  (found = true → ∃ h, seen h ∧ ∃ c, spanS p x b h = some (at_, c) ∧ x.blast < cntS s p x b at_ ∧ many = cntS s p x b at_)
theorem Found.start {a m : Int} : Found s p x b (fun _ => False) false a m := ⟨fun _ h => h.elim, fun h => by cases h⟩
theorem Found.more {seen seen' : Int → Prop} {f : Bool} {at_ m h : Int} (hf : Found s p x b seen f at_ m) (hs : ∀ y, seen' y ↔ seen y ∨ y = h) {a c : Int} (e : spanS p x b h = some (a, c)) :
    Found s p x b seen' (f || decide (x.blast < cntS s p x b a)) (if x.blast < cntS s p x b a ∧ (f = false ∨ a < at_) then a else at_) (if x.blast < cntS s p x b a ∧ (f = false ∨ a < at_) then cntS s p x b a else m) := by
  obtain ⟨h1, h2⟩ := hf
  refine ⟨fun y hy a' c' e' hb => ?_, fun hff => ?_⟩
  · rcases (hs y).1 hy with hy | rfl
    · obtain ⟨rfl, h3⟩ := h1 y hy a' c' e' hb
      refine ⟨by simp, ?_⟩
      split
      · rename_i h4; rcases h4.2 with h5 | h5
        · cases h5
        · omega
      · exact h3
    · rw [e] at e'
      obtain ⟨rfl, rfl⟩ := Prod.mk.inj (Option.some.inj e')
      refine ⟨by simp [hb], ?_⟩
      split
      · exact Int.le_refl _
      · rename_i h4
        have : ¬ (f = false ∨ a < at_) := fun h5 => h4 ⟨hb, h5⟩
        omega
  · split
    · rename_i h4
      exact ⟨h, (hs h).2 (.inr rfl), c, e, h4.1, rfl⟩
    · rename_i h4
      have hft : f = true := by
        cases f
        · simp only [Bool.false_or, decide_eq_true_eq] at hff
          exact absurd ⟨hff, .inl rfl⟩ h4
        · rfl
      obtain ⟨y, hy, c', e', h5, h6⟩ := h2 hft
      exact ⟨y, (hs y).2 (.inl hy), c', e', h5, h6⟩
theorem Found.skip {seen seen' : Int → Prop} {f : Bool} {at_ m h : Int} (hf : Found s p x b seen f at_ m) (hs : ∀ y, seen' y ↔ seen y ∨ y = h) (e : spanS p x b h = none) : Found s p x b seen' f at_ m :=
  by
    refine ⟨fun y hy a c e' hb => ?_, fun h => ?_⟩
    · rcases (hs y).1 hy with hy | rfl
      · exact hf.1 y hy a c e' hb
      · rw [e] at e'; cases e'
    · obtain ⟨y, hy, r⟩ := hf.2 h
      exact ⟨y, (hs y).2 (.inl hy), r⟩
theorem mem_froms (hF : Fit s p x) {a : Int} : a ∈ fromsS s p x b ↔ ∃ h c, spanS p x b h = some (a, c) := by
  unfold fromsS
  rw [List.mem_filterMap]
  constructor
  · rintro ⟨h, _, e⟩
    obtain ⟨⟨a', c⟩, e1, rfl⟩ := Option.map_eq_some_iff.1 e
    exact ⟨h, c, e1⟩
  · rintro ⟨h, c, e⟩
    exact ⟨h, spanS_host (b := b) hF (by rw [e]; rfl), by rw [e]; rfl⟩
theorem mem_tos (hF : Fit s p x) {c : Int} : c ∈ tosS s p x b ↔ ∃ h a, spanS p x b h = some (a, c) := by
  unfold tosS
  rw [List.mem_filterMap]
  constructor
  · rintro ⟨h, _, e⟩
    obtain ⟨⟨a, c'⟩, e1, rfl⟩ := Option.map_eq_some_iff.1 e
    exact ⟨h, a, e1⟩
  · rintro ⟨h, a, e⟩
    exact ⟨h, spanS_host (b := b) hF (by rw [e]; rfl), by rw [e]; rfl⟩
theorem Found.crowd (hF : Fit s p x) (h0 : ¬ x.blast = 0) {seen : Int → Prop} {f : Bool} {at_ m : Int} (hf : Found s p x b seen f at_ m) (hs : ∀ h, (spanS p x b h).isSome = true → seen h) :
    crowdS s p x b = if f = true then some (at_, m) else none := by
  unfold crowdS
  rw [if_neg h0]
  cases f
  · have : Sch.least (fromsS s p x b) (fun t => decide (x.blast < cntS s p x b t)) = none := Sch.least_none.2 fun a ha => by
      obtain ⟨h, c, e⟩ := (mem_froms hF).1 ha
      refine decide_eq_false fun hb => ?_
      have := (hf.1 h (hs h (by rw [e]; rfl)) a c e hb).1
      cases this
    rw [this]; rfl
  · obtain ⟨h, hh, c, e, h1, h2⟩ := hf.2 rfl
    have : Sch.least (fromsS s p x b) (fun t => decide (x.blast < cntS s p x b t)) = some at_ := Sch.least_iff.2 ⟨(mem_froms hF).2 ⟨h, c, e⟩, by simpa using h1, fun a ha hq => by
      obtain ⟨y, c', e'⟩ := (mem_froms hF).1 ha
      exact (hf.1 y (hs y (by rw [e']; rfl)) a c' e' (by simpa using hq)).2⟩
    rw [this, h2]; rfl
theorem crowd_rng (hF : Fit s p x) (hb : BegD p b) {a c : Int} (h : crowdS s p x b = some (a, c)) : 0 ≤ a ∧ a ≤ 1000000 := by
  unfold crowdS at h
  split at h
  · cases h
  · obtain ⟨t, h1, h2⟩ := Option.map_eq_some_iff.1 h
    obtain ⟨y, c', e'⟩ := (mem_froms hF).1 (Sch.least_some h1).1
    have := spanS_rng hF hb e'
    obtain ⟨rfl, _⟩ := Prod.mk.inj h2
    omega
/- moments -/
theorem fit_aft (hF : Fit s p x) {i : Nat} (hi : i < p.steps.length) : ∀ j ∈ (scS s p x).after i, j < p.steps.length := fun j hj => by
  obtain ⟨a, ha, rfl⟩ := List.mem_map.1 hj
  have := hF.places i hi a ha
  omega
theorem sc_tries : Sch.Tries (scS s p x) := by
  refine ⟨fun b i => List.mem_cons_self .., fun b i j hj => ?_, fun b i u m hu hm ha => ?_⟩
  · obtain ⟨a, h1, rfl⟩ := List.mem_map.1 hj
    refine List.mem_append_left _ (List.mem_append_left _ (List.mem_cons_of_mem _ (List.mem_cons_of_mem _ ?_)))
    exact List.mem_map.2 ⟨a, h1, rfl⟩
  · have hu' : (winB s p x i u && appB s p x i u) = true := hu
    rw [Bool.and_eq_true] at hu'
    show (winB s p x i m && appB s p x i m) = true
    rw [Bool.and_eq_true]
    constructor
    · have h1 := hu'.1
      unfold winB at h1 ⊢
      rw [Bool.or_eq_true] at h1 ⊢
      rcases h1 with h1 | h1
      · exact .inl h1
      · right
        obtain ⟨w, hw, h2⟩ := List.any_eq_true.1 h1
        simp only [Bool.and_eq_true, decide_eq_true_eq] at h2
        refine List.any_eq_true.2 ⟨w, hw, ?_⟩
        simp only [Bool.and_eq_true, decide_eq_true_eq]
        refine ⟨h2.1, ha w.frm ?_ h2.2.1, by omega⟩
        refine List.mem_append_left _ (List.mem_append_right _ (List.mem_map.2 ⟨w, hw, rfl⟩))
    · have h1 := hu'.2
      unfold appB at h1 ⊢
      rw [Bool.or_eq_true] at h1 ⊢
      rcases h1 with h1 | h1
      · left
        simp only [Bool.and_eq_true, decide_eq_true_eq] at h1 ⊢
        exact ⟨h1.1, ha _ (List.mem_append_left _ (List.mem_append_left _ (List.mem_cons_of_mem _ (List.mem_cons_self ..)))) h1.2⟩
      · exact .inr h1
theorem valid_lf (h : validT s p x = true) : ∀ i, i < p.steps.length → Lf p.after i := by
  have hF := fit_of h
  simp only [validT, ordB, Bool.and_eq_true, decide_eq_true_eq] at h
  have hr := h.1.1.1.1.1.2.2
  have hb : ∀ i, i < p.after.length → ∀ j ∈ aftN p.after i, j < p.after.length := fun i hi j hj => by
    obtain ⟨a, ha, rfl⟩ := List.mem_map.1 hj
    have := hF.places i (by rw [← hF.len]; exact hi) a ha
    rw [hF.len]
    omega
  have := (rounds_iff hb).1 hr
  rw [hF.len] at this
  exact this
theorem sc_acy (h : validT s p x = true) : Sch.Acy (scS s p x) := by
  have hF := fit_of h
  rintro T ⟨i, hi, hT⟩
  have hl := valid_lf h i hi
  have hi' : i < p.steps.length := hi
  clear hi
  induction hl with
  | mk i _ ih =>
    by_cases ha : ∀ j ∈ (scS s p x).after i, T j = false
    · exact ⟨i, hi', hT, ha⟩
    · obtain ⟨j, hj, hTj⟩ : ∃ j, j ∈ (scS s p x).after i ∧ ¬ T j = false := by
        refine Classical.byContradiction fun hn => ha fun j hj => Classical.byContradiction fun h2 => hn ⟨j, hj, h2⟩
      exact ih j hj (by simpa using hTj) (fit_aft hF hi' j hj)
/-- The moments that a step's place is looked for at: any list that has the same where it matters. -/
theorem early_of (hF : Fit s p x) {i : Nat} (hi : i < p.steps.length) {l : List Int} (hl : ∀ t, t ∈ l ↔ t = x.first ∨ (x.first < t ∧ t < x.last ∧ t ∈ (scS s p x).moms b i)) : Sch.early (scS s p x) b i = Sch.least l (Sch.poss (scS s p x) b i) := by
  unfold Sch.early
  refine Sch.least_ext fun t ht => ?_
  obtain ⟨⟨h1, h2, _, _⟩, _⟩ := Sch.poss_iff.1 ht
  have h1' : x.first ≤ t := h1
  have h2' : t + takeS p x i ≤ x.last := h2
  have := hF.take i hi
  rw [hl t]
  constructor
  · intro h
    rcases Int.lt_or_eq_of_le h1' with h3 | h3
    · exact .inr ⟨h3, by omega, h⟩
    · exact .inl h3.symm
  · rintro (rfl | h)
    · exact List.mem_cons_self ..
    · exact h.2.2
/-- What a step's rules say where it is given a begin. -/
theorem poss_set (hF : Fit s p x) (hb : b.length = p.steps.length) {i : Nat} (hi : i < p.steps.length) {t : Int} (hr : ∀ j ∈ afterS p i, ¬ j.toNat = i) :
    Sch.poss (scS s p x) b i t = ((timeB p x (b.set i t) i && (orderJ p x (b.set i t) i).isNone && winB s p x i t && appB s p x i t) && !(crowdS s p x (b.set i t)).isSome) := by
  have hlb : i < b.length := by omega
  have e1 : Sch.at_ (b.set i t) i = t := by rw [Sch.at_set hlb, if_pos rfl]
  unfold Sch.poss Sch.base timeB
  rw [e1]
  have e2 : (orderJ p x (b.set i t) i).isNone = Sch.order (scS s p x) b i t := by
    unfold orderJ Sch.order
    rw [e1, Bool.eq_iff_iff, List.all_eq_true]
    rw [Option.isNone_iff_eq_none, List.find?_eq_none]
    constructor
    · intro h j hj
      obtain ⟨a, ha, rfl⟩ := List.mem_map.1 hj
      have := h a ha
      rw [Sch.at_set hlb, if_neg (hr a ha)] at this
      simp only [decide_eq_true_eq] at this ⊢
      show Sch.at_ b a.toNat + takeS p x a.toNat ≤ t
      omega
    · intro h j hj
      have := h j.toNat (List.mem_map.2 ⟨j, hj, rfl⟩)
      rw [Sch.at_set hlb, if_neg (hr j hj)]
      have h2 : Sch.at_ b j.toNat + takeS p x j.toNat ≤ t := of_decide_eq_true this
      simp only [decide_eq_true_eq]
      omega
  rw [e2]
  show (decide (x.first ≤ t) && decide (t + takeS p x i ≤ x.last) && (winB s p x i t && appB s p x i t) && Sch.order (scS s p x) b i t && !(crowdS s p x (b.set i t)).isSome) = _
  cases decide (x.first ≤ t) <;> cases decide (t + takeS p x i ≤ x.last) <;> cases winB s p x i t <;> cases appB s p x i t <;> cases Sch.order (scS s p x) b i t <;> rfl
end
end Go.Proofs.YtopfddchckdhgaaGreat
