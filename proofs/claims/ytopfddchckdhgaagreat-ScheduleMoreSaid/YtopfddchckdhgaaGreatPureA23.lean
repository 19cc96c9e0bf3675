
/- How a timetable is made, plainly: what is made obeys the rules, and with no limit of hosts no allowed timetable has a step earlier (no program is walked here). -/
import Derived.Test.YtopfddchckdhgaaGreatDom
namespace Go.Proofs.YtopfddchckdhgaaGreat
set_option linter.unusedSimpArgs false
set_option linter.unusedVariables false
open Go Go.RowKit
set_option linter.unusedSectionVars false
/-- What a timetable is made from: how many steps, what each is after, how long it takes; the first and the last moment; windows and approvals (rule), the moments to try, too many hosts out (crowd). -/
structure Sch where
  n : Nat
  after : Nat → List Nat
  tk : Nat → Int
  first : Int
  last : Int
  rule : Nat → Int → Bool
  moms : List Int → Nat → List Int
  crowd : List Int → Bool
namespace Sch
set_option linter.unusedSimpArgs false
set_option linter.unusedVariables false
def at_ (b : List Int) (i : Nat) : Int := b.getD i (-1)
def endT (c : Sch) (b : List Int) (i : Nat) : Int := at_ b i + c.tk i
def order (c : Sch) (b : List Int) (i : Nat) (t : Int) : Bool := (c.after i).all fun j => decide (c.endT b j ≤ t)
def base (c : Sch) (b : List Int) (i : Nat) (t : Int) : Bool := decide (c.first ≤ t) && decide (t + c.tk i ≤ c.last) && c.rule i t && c.order b i t
def poss (c : Sch) (b : List Int) (i : Nat) (t : Int) : Bool := c.base b i t && !c.crowd (b.set i t)
def ready (c : Sch) (b : List Int) (i : Nat) : Bool := decide (at_ b i = -1) && (c.after i).all fun j => decide (at_ b j ≠ -1)
/-- The least of a list that a test lets pass. -/
def least : List Int → (Int → Bool) → Option Int
  | [], _ => none
  | a :: l, q => match least l q with
    | none => if q a = true then some a else none
    | some m => if q a = true ∧ a ≤ m then some a else some m
theorem least_none : ∀ {l : List Int} {q : Int → Bool}, least l q = none ↔ ∀ a ∈ l, q a = false
  | [], q => ⟨fun _ a h => (by cases h), fun _ => rfl⟩
  | a :: l, q => by
    rw [least]
    cases h : least l q with
    | none =>
      have ih := (least_none (l := l) (q := q)).1 h
      cases hq : q a
      · simp [hq]; exact ih
      · simp [hq]
    | some m =>
      have : ¬ ∀ a ∈ l, q a = false := fun k => by rw [least_none.2 k] at h; cases h
      constructor
      · intro k
        simp only at k
        split at k <;> simp at k
      · intro k; exact absurd (fun b hb => k b (List.mem_cons_of_mem _ hb)) this
theorem least_some : ∀ {l : List Int} {q : Int → Bool} {m : Int}, least l q = some m → m ∈ l ∧ q m = true ∧ ∀ a ∈ l, q a = true → m ≤ a
  | [], q, m, h => by cases h
  | a :: l, q, m, h => by
    rw [least] at h
    cases hl : least l q with
    | none =>
      rw [hl] at h
      simp only at h
      split at h
      · rename_i hq
        obtain rfl := Option.some.inj h
        refine ⟨List.mem_cons_self .., hq, fun b hb hqb => ?_⟩
        rcases List.mem_cons.1 hb with rfl | hb
        · exact Int.le_refl _
        · rw [least_none.1 hl b hb] at hqb; cases hqb
      · cases h
    | some k =>
      rw [hl] at h
      simp only at h
      obtain ⟨h1, h2, h3⟩ := least_some hl
      split at h
      · rename_i hq
        obtain rfl := Option.some.inj h
        refine ⟨List.mem_cons_self .., hq.1, fun b hb hqb => ?_⟩
        rcases List.mem_cons.1 hb with rfl | hb
        · exact Int.le_refl _
        · exact Int.le_trans hq.2 (h3 b hb hqb)
      · rename_i hq
        obtain rfl := Option.some.inj h
        refine ⟨List.mem_cons_of_mem _ h1, h2, fun b hb hqb => ?_⟩
        rcases List.mem_cons.1 hb with rfl | hb
        · rcases Int.le_total k b with h4 | h4
          · exact h4
          · exact absurd ⟨hqb, h4⟩ hq
        · exact h3 b hb hqb
def early (c : Sch) (b : List Int) (i : Nat) : Option Int := least (c.moms b i) (c.poss b i)
/-- The step that a round places, and when. -/
def pick (c : Sch) (b : List Int) : Option (Nat × Int) := (List.range c.n).findSome? fun i => if c.ready b i = true then (c.early b i).map fun t => (i, t) else none
def make (c : Sch) : Nat → List Int → List Int × Bool
  | 0, b => (b, true)
  | f + 1, b => match c.pick b with
    | some (i, t) => make c f (b.set i t)
    | none => (b, false)
theorem pick_some {c : Sch} {b : List Int} {i : Nat} {t : Int} (h : c.pick b = some (i, t)) : i < c.n ∧ c.ready b i = true ∧ c.early b i = some t := by
  obtain ⟨j, hj, h2⟩ := List.exists_of_findSome?_eq_some h
  split at h2
  · rename_i hr
    cases he : c.early b j with
    | none => rw [he] at h2; cases h2
    | some u =>
      rw [he] at h2
      simp only [Option.map_some, Option.some.injEq, Prod.mk.injEq] at h2
      obtain ⟨rfl, rfl⟩ := h2
      exact ⟨List.mem_range.1 hj, hr, he⟩
  · cases h2
theorem pick_none {c : Sch} {b : List Int} (h : c.pick b = none) : ∀ i, i < c.n → c.ready b i = true → c.early b i = none := fun i hi hr => by
  have := List.findSome?_eq_none_iff.1 h i (List.mem_range.2 hi)
  rw [if_pos hr] at this
  simpa using this
/-- Begins that obey the rules, as far as they are set. -/
structure Part (c : Sch) (b : List Int) : Prop where
  l : b.length = c.n
  ok : ∀ i, i < c.n → at_ b i ≠ -1 → c.first ≤ at_ b i ∧ at_ b i + c.tk i ≤ c.last ∧ c.rule i (at_ b i) = true ∧ ∀ j ∈ c.after i, at_ b j ≠ -1 ∧ c.endT b j ≤ at_ b i
theorem at_set {b : List Int} {i : Nat} {t : Int} (h : i < b.length) (k : Nat) : at_ (b.set i t) k = if k = i then t else at_ b k := by
  unfold at_
  rw [List.getD_eq_getElem?_getD, List.getD_eq_getElem?_getD]
  split
  · rename_i e; subst e; rw [List.getElem?_set_self h]; rfl
  · rename_i e; rw [List.getElem?_set_ne (fun x => e x.symm)]
theorem poss_iff {c : Sch} {b : List Int} {i : Nat} {t : Int} : c.poss b i t = true ↔ (c.first ≤ t ∧ t + c.tk i ≤ c.last ∧ c.rule i t = true ∧ ∀ j ∈ c.after i, c.endT b j ≤ t) ∧ c.crowd (b.set i t) = false := by
  simp only [poss, base, order, Bool.and_eq_true, decide_eq_true_eq, List.all_eq_true, Bool.not_eq_true', and_assoc]
theorem ready_iff {c : Sch} {b : List Int} {i : Nat} : c.ready b i = true ↔ at_ b i = -1 ∧ ∀ j ∈ c.after i, at_ b j ≠ -1 := by
  simp only [ready, Bool.and_eq_true, decide_eq_true_eq, List.all_eq_true]
/-- A round keeps the rules. -/
theorem Part.step {c : Sch} {b : List Int} {i : Nat} {t : Int} (hf : 0 ≤ c.first) (hp : Part c b) (hi : i < c.n) (hr : c.ready b i = true) (ht : c.poss b i t = true) : Part c (b.set i t) := by
  obtain ⟨r1, r2⟩ := ready_iff.1 hr
  obtain ⟨⟨p1, p2, p3, p4⟩, _⟩ := poss_iff.1 ht
  have hl : i < b.length := by rw [hp.l]; exact hi
  have hii : ∀ j ∈ c.after i, j ≠ i := fun j hj e => by subst e; exact r2 j hj r1
  refine ⟨by rw [List.length_set]; exact hp.l, fun k hk hs => ?_⟩
  rw [at_set hl] at hs ⊢
  split
  · rename_i e
    subst e
    refine ⟨p1, p2, p3, fun j hj => ?_⟩
    have hji := hii j hj
    unfold endT
    rw [at_set hl, if_neg hji]
    exact ⟨r2 j hj, p4 j hj⟩
  · rename_i e
    rw [if_neg e] at hs
    obtain ⟨q1, q2, q3, q4⟩ := hp.ok k hk hs
    refine ⟨q1, q2, q3, fun j hj => ?_⟩
    have hji : j ≠ i := fun e2 => by subst e2; exact (q4 j hj).1 r1
    unfold endT
    rw [at_set hl, if_neg hji]
    exact q4 j hj
def unset (b : List Int) : Nat := (b.filter fun t => t == -1).length
theorem unset_set : ∀ {b : List Int} {i : Nat} {t : Int}, i < b.length → at_ b i = -1 → t ≠ -1 → unset (b.set i t) + 1 = unset b
  | [], i, t, h, _, _ => by cases h
  | a :: l, 0, t, _, h1, h2 => by
    have ha : a = -1 := h1
    subst ha
    simp [unset, h2]
  | a :: l, i + 1, t, h, h1, h2 => by
    have ih := unset_set (b := l) (i := i) (t := t) (by simpa using h) (by simpa [at_] using h1) h2
    simp only [unset, List.set_cons_succ, List.filter_cons] at ih ⊢
    split
    · simp only [List.length_cons]; omega
    · exact ih
theorem set_all : ∀ {b : List Int}, unset b = 0 → ∀ i, i < b.length → at_ b i ≠ -1
  | b, h, i, hi, e => by
    have h0 : b.filter (fun t => t == -1) = [] := List.eq_nil_of_length_eq_zero h
    have hm : b[i] ∈ b := List.getElem_mem hi
    have e2 : b[i] = -1 := by simpa [at_, List.getD_eq_getElem?_getD, List.getElem?_eq_getElem hi] using e
    have := List.filter_eq_nil_iff.1 h0 _ hm
    simp [e2] at this
/-- What a timetable that is made obeys. -/
theorem make_ok {c : Sch} (hf : 0 ≤ c.first) : ∀ (f : Nat) (b r : List Int), Part c b → unset b = f → make c f b = (r, true) → Part c r ∧ unset r = 0 ∧ (0 < f → c.crowd r = false)
  | 0, b, r, hp, hu, h => by
    rw [make] at h
    obtain rfl := (Prod.mk.inj h).1
    exact ⟨hp, hu, fun h => absurd h (Nat.lt_irrefl 0)⟩
  | f + 1, b, r, hp, hu, h => by
    rw [make] at h
    cases hk : c.pick b with
    | none => rw [hk] at h; cases (Prod.mk.inj h).2
    | some q =>
      obtain ⟨i, t⟩ := q
      rw [hk] at h
      simp only at h
      obtain ⟨h1, h2, h3⟩ := pick_some hk
      obtain ⟨_, h4, _⟩ := least_some h3
      have hl : i < b.length := by rw [hp.l]; exact h1
      have ht : t ≠ -1 := by have := (poss_iff.1 h4).1.1; omega
      have hu2 := unset_set hl (ready_iff.1 h2).1 ht
      obtain ⟨k1, k2, k3⟩ := make_ok hf f _ r (hp.step hf h1 h2 h4) (by omega) h
      refine ⟨k1, k2, fun _ => ?_⟩
      rcases Nat.eq_zero_or_pos f with rfl | hf0
      · rw [make] at h
        obtain rfl := (Prod.mk.inj h).1
        exact (poss_iff.1 h4).2
      · exact k3 hf0
/-- A timetable that obeys the rules (but for crowds). -/
structure Allowed (c : Sch) (T : Nat → Int) : Prop where
  ok : ∀ i, i < c.n → c.first ≤ T i ∧ T i + c.tk i ≤ c.last ∧ c.rule i (T i) = true ∧ ∀ j ∈ c.after i, T j + c.tk j ≤ T i
theorem best_below : ∀ (l : List Int) (u : Int), (∃ a ∈ l, a ≤ u) → ∃ m ∈ l, m ≤ u ∧ ∀ a ∈ l, a ≤ u → a ≤ m
  | [], u, ⟨a, h, _⟩ => by cases h
  | x :: l, u, h => by
    by_cases h2 : ∃ a ∈ l, a ≤ u
    · obtain ⟨m, h3, h4, h5⟩ := best_below l u h2
      by_cases hx : x ≤ u ∧ m ≤ x
      · refine ⟨x, List.mem_cons_self .., hx.1, fun a ha hau => ?_⟩
        rcases List.mem_cons.1 ha with rfl | ha
        · exact Int.le_refl _
        · exact Int.le_trans (h5 a ha hau) hx.2
      · refine ⟨m, List.mem_cons_of_mem _ h3, h4, fun a ha hau => ?_⟩
        rcases List.mem_cons.1 ha with rfl | ha
        · rcases Int.le_total a m with h6 | h6
          · exact h6
          · exact absurd ⟨hau, h6⟩ hx
        · exact h5 a ha hau
    · obtain ⟨a, ha, hau⟩ := h
      rcases List.mem_cons.1 ha with rfl | ha
      · refine ⟨a, List.mem_cons_self .., hau, fun b hb hbu => ?_⟩
        rcases List.mem_cons.1 hb with rfl | hb
        · exact Int.le_refl _
        · exact absurd ⟨b, hb, hbu⟩ h2
      · exact absurd ⟨a, ha, hau⟩ h2
/-- What the moments to try must be for the earliest of them to be the earliest of all: the first moment, the ends of what a step is after, and the moments from which a rule holds. -/
structure Tries (c : Sch) : Prop where
  first : ∀ b i, c.first ∈ c.moms b i
  ends : ∀ b i, ∀ j ∈ c.after i, c.endT b j ∈ c.moms b i
  rule : ∀ b i u m, c.rule i u = true → m ≤ u → (∀ a ∈ c.moms b i, a ≤ u → a ≤ m) → c.rule i m = true
/-- No round places a step later than any allowed timetable. -/
theorem early_le {c : Sch} (ht : Tries c) (hc : ∀ b, c.crowd b = false) {T : Nat → Int} (hT : Allowed c T) {b : List Int} (hb : ∀ i, i < c.n → at_ b i ≠ -1 → at_ b i ≤ T i) (ha : ∀ i, i < c.n → ∀ j ∈ c.after i, j < c.n) {i : Nat} (hi : i < c.n) (hr : c.ready b i = true) : ∃ t, c.early b i = some t ∧ t ≤ T i := by
  obtain ⟨r1, r2⟩ := ready_iff.1 hr
  obtain ⟨t1, t2, t3, t4⟩ := hT.ok i hi
  obtain ⟨m, m1, m2, m3⟩ := best_below (c.moms b i) (T i) ⟨_, ht.first b i, t1⟩
  have hposs : c.poss b i m = true := by
    refine poss_iff.2 ⟨⟨m3 _ (ht.first b i) t1, by omega, ht.rule b i _ m t3 m2 m3, fun j hj => ?_⟩, hc _⟩
    refine m3 _ (ht.ends b i j hj) ?_
    have h1 := hb j (ha i hi j hj) (r2 j hj)
    have h2 := t4 j hj
    unfold endT
    omega
  cases he : c.early b i with
  | none =>
    have := least_none.1 he m m1
    rw [hposs] at this; cases this
  | some t => exact ⟨t, rfl, Int.le_trans ((least_some he).2.2 m m1 hposs) m2⟩
/-- If there is an allowed timetable, one is made, and no step is later in it. -/
theorem make_first {c : Sch} (hf : 0 ≤ c.first) (ht : Tries c) (hc : ∀ b, c.crowd b = false) {T : Nat → Int} (hT : Allowed c T) (ha : ∀ i, i < c.n → ∀ j ∈ c.after i, j < c.n) (hac : ∀ b : List Int, b.length = c.n → 0 < unset b → ∃ i, i < c.n ∧ c.ready b i = true) :
    ∀ (f : Nat) (b : List Int), b.length = c.n → unset b = f → (∀ i, i < c.n → at_ b i ≠ -1 → at_ b i ≤ T i) → ∃ r, make c f b = (r, true) ∧ r.length = c.n ∧ unset r = 0 ∧ ∀ i, i < c.n → at_ r i ≤ T i
  | 0, b, hl, hu, hb => ⟨b, rfl, hl, hu, fun i hi => hb i hi (set_all hu i (by omega))⟩
  | f + 1, b, hl, hu, hb => by
    rw [make]
    cases hk : c.pick b with
    | none =>
      obtain ⟨i, hi, hr⟩ := hac b hl (by omega)
      obtain ⟨t, h1, _⟩ := early_le ht hc hT hb ha hi hr
      rw [pick_none hk i hi hr] at h1; cases h1
    | some q =>
      obtain ⟨i, t⟩ := q
      simp only
      obtain ⟨h1, h2, h3⟩ := pick_some hk
      obtain ⟨_, h4, _⟩ := least_some h3
      obtain ⟨t', h5, h6⟩ := early_le ht hc hT hb ha h1 h2
      rw [h3] at h5
      obtain rfl := Option.some.inj h5
      have hlb : i < b.length := by omega
      have htn : t ≠ -1 := by have := (poss_iff.1 h4).1.1; omega
      have hu2 := unset_set hlb (ready_iff.1 h2).1 htn
      refine make_first hf ht hc hT ha hac f _ (by rw [List.length_set]; exact hl) (by omega) fun k hk hs => ?_
      rw [at_set hlb] at hs ⊢
      split
      · rename_i e; subst e; exact h6
      · rename_i e; rw [if_neg e] at hs; exact hb k hk hs
/-- The greatest end. -/
def stop (c : Sch) (b : List Int) : Int := (List.range c.n).foldl (fun m i => max m (c.endT b i)) c.first
theorem fold_max_le {f g : Nat → Int} : ∀ (l : List Nat) (a b : Int), a ≤ b → (∀ i ∈ l, f i ≤ g i) → l.foldl (fun m i => max m (f i)) a ≤ l.foldl (fun m i => max m (g i)) b
  | [], a, b, h, _ => h
  | x :: l, a, b, h, hl => by
    rw [List.foldl_cons, List.foldl_cons]
    refine fold_max_le l _ _ ?_ fun i hi => hl i (List.mem_cons_of_mem _ hi)
    have := hl x (List.mem_cons_self ..)
    omega
theorem Part.allowed {c : Sch} {r : List Int} (hp : Part c r) (hu : unset r = 0) : Allowed c (at_ r) := ⟨fun i hi => by
  have hs := set_all hu
  rw [hp.l] at hs
  obtain ⟨h1, h2, h3, h4⟩ := hp.ok i hi (hs i hi)
  exact ⟨h1, h2, h3, fun j hj => (h4 j hj).2⟩⟩
theorem init_part (c : Sch) : Part c (List.replicate c.n (-1)) := ⟨List.length_replicate, fun i hi hs => by
  refine absurd ?_ hs
  simp [at_, List.getD_eq_getElem?_getD, hi]⟩
theorem init_unset (c : Sch) : unset (List.replicate c.n (-1)) = c.n := by
  unfold unset
  rw [List.filter_replicate]
  simp
/-- Earlier firsts and approvals and a later last make no step later. -/
theorem make_more {c d : Sch} (hn : d.n = c.n) (haf : d.after = c.after) (htk : d.tk = c.tk) (hf : 0 ≤ d.first) (hfl : d.first ≤ c.first) (hl : c.last ≤ d.last) (hr : ∀ i t, i < c.n → c.rule i t = true → d.rule i t = true)
    (ht : Tries d) (hc : ∀ b, d.crowd b = false) (ha : ∀ i, i < d.n → ∀ j ∈ d.after i, j < d.n) (hac : ∀ b : List Int, b.length = d.n → 0 < unset b → ∃ i, i < d.n ∧ d.ready b i = true)
    {r : List Int} (h : make c c.n (List.replicate c.n (-1)) = (r, true)) : ∃ r', make d d.n (List.replicate d.n (-1)) = (r', true) ∧ r'.length = d.n ∧ (∀ i, i < c.n → at_ r' i ≤ at_ r i) ∧ d.stop r' ≤ c.stop r := by
  obtain ⟨h1, h2, _⟩ := make_ok (by omega) _ _ _ (init_part c) (init_unset c) h
  have hA := h1.allowed h2
  have hT : Allowed d (at_ r) := ⟨fun i hi => by
    obtain ⟨k1, k2, k3, k4⟩ := hA.ok i (by omega)
    rw [htk, haf]
    exact ⟨by omega, by omega, hr i _ (by omega) k3, k4⟩⟩
  obtain ⟨r', e, hl', _, hle⟩ := make_first hf ht hc hT ha hac _ _ (by rw [List.length_replicate]) (init_unset d) fun i hi hs => by
    refine absurd ?_ hs
    simp [at_, List.getD_eq_getElem?_getD, hi]
  refine ⟨r', e, hl', fun i hi => hle i (by omega), ?_⟩
  unfold stop
  rw [hn]
  refine fold_max_le _ _ _ hfl fun i hi => ?_
  have := hle i (by rw [hn]; exact List.mem_range.1 hi)
  unfold endT
  rw [htk]
  omega
theorem least_iff {l : List Int} {q : Int → Bool} {m : Int} : least l q = some m ↔ m ∈ l ∧ q m = true ∧ ∀ a ∈ l, q a = true → m ≤ a := by
  refine ⟨least_some, fun ⟨h1, h2, h3⟩ => ?_⟩
  cases h : least l q with
  | none => rw [least_none.1 h m h1] at h2; cases h2
  | some k =>
    obtain ⟨k1, k2, k3⟩ := least_some h
    have e : k = m := Int.le_antisymm (k3 m h1 h2) (h3 k k1 k2)
    rw [e]
/-- Only what passes counts. -/
theorem least_ext {l l' : List Int} {q : Int → Bool} (h : ∀ t, q t = true → (t ∈ l ↔ t ∈ l')) : least l q = least l' q := by
  cases h1 : least l' q with
  | none =>
    refine least_none.2 fun a ha => ?_
    cases hq : q a
    · rfl
    · have := least_none.1 h1 a ((h a hq).1 ha)
      rw [hq] at this; cases this
  | some m =>
    obtain ⟨k1, k2, k3⟩ := least_some h1
    exact least_iff.2 ⟨(h m k2).2 k1, k2, fun a ha hq => k3 a ((h a hq).1 ha) hq⟩
/-- The first of an ascending list. -/
theorem find_least : ∀ {l : List Int} {q : Int → Bool}, l.Pairwise (· ≤ ·) → l.find? q = least l q
  | [], q, _ => rfl
  | a :: l, q, h => by
    obtain ⟨h1, h2⟩ := List.pairwise_cons.1 h
    have ih := find_least (q := q) h2
    rw [List.find?_cons]
    cases hq : q a
    · simp only
      rw [ih]
      refine least_ext fun t ht => ?_
      constructor
      · exact fun k => List.mem_cons_of_mem _ k
      · intro k
        rcases List.mem_cons.1 k with rfl | k
        · rw [hq] at ht; cases ht
        · exact k
    · simp only
      refine (least_iff.2 ⟨List.mem_cons_self .., hq, fun b hb _ => ?_⟩).symm
      rcases List.mem_cons.1 hb with rfl | hb
      · exact Int.le_refl _
      · exact h1 b hb
/-- The best so far, -1 for none. -/
def bestR (l : List Int) (q : Int → Bool) (b : Int) : Int := l.foldl (fun best t => if 0 ≤ t ∧ (best < 0 ∨ t < best) ∧ q t = true then t else best) b
def optI (o : Option Int) : Int := o.getD (-1)
theorem best_least {q : Int → Bool} (hq : ∀ t, q t = true → 0 ≤ t) : ∀ (l r : List Int), bestR l q (optI (least r q)) = optI (least (r ++ l) q)
  | [], r => by rw [List.append_nil]; rfl
  | t :: l, r => by
    have e : r ++ t :: l = (r ++ [t]) ++ l := by simp
    rw [e, ← best_least hq l (r ++ [t])]
    unfold bestR
    rw [List.foldl_cons]
    congr 1
    cases hr : least r q with
    | none =>
      have hn := least_none.1 hr
      cases hqt : q t
      · have : least (r ++ [t]) q = none := least_none.2 fun a ha => by
          rcases List.mem_append.1 ha with ha | ha
          · exact hn a ha
          · rw [List.mem_singleton.1 ha]; exact hqt
        rw [this]
        simp [optI]
      · have : least (r ++ [t]) q = some t := least_iff.2 ⟨by simp, hqt, fun a ha hqa => by
          rcases List.mem_append.1 ha with ha | ha
          · rw [hn a ha] at hqa; cases hqa
          · rw [List.mem_singleton.1 ha]; exact Int.le_refl _⟩
        rw [this]
        have := hq t hqt
        simp [optI, this]
    | some m =>
      obtain ⟨m1, m2, m3⟩ := least_some hr
      have hm := hq m m2
      have hm1 : ¬ m < 0 := by omega
      by_cases hc : t < m ∧ q t = true
      · have : least (r ++ [t]) q = some t := least_iff.2 ⟨by simp, hc.2, fun a ha hqa => by
          rcases List.mem_append.1 ha with ha | ha
          · have := m3 a ha hqa; omega
          · rw [List.mem_singleton.1 ha]; exact Int.le_refl _⟩
        rw [this]
        have := hq t hc.2
        simp [optI, this, hc]
      · have : least (r ++ [t]) q = some m := least_iff.2 ⟨by simp [m1], m2, fun a ha hqa => by
          rcases List.mem_append.1 ha with ha | ha
          · exact m3 a ha hqa
          · rw [List.mem_singleton.1 ha] at hqa ⊢
            have : ¬ t < m := fun h => hc ⟨h, hqa⟩
            omega⟩
        rw [this]
        show (if 0 ≤ t ∧ (m < 0 ∨ t < m) ∧ q t = true then t else m) = m
        have hn : ¬ (0 ≤ t ∧ (m < 0 ∨ t < m) ∧ q t = true) := fun ⟨_, h1, h2⟩ => hc ⟨by omega, h2⟩
        exact if_neg hn
theorem best_eq {q : Int → Bool} (hq : ∀ t, q t = true → 0 ≤ t) (l : List Int) : bestR l q (-1) = optI (least l q) := best_least hq l []
/-- In each set of steps one waits for none of the set. -/
def Acy (c : Sch) : Prop := ∀ T : Nat → Bool, (∃ i, i < c.n ∧ T i = true) → ∃ i, i < c.n ∧ T i = true ∧ ∀ j ∈ c.after i, T j = false
theorem unset_pos {b : List Int} (h : 0 < unset b) : ∃ i, i < b.length ∧ at_ b i = -1 := by
  unfold unset at h
  obtain ⟨a, ha⟩ := List.exists_mem_of_length_pos h
  obtain ⟨h1, h2⟩ := List.mem_filter.1 ha
  obtain ⟨i, hi, e⟩ := List.getElem_of_mem h1
  refine ⟨i, hi, ?_⟩
  have : a = -1 := by simpa using h2
  simp [at_, List.getD_eq_getElem?_getD, hi, e, this]
theorem ready_some {c : Sch} (hA : Acy c) {b : List Int} (hl : b.length = c.n) (hu : 0 < unset b) : ∃ i, i < c.n ∧ c.ready b i = true := by
  obtain ⟨i, hi, e⟩ := unset_pos hu
  obtain ⟨k, hk, h1, h2⟩ := hA (fun i => decide (at_ b i = -1)) ⟨i, by omega, by simpa using e⟩
  exact ⟨k, hk, ready_iff.2 ⟨by simpa using h1, fun j hj => by simpa using h2 j hj⟩⟩
/-- Where nothing is placed, some step is ready: the first of them is named. -/
def stuck (c : Sch) (b : List Int) : Int := match (List.range c.n).find? (c.ready b) with
  | some i => i
  | none => -1
theorem stuck_in {c : Sch} (hA : Acy c) {b : List Int} (hl : b.length = c.n) (hu : 0 < unset b) : 0 ≤ c.stuck b ∧ c.stuck b < c.n := by
  obtain ⟨i, hi, hr⟩ := ready_some hA hl hu
  unfold stuck
  cases h : (List.range c.n).find? (c.ready b) with
  | none =>
    have := List.find?_eq_none.1 h i (List.mem_range.2 hi)
    exact absurd hr this
  | some k =>
    have := List.mem_range.1 (List.mem_of_find?_eq_some h)
    simp only
    omega
end Sch
end Go.Proofs.YtopfddchckdhgaaGreat
