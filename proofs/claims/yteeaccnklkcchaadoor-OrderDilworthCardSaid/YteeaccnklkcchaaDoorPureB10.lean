
/- Ideals are the beginnings of lines: no program is walked here. -/
import Derived.Test.YteeaccnklkcchaaDoorRows10
namespace Go.Proofs.YteeaccnklkcchaaDoor
set_option linter.unusedSimpArgs false
set_option linter.unusedVariables false
open Go Go.RowKit
set_option maxRecDepth 100000
set_option linter.unusedSectionVars false
theorem exists_max {f : Nat → Nat} : ∀ {l : List Nat}, l ≠ [] → ∃ x ∈ l, ∀ y ∈ l, f y ≤ f x
  | [], h => absurd rfl h
  | [a], _ => ⟨a, List.mem_cons_self .., fun y hy => by obtain rfl := List.mem_singleton.1 hy; exact Nat.le_refl _⟩
  | a :: b :: r, _ => by
    obtain ⟨x, hx, hm⟩ := exists_max (f := f) (l := b :: r) (by simp)
    by_cases h : f x ≤ f a
    · refine ⟨a, List.mem_cons_self .., fun y hy => ?_⟩
      rcases List.mem_cons.1 hy with rfl | hy
      · exact Nat.le_refl _
      · exact Nat.le_trans (hm y hy) h
    · refine ⟨x, List.mem_cons_of_mem _ hx, fun y hy => ?_⟩
      rcases List.mem_cons.1 hy with rfl | hy
      · omega
      · exact hm y hy
theorem exists_min {f : Nat → Nat} : ∀ {l : List Nat}, l ≠ [] → ∃ x ∈ l, ∀ y ∈ l, f x ≤ f y
  | [], h => absurd rfl h
  | [a], _ => ⟨a, List.mem_cons_self .., fun y hy => by obtain rfl := List.mem_singleton.1 hy; exact Nat.le_refl _⟩
  | a :: b :: r, _ => by
    obtain ⟨x, hx, hm⟩ := exists_min (f := f) (l := b :: r) (by simp)
    by_cases h : f a ≤ f x
    · refine ⟨a, List.mem_cons_self .., fun y hy => ?_⟩
      rcases List.mem_cons.1 hy with rfl | hy
      · exact Nat.le_refl _
      · exact Nat.le_trans h (hm y hy)
    · refine ⟨x, List.mem_cons_of_mem _ hx, fun y hy => ?_⟩
      rcases List.mem_cons.1 hy with rfl | hy
      · omega
      · exact hm y hy
theorem filter_lt {p q : Nat → Bool} {x : Nat} : ∀ {l : List Nat}, (∀ j ∈ l, p j = true → q j = true) → x ∈ l → q x = true → p x = false → (l.filter p).length < (l.filter q).length
  | [], _, h, _, _ => by cases h
  | a :: r, hs, hx, hq, hp => by
    have hle : (r.filter p).length ≤ (r.filter q).length := by
      have : ∀ (r : List Nat), (∀ j ∈ r, p j = true → q j = true) → (r.filter p).length ≤ (r.filter q).length := by
        intro r
        induction r with
        | nil => intro _; exact Nat.le_refl _
        | cons b s ih =>
          intro h
          have h1 := ih fun j hj => h j (List.mem_cons_of_mem _ hj)
          have h2 := h b (List.mem_cons_self ..)
          cases c1 : p b <;> cases c2 : q b <;> simp [List.filter_cons, c1, c2] <;> first | omega | (rw [c1, c2] at h2; simp at h2)
      exact this r fun j hj => hs j (List.mem_cons_of_mem _ hj)
    rcases List.mem_cons.1 hx with rfl | hx
    · simp [List.filter_cons, hq, hp]; omega
    · have h1 := filter_lt (fun j hj => hs j (List.mem_cons_of_mem _ hj)) hx hq hp
      have h2 := hs a (List.mem_cons_self ..)
      cases c1 : p a <;> cases c2 : q a <;> simp [List.filter_cons, c1, c2] <;> first | omega | (rw [c1, c2] at h2; simp at h2)
theorem card_lt {a b x : Nat} (h : ∀ j, a.testBit j = true → b.testBit j = true) (hx : x < 12) (hb : b.testBit x = true) (ha : a.testBit x = false) : card a < card b := by
  unfold card lst
  exact filter_lt (fun j _ hj => h j hj) (List.mem_range.2 hx) hb ha
section
variable {A : List (List Int)}
/-- What comes before grows along the order. -/
theorem bef_card (h0 : (ofS A).1 = 0) {x y : Nat} (h : x ∈ (natA A).getD y []) : card ((bef (natA A)).getD x 0) < card ((bef (natA A)).getD y 0) := by
  obtain ⟨h12, hS, hdn, hb, hbl, hn, hr, _, _, _⟩ := ord_ok h0
  have hyx : Bef (natA A) y x := Bef.step.2 (.inl h)
  have hxn := (hr y x h).1
  refine card_lt (x := x) (fun j hj => ?_) (by omega) ((bef_iff hn y x).2 hyx) ?_
  · exact (bef_iff hn y j).2 (hyx.trans ((bef_iff hn x j).1 hj))
  · cases hc : ((bef (natA A)).getD x 0).testBit x with
    | false => rfl
    | true =>
      obtain ⟨m, h1, h2⟩ := (bef_iff hn x x).1 hc
      exact absurd h2 (hn x m h1)
theorem rdy_some (h0 : (ofS A).1 = 0) {s : Nat} (hs : s < 2 ^ A.length) (hne : s ≠ 2 ^ A.length - 1) : ∃ x, x ∈ lst (rdyF s 0 (ofS A).2.1) := by
  obtain ⟨h12, hS, hdn, hb, hbl, hn, hr, _, _, _⟩ := ord_ok h0
  obtain ⟨i, hi, hib⟩ := not_full hs hne
  obtain ⟨x, hx, hm⟩ := exists_min (f := fun x => card ((bef (natA A)).getD x 0)) (l := (List.range A.length).filter fun i => !s.testBit i) (List.ne_nil_of_mem (List.mem_filter.2 ⟨List.mem_range.2 hi, by simp [hib]⟩))
  have hx2 := List.mem_filter.1 hx
  simp only [List.mem_range, Bool.not_eq_true'] at hx2
  refine ⟨x, (mem_lst' ?_).2 ((rdy_iff hS).2 ⟨by rw [natA_len]; exact hx2.1, hx2.2, fun k hk => ?_⟩)⟩
  · have := rdyF_lt s (ofS A).2.1 0
    rw [Nat.zero_add, hdn] at this
    have := two_pow_le h12
    omega
  · cases hkb : s.testBit k with
    | true => rfl
    | false =>
      have h1 := hm k (List.mem_filter.2 ⟨List.mem_range.2 (hr x k hk).1, by simp [hkb]⟩)
      have h2 := bef_card h0 hk
      omega
theorem ideal_or (h0 : (ofS A).1 = 0) {s x : Nat} (hs : s < 2 ^ A.length) (hi : idealD (ofS A).2.1 s = true) (hx : x ∈ lst (rdyF s 0 (ofS A).2.1)) : idealD (ofS A).2.1 (s ||| 2 ^ x) = true := by
  obtain ⟨h12, hS, hdn, hb, hbl, hn, hr, _, _, _⟩ := ord_ok h0
  have hp := two_pow_le h12
  have hx2 := rdy_mem (by omega) hx
  rw [hdn] at hx2
  have hor := or_lt hs hx2.1
  have hrl := rdyF_lt s (ofS A).2.1 0
  rw [Nat.zero_add, hdn] at hrl
  have hrd := (rdy_iff hS).1 ((mem_lst' (by omega)).1 hx)
  rw [idealD_iff hS (by omega)] at hi ⊢
  intro i hib k hk
  rw [testBit_or2, Bool.or_eq_true, decide_eq_true_eq] at hib ⊢
  rcases hib with h | rfl
  · exact .inl (hi i h k hk)
  · exact .inl (hrd.2.2 k hk)
theorem way_pos (h0 : (ofS A).1 = 0) : ∀ (f s : Nat), card s + f = A.length → s < 2 ^ A.length → 1 ≤ wayN (ofS A).2.1 f s
  | 0, _, _, _ => Nat.le_refl _
  | f + 1, s, hc, hs => by
    obtain ⟨h12, hS, hdn, hb, hbl, hn, hr, _, _, _⟩ := ord_ok h0
    have hne : s ≠ 2 ^ A.length - 1 := fun e => by have := (card_full hs h12).2 e; omega
    obtain ⟨x, hx⟩ := rdy_some h0 hs hne
    have hx2 := rdy_mem (by omega) hx
    rw [hdn] at hx2
    have h1 := way_pos h0 f (s ||| 2 ^ x) (by rw [card_or (by omega) hx2.2]; omega) (or_lt hs hx2.1)
    rw [wayN]
    have h2 : wayN (ofS A).2.1 f (s ||| 2 ^ x) ≤ ((lst (rdyF s 0 (ofS A).2.1)).map fun i => wayN (ofS A).2.1 f (s ||| 2 ^ i)).sum := by
      have : ∀ {l : List Nat} {g : Nat → Nat}, x ∈ l → g x ≤ (l.map g).sum := by
        intro l g
        induction l with
        | nil => intro h; cases h
        | cons a r ih =>
          intro h
          rw [List.map_cons, List.sum_cons]
          rcases List.mem_cons.1 h with rfl | h
          · omega
          · have := ih h; omega
      exact this (g := fun i => wayN (ofS A).2.1 f (s ||| 2 ^ i)) hx
    omega
theorem count_pos (h0 : (ofS A).1 = 0) : 1 ≤ wayS (ofS A).2.1 0 := by
  unfold wayS
  rw [card_zero, (ord_ok h0).2.2.1]
  exact way_pos h0 _ 0 (by rw [card_zero]; omega) (Nat.pow_pos (by decide))
/-- An element that an ideal which is not empty can leave out. -/
theorem ideal_max (h0 : (ofS A).1 = 0) {s : Nat} (hs : s < 2 ^ A.length) (hi : idealD (ofS A).2.1 s = true) (hne : s ≠ 0) : ∃ x, x < A.length ∧ s.testBit x = true ∧ idealD (ofS A).2.1 (sub s (2 ^ x)) = true := by
  obtain ⟨h12, hS, hdn, hb, hbl, hn, hr, _, _, _⟩ := ord_ok h0
  have hp := two_pow_le h12
  have hl : lst s ≠ [] := fun e => by
    have h1 : card s = 0 := by unfold card; rw [e]; rfl
    have : ∀ j, s.testBit j = false := fun j => by
      cases hj : s.testBit j with
      | false => rfl
      | true => have := (mem_lst' (by omega)).2 hj; rw [e] at this; cases this
    exact hne (Nat.eq_of_testBit_eq fun j => by rw [this j, Nat.zero_testBit])
  obtain ⟨x, hx, hm⟩ := exists_max (f := fun x => card ((bef (natA A)).getD x 0)) hl
  have hxb := (mem_lst' (by omega)).1 hx
  have hxn : x < A.length := mem_lst hx hs
  refine ⟨x, hxn, hxb, ?_⟩
  have hsl : sub s (2 ^ x) < 4096 := sub_lt' (by omega)
  rw [idealD_iff hS hsl]
  rw [idealD_iff hS (by omega)] at hi
  intro i hib k hk
  rw [testBit_sub, Nat.testBit_two_pow] at hib ⊢
  simp only [Bool.and_eq_true, Bool.not_eq_true', decide_eq_false_iff_not] at hib ⊢
  refine ⟨hi i hib.1 k hk, ?_⟩
  rintro rfl
  have h1 := hm i ((mem_lst' (by omega)).2 hib.1)
  have h2 := bef_card h0 hk
  omega
/-- The ideal without one element enables it. -/
theorem ideal_less (h0 : (ofS A).1 = 0) {s x : Nat} (hs : s < 2 ^ A.length) (hi : idealD (ofS A).2.1 s = true) (hx : s.testBit x = true) : x ∈ lst (rdyF (sub s (2 ^ x)) 0 (ofS A).2.1) := by
  obtain ⟨h12, hS, hdn, hb, hbl, hn, hr, _, _, _⟩ := ord_ok h0
  have hp := two_pow_le h12
  have hxn : x < A.length := Nat.lt_of_not_le fun h => by
    rw [Nat.testBit_lt_two_pow (Nat.lt_of_lt_of_le hs (Nat.pow_le_pow_right (by decide) h))] at hx
    cases hx
  have hrl := rdyF_lt (sub s (2 ^ x)) (ofS A).2.1 0
  rw [Nat.zero_add, hdn] at hrl
  rw [idealD_iff hS (by omega)] at hi
  refine (mem_lst' (by omega)).2 ((rdy_iff hS).2 ⟨by rw [natA_len]; exact hxn, ?_, fun k hk => ?_⟩)
  · rw [testBit_sub, Nat.testBit_two_pow]; simp
  · rw [testBit_sub, Nat.testBit_two_pow]
    have h1 := hi x hx k hk
    have h2 := (hr x k hk).2
    simp [h1, Ne.symm h2]
theorem pick_memB {c : Nat → Nat} : ∀ {l : List Nat} {k i k' : Nat}, pickN c l k = some (i, k') → i ∈ l
  | [], _, _, _, h => by cases h
  | a :: r, k, i, k', h => by
    rw [pickN] at h
    split at h
    · obtain ⟨rfl, _⟩ := Prod.mk.inj (Option.some.inj h)
      exact List.mem_cons_self ..
    · exact List.mem_cons_of_mem _ (pick_memB h)
theorem sub_none {s x : Nat} (h : s.testBit x = false) : sub s (2 ^ x) = s := by
  apply Nat.eq_of_testBit_eq
  intro j
  rw [testBit_sub, Nat.testBit_two_pow]
  by_cases e : x = j
  · subst e; simp [h]
  · simp [e]
theorem sub_some {s x : Nat} (h : s.testBit x = true) : sub s (2 ^ x) ≠ s := by
  intro e
  have h1 := testBit_sub s (2 ^ x) x
  rw [e, h, Nat.testBit_two_pow] at h1
  simp at h1
theorem le_of_bits10 {a b : Nat} (h : ∀ j, a.testBit j = true → b.testBit j = true) : a ≤ b := by
  have : a &&& b = a := Nat.eq_of_testBit_eq fun j => by
    rw [Nat.testBit_and]
    cases hj : a.testBit j with
    | false => rfl
    | true => rw [h j hj]; rfl
  rw [← this]
  exact Nat.and_le_right
theorem subLt {s x n : Nat} (h : s < 2 ^ n) : sub s (2 ^ x) < 2 ^ n := by
  refine Nat.lt_of_le_of_lt (le_of_bits10 fun j hj => ?_) h
  rw [testBit_sub, Bool.and_eq_true] at hj
  exact hj.1
theorem idL_mem {ds : List Nat} {M s : Nat} : s ∈ idL ds M ↔ s < M ∧ idealD ds s = true := by
  unfold idL
  rw [List.mem_filter, List.mem_range]
theorem idL_head {ds : List Nat} {M : Nat} (hM : 0 < M) : ∃ r, idL ds M = 0 :: r ∧ ∀ s ∈ r, s ≠ 0 := by
  obtain ⟨m, rfl⟩ : ∃ m, M = m + 1 := ⟨M - 1, by omega⟩
  refine ⟨((List.range m).map Nat.succ).filter (idealD ds), ?_, fun s hs => ?_⟩
  · unfold idL
    rw [List.range_succ_eq_map, List.filter_cons]
    have : idealD ds 0 = true := by rw [idealD, lst_zero]; rfl
    rw [this]
    rfl
  · obtain ⟨y, _, rfl⟩ := List.mem_map.1 (List.mem_filter.1 hs).1
    omega
end
end Go.Proofs.YteeaccnklkcchaaDoor
