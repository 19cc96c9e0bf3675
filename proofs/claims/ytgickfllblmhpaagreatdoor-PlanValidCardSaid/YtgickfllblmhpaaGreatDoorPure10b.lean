
/- The plain laws of layer 10: the errors of an order, and its closure, told in two ways. -/
import Derived.Test.YtgickfllblmhpaaGreatDoorPure10
namespace Go.Proofs.YtgickfllblmhpaaGreatDoor
set_option linter.unusedSimpArgs false
set_option linter.unusedVariables false
set_option linter.unusedSectionVars false
def natA (after : List (List Int)) : List (List Nat) := after.map (·.map Int.toNat)
def offB (n i : Int) (k : Int) : Bool := decide (k < 0) || decide (n ≤ k) || decide (k = i)
def badB (n : Int) : Nat → List (List Int) → Bool
  | _, [] => false
  | i, l :: r => l.any (offB n i) || badB n (i + 1) r
def cycB (after : List (List Int)) : Bool := (List.range after.length).any fun i => ((bef (natA after)).getD i 0).testBit i
def refErr (after : List (List Int)) : Int := if 12 < after.length then 1 else if !after.all ascL then 1 else if badB after.length 0 after then 2 else if cycB after then 12 else 0
theorem dirL_none {n i : Int} : ∀ {l : List Int} {s : Nat}, dirL n i s l = none ↔ l.any (offB n i) = true
  | [], s => by simp [dirL]
  | k :: r, s => by
    unfold dirL
    by_cases h : k < 0 ∨ n ≤ k ∨ k = i
    · rw [if_pos h]
      simp only [List.any_cons, offB, Bool.or_eq_true, decide_eq_true_eq, true_iff]
      left
      omega
    · rw [if_neg h, dirL_none]
      have : offB n i k = false := by simp [offB]; omega
      simp [this]
theorem dirs_none {n : Int} : ∀ {ll : List (List Int)} {i : Nat}, dirs n i ll = none ↔ badB n i ll = true
  | [], i => by simp [dirs, badB]
  | l :: r, i => by
    unfold dirs badB
    cases h : dirL n i 0 l with
    | none => simp [dirL_none.1 h]
    | some d =>
      have h1 : l.any (offB n i) = false := by
        rw [← Bool.not_eq_true]
        intro h2
        rw [dirL_none.2 h2] at h
        cases h
      rw [h1, Bool.false_or, ← dirs_none]
      simp
theorem natA_len (after : List (List Int)) : (natA after).length = after.length := by simp [natA]
theorem natA_get {after : List (List Int)} {i : Nat} (h : i < after.length) : (natA after).getD i [] = after[i].map Int.toNat := by
  rw [List.getD_eq_getElem?_getD, natA, List.getElem?_map, List.getElem?_eq_getElem h]; rfl
theorem dirs_sets {after : List (List Int)} {ds : List Nat} (h : dirs after.length 0 after = some ds) : Sets (natA after) ds ∧ (∀ i k, k ∈ (natA after).getD i [] → k < after.length ∧ k ≠ i) ∧ ∀ i (h : i < after.length), ∀ k ∈ after[i], 0 ≤ k := by
  obtain ⟨hl, hg⟩ := dirs_get h
  have hg' : ∀ j (h : j < after.length), dirL after.length (j : Int) 0 after[j] = some (ds.getD j 0) := fun j hj => by
    have := hg j hj
    rwa [Nat.zero_add] at this
  refine ⟨⟨by rw [hl, natA_len], fun i k => ?_⟩, fun i k hk => ?_, fun i hi k hk => (dirL_range (hg' i hi) k hk).1⟩
  · by_cases hi : i < after.length
    · rw [natA_get hi]
      simp only [bit]
      rw [dirL_bit (hg' i hi), Nat.zero_testBit, Bool.false_or, List.any_eq_true, List.mem_map]
      simp only [beq_iff_eq]
    · have h1 : ds.getD i 0 = 0 := by rw [List.getD_eq_getElem?_getD, List.getElem?_eq_none (by omega)]; rfl
      have h2 : (natA after).getD i [] = [] := by rw [List.getD_eq_getElem?_getD, List.getElem?_eq_none (by rw [natA_len]; omega)]; rfl
      rw [bit, h1, h2]
      simp
  · have hi : i < after.length := by have := mem_lt hk; rwa [natA_len] at this
    rw [natA_get hi] at hk
    obtain ⟨x, hx, rfl⟩ := List.mem_map.1 hk
    have := dirL_range (hg' i hi) x hx
    omega
theorem kahn_err (ds : List Nat) (n : Nat) : ∀ f done all, (kahn ds n f done all).1 = 0 ∨ (kahn ds n f done all).1 = 12
  | 0, _, _ => .inr rfl
  | f + 1, done, all => by
    unfold kahn
    split
    · exact .inl rfl
    · simp only
      split
      · exact .inr rfl
      · exact kahn_err ds n f _ _
theorem pow12 {k : Nat} (h : k ≤ 12) : 2 ^ k ≤ 4096 := by
  have := Nat.pow_le_pow_right (n := 2) (by decide) h
  simpa using this
theorem cycB_iff {after : List (List Int)} : cycB after = true ↔ ¬ NoCyc (natA after) := by
  rw [← bef_cyc, cycB, List.any_eq_true]
  simp only [List.mem_range, natA_len, bit]
theorem refErr_eq (after : List (List Int)) : refErr after = (ofS after).1 := by
  unfold refErr ofS
  split
  · rfl
  · rename_i h12
    split
    · rfl
    · cases hd : dirs after.length 0 after with
      | none => rw [dirs_none] at hd; rw [if_pos hd]
      | some ds =>
        have hb : badB after.length 0 after = false := by
          rw [← Bool.not_eq_true, ← dirs_none, hd]
          simp
        rw [hb]
        obtain ⟨hS, hr, _⟩ := dirs_sets hd
        simp only [Bool.false_eq_true, if_false]
        rcases kahn_err ds after.length 4096 0 (List.replicate after.length 0) with h | h
        · rw [h, if_neg]
          rw [cycB_iff]
          intro hn
          exact hn (kahn_nocyc hS (by rw [natA_len]; exact h))
        · rw [h, if_pos]
          rw [cycB_iff]
          exact kahn_cyc hS (fun i k hk => by rw [natA_len]; exact (hr i k hk).1) (by rw [natA_len]; exact pow12 (by omega)) (all := List.replicate after.length 0) (by rw [natA_len, h]; decide)
/-- What follows from what is known of those directly before. -/
theorem foldU {i : Nat} : ∀ {L a : List Nat}, i < a.length → i ∉ L → (L.foldl (fun a k => a.set i (a.getD i 0 ||| a.getD k 0)) a).length = a.length ∧ (∀ x, x ≠ i → (L.foldl (fun a k => a.set i (a.getD i 0 ||| a.getD k 0)) a).getD x 0 = a.getD x 0) ∧ ∀ j, bit (L.foldl (fun a k => a.set i (a.getD i 0 ||| a.getD k 0)) a) i j ↔ bit a i j ∨ ∃ k, k ∈ L ∧ bit a k j
  | [], a, _, _ => ⟨rfl, fun _ _ => rfl, fun j => by simp⟩
  | k :: r, a, hi, hn => by
    have hk : k ≠ i := fun e => hn (e ▸ List.mem_cons_self ..)
    have hr : i ∉ r := fun h => hn (List.mem_cons_of_mem _ h)
    simp only [List.foldl_cons]
    obtain ⟨h1, h2, h3⟩ := foldU (L := r) (a := a.set i (a.getD i 0 ||| a.getD k 0)) (by simpa using hi) hr
    have hx : ∀ x, x ≠ i → (a.set i (a.getD i 0 ||| a.getD k 0)).getD x 0 = a.getD x 0 := fun x hx => by
      rw [getD_set, if_neg (fun h => hx h.1.symm)]
    refine ⟨by rw [h1]; simp, fun x hxi => by rw [h2 x hxi, hx x hxi], fun j => ?_⟩
    rw [h3 j]
    have hb : bit (a.set i (a.getD i 0 ||| a.getD k 0)) i j ↔ bit a i j ∨ bit a k j := by
      simp only [bit, getD_set, hi, and_self, if_true, Nat.testBit_or, Bool.or_eq_true]
    rw [hb]
    constructor
    · rintro ((h | h) | ⟨y, hy, h⟩)
      · exact .inl h
      · exact .inr ⟨k, List.mem_cons_self .., h⟩
      · refine .inr ⟨y, List.mem_cons_of_mem _ hy, ?_⟩
        have hyi : y ≠ i := fun e => hr (e ▸ hy)
        simpa only [bit, hx y hyi] using h
    · rintro (h | ⟨y, hy, h⟩)
      · exact .inl (.inl h)
      · rcases List.mem_cons.1 hy with rfl | hy
        · exact .inl (.inr h)
        · have hyi : y ≠ i := fun e => hr (e ▸ hy)
          exact .inr ⟨y, hy, by simpa only [bit, hx y hyi] using h⟩
theorem mem_lst' {s k : Nat} (h : s < 4096) : k ∈ lst s ↔ s.testBit k = true := by
  simp only [lst, List.mem_filter, List.mem_range]
  refine ⟨fun h => by simpa using h.2, fun hk => ⟨?_, by simpa using hk⟩⟩
  rcases Nat.lt_or_ge k 12 with h1 | h1
  · exact h1
  · rw [Nat.testBit_lt_two_pow (Nat.lt_of_lt_of_le h (by have := Nat.pow_le_pow_right (n := 2) (by decide) h1; simpa using this))] at hk
    cases hk
theorem upd_spec {ds a : List Nat} {i : Nat} (hi : i < a.length) (hd : ds.getD i 0 < 4096) (hn : ¬ bit ds i i) : (upd ds a i).length = a.length ∧ (∀ x, x ≠ i → (upd ds a i).getD x 0 = a.getD x 0) ∧ ∀ j, bit (upd ds a i) i j ↔ bit ds i j ∨ ∃ k, bit ds i k ∧ bit a k j := by
  have hx : ∀ x, x ≠ i → (a.set i (ds.getD i 0)).getD x 0 = a.getD x 0 := fun x hx => by rw [getD_set, if_neg (fun h => hx h.1.symm)]
  obtain ⟨h1, h2, h3⟩ := foldU (i := i) (L := lst (ds.getD i 0)) (a := a.set i (ds.getD i 0)) (by simpa using hi) (fun h => hn ((mem_lst' hd).1 h))
  refine ⟨by unfold upd; rw [h1]; simp, fun x hxi => by unfold upd; rw [h2 x hxi, hx x hxi], fun j => ?_⟩
  unfold upd
  rw [h3 j]
  have hb : bit (a.set i (ds.getD i 0)) i j ↔ bit ds i j := by simp only [bit, getD_set, hi, and_self, if_true]
  rw [hb]
  refine or_congr Iff.rfl ⟨?_, ?_⟩
  · rintro ⟨k, hk, h⟩
    have hk' := (mem_lst' hd).1 hk
    have hki : k ≠ i := fun e => hn (e ▸ hk')
    exact ⟨k, hk', by simpa only [bit, hx k hki] using h⟩
  · rintro ⟨k, hk, h⟩
    have hki : k ≠ i := fun e => hn (e ▸ hk)
    exact ⟨k, (mem_lst' hd).2 hk, by simpa only [bit, hx k hki] using h⟩
theorem updL_spec {ds : List Nat} {done : Nat} : ∀ {L a : List Nat}, (∀ i ∈ L, i < a.length ∧ ds.getD i 0 < 4096 ∧ done.testBit i = false ∧ ∀ k, bit ds i k → done.testBit k = true) → (L.foldl (upd ds) a).length = a.length ∧ (∀ x, x ∉ L → (L.foldl (upd ds) a).getD x 0 = a.getD x 0) ∧ ∀ i ∈ L, ∀ j, bit (L.foldl (upd ds) a) i j ↔ bit ds i j ∨ ∃ k, bit ds i k ∧ bit a k j
  | [], a, _ => ⟨rfl, fun _ _ => rfl, fun i hi => absurd hi (by simp)⟩
  | i :: r, a, h => by
    obtain ⟨hi, hd, hb, hk⟩ := h i (List.mem_cons_self ..)
    obtain ⟨u1, u2, u3⟩ := upd_spec (ds := ds) hi hd (fun e => by have := hk i e; rw [hb] at this; cases this)
    obtain ⟨h1, h2, h3⟩ := updL_spec (ds := ds) (done := done) (L := r) (a := upd ds a i) fun x hx => by
      have := h x (List.mem_cons_of_mem _ hx)
      exact ⟨by rw [u1]; exact this.1, this.2⟩
    simp only [List.foldl_cons]
    have keep : ∀ k, done.testBit k = true → ∀ j, bit (upd ds a i) k j ↔ bit a k j := fun k hk2 j => by
      have : k ≠ i := fun e => by rw [e, hb] at hk2; cases hk2
      simp only [bit, u2 k this]
    refine ⟨h1.trans u1, fun x hx => ?_, fun x hx j => ?_⟩
    · rw [h2 x fun h => hx (List.mem_cons_of_mem _ h), u2 x fun e => hx (e ▸ List.mem_cons_self ..)]
    · by_cases hxr : x ∈ r
      · rw [h3 x hxr j]
        have hkx := (h x (List.mem_cons_of_mem _ hxr)).2.2.2
        exact or_congr Iff.rfl ⟨fun ⟨k, h4, h5⟩ => ⟨k, h4, (keep k (hkx k h4) j).1 h5⟩, fun ⟨k, h4, h5⟩ => ⟨k, h4, (keep k (hkx k h4) j).2 h5⟩⟩
      · have : x = i := by rcases List.mem_cons.1 hx with h | h; exact h; exact absurd h hxr
        subst this
        simp only [bit, h2 x hxr]
        exact u3 j
/-- All that comes before an element. -/
def Bef (ls : List (List Nat)) (i j : Nat) : Prop := ∃ m, 1 ≤ m ∧ Wk ls m i j
theorem Bef.step {ls : List (List Nat)} {i j : Nat} : Bef ls i j ↔ j ∈ ls.getD i [] ∨ ∃ k, k ∈ ls.getD i [] ∧ Bef ls k j := by
  constructor
  · rintro ⟨m, h1, h2⟩
    match m, h2 with
    | m + 1, ⟨k, hk, h2⟩ =>
      match m, h2 with
      | 0, h2 => subst h2; exact .inl hk
      | m + 1, h2 => exact .inr ⟨k, hk, m + 1, by omega, h2⟩
  · rintro (h | ⟨k, hk, m, h1, h2⟩)
    · exact ⟨1, Nat.le_refl _, j, h, rfl⟩
    · exact ⟨m + 1, by omega, k, hk, h2⟩
theorem Bef.trans {ls : List (List Nat)} {i k j : Nat} (h : Bef ls i k) (h' : Bef ls k j) : Bef ls i j := by
  obtain ⟨a, h1, h2⟩ := h
  obtain ⟨b, h3, h4⟩ := h'
  exact ⟨a + b, by omega, h2.append h4⟩
theorem kahn_clos {ls : List (List Nat)} {ds : List Nat} (hS : Sets ls ds) (h12 : ls.length ≤ 12) (hd : ∀ i, ds.getD i 0 < 4096) : ∀ (f done : Nat) (all : List Nat), (kahn ds ls.length f done all).1 = 0 → all.length = ls.length → (∀ i, i < ls.length → done.testBit i = true → ∀ j, bit all i j ↔ Bef ls i j) →
    (kahn ds ls.length f done all).2.length = ls.length ∧ ∀ i, i < ls.length → ∀ j, bit (kahn ds ls.length f done all).2 i j ↔ Bef ls i j
  | 0, done, all, h, _, _ => by simp [kahn] at h
  | f + 1, done, all, h, hl, hI => by
    unfold kahn at h ⊢
    split at h
    · rename_i hfull
      rw [if_pos hfull]
      exact ⟨hl, fun i hi => hI i hi (by rw [hfull, Nat.testBit_two_pow_sub_one]; simpa using hi)⟩
    · rename_i hfull
      rw [if_neg hfull]
      simp only at h ⊢
      split at h
      · cases h
      · rename_i hr
        rw [if_neg hr]
        have hrlt : rdyF done 0 ds < 2 ^ ds.length := by have := rdyF_lt done ds 0; rwa [Nat.zero_add] at this
        have hsub : ∀ i, (rdyF done 0 ds).testBit i = true → i < ls.length ∧ done.testBit i = false ∧ ∀ k, bit ds i k → done.testBit k = true := fun i hi => by
          obtain ⟨_, h1, h2⟩ := rdyF_has done ds 0 i hi
          rw [Nat.sub_zero] at h2
          refine ⟨by rw [← hS.1]; omega, rdyF_bit done ds 0 i hi, fun k hk => ?_⟩
          have := testBit_sub (ds.getD i 0) done k
          rw [h2, Nat.zero_testBit, show (ds.getD i 0).testBit k = true from hk, Bool.true_and] at this
          simpa using this.symm
        have hmem : ∀ i ∈ lst (rdyF done 0 ds), (rdyF done 0 ds).testBit i = true := fun i hi => by
          have := (List.mem_filter.1 hi).2
          simpa using this
        obtain ⟨h1, h2, h3⟩ := updL_spec (ds := ds) (done := done) (L := lst (rdyF done 0 ds)) (a := all) fun i hi => by
          have := hsub i (hmem i hi)
          exact ⟨by rw [hl]; exact this.1, hd i, this.2⟩
        refine kahn_clos hS h12 hd f _ _ h (h1.trans hl) fun i hi hb j => ?_
        rw [Nat.testBit_or, Bool.or_eq_true] at hb
        by_cases hir : i ∈ lst (rdyF done 0 ds)
        · rw [h3 i hir j, Bef.step]
          have hk := (hsub i (hmem i hir)).2.2
          have hin : ∀ k, bit ds i k → k < ls.length → (bit all k j ↔ Bef ls k j) := fun k hk2 hkl => hI k hkl (hk k hk2) j
          refine or_congr (hS.2 i j) ⟨?_, ?_⟩
          · rintro ⟨k, h4, h5⟩
            have hkl : k < ls.length := by
              rcases Nat.lt_or_ge k ls.length with h | h
              · exact h
              · rw [bit, List.getD_eq_getElem?_getD, List.getElem?_eq_none (by omega)] at h5; simp at h5
            exact ⟨k, (hS.2 i k).1 h4, (hin k h4 hkl).1 h5⟩
          · rintro ⟨k, h4, h5⟩
            have hkl : k < ls.length := by
              obtain ⟨m, hm1, hm2⟩ := h5
              match m, hm2 with
              | m + 1, ⟨y, hy, _⟩ => exact mem_lt hy
            exact ⟨k, (hS.2 i k).2 h4, (hin k ((hS.2 i k).2 h4) hkl).2 h5⟩
        · rcases hb with hb | hb
          · simp only [bit, h2 i hir]
            exact hI i hi hb j
          · refine absurd ?_ hir
            have hlt : i < 12 ∨ 12 ≤ i := by omega
            rcases hlt with h4 | h4
            · exact List.mem_filter.2 ⟨List.mem_range.2 h4, by simpa using hb⟩
            · exfalso
              have h7 := (hsub i hb).1
              omega
theorem eq_of_bits {a b : List Nat} (hl : a.length = b.length) (h : ∀ i, i < a.length → ∀ j, bit a i j ↔ bit b i j) : a = b := by
  refine List.ext_getElem hl fun i h1 h2 => Nat.eq_of_testBit_eq fun j => ?_
  have := h i h1 j
  simp only [bit, List.getD_eq_getElem?_getD, List.getElem?_eq_getElem h1, List.getElem?_eq_getElem h2, Option.getD_some] at this
  rw [Bool.eq_iff_iff]
  exact this
theorem dirs_lt {after : List (List Int)} {ds : List Nat} (h : dirs after.length 0 after = some ds) (h12 : after.length ≤ 12) (i : Nat) : ds.getD i 0 < 4096 := by
  obtain ⟨hS, hr, _⟩ := dirs_sets h
  refine Nat.lt_of_lt_of_le (Nat.lt_pow_two_of_testBit _ fun k hk => ?_) (pow12 (k := 12) (Nat.le_refl _))
  rcases Nat.lt_or_ge k 12 with h1 | h1
  · exfalso; omega
  · cases hb : (ds.getD i 0).testBit k with
    | false => rfl
    | true => have := hr i k ((hS.2 i k).1 hb); omega
/-- The two ways to the closure agree. -/
theorem clos_eq {after : List (List Int)} (h : (ofS after).1 = 0) : ∃ ds, dirs after.length 0 after = some ds ∧ after.length ≤ 12 ∧ NoCyc (natA after) ∧ (ofS after).2 = (ds, bef (natA after)) := by
  obtain ⟨h12, ds, hd, hk⟩ := ofS_ok h
  obtain ⟨hS, hr, _⟩ := dirs_sets hd
  have hn : NoCyc (natA after) := kahn_nocyc hS (by rw [natA_len]; exact hk)
  refine ⟨ds, hd, h12, hn, ?_⟩
  have hc := kahn_clos hS (by rw [natA_len]; exact h12) (dirs_lt hd h12) 4096 0 (List.replicate after.length 0) (by rw [natA_len]; exact hk) (by simp [natA_len]) (fun i _ hb => by rw [Nat.zero_testBit] at hb; cases hb)
  rw [natA_len] at hc
  have e : (kahn ds after.length 4096 0 (List.replicate after.length 0)).2 = bef (natA after) := by
    refine eq_of_bits (by rw [hc.1, bef, befN_len, natA_len]) fun i hi j => ?_
    rw [hc.1] at hi
    rw [hc.2 i hi j, bef_iff hn]
    exact Iff.rfl
  unfold ofS at h ⊢
  split
  · omega
  · split
    · rename_i h1 h2
      rw [if_neg h1, if_pos h2] at h
      cases h
    · rw [hd]
      simp only [e]
end Go.Proofs.YtgickfllblmhpaaGreatDoor
