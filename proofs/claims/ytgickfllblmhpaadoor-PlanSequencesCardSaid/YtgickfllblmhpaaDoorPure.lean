/- Plain laws on orders: no program is walked here. -/
import Derived.Test.YtgickfllblmhpaaDoorPlan2
namespace Go.Proofs.YtgickfllblmhpaaDoor
set_option linter.unusedSimpArgs false
set_option linter.unusedVariables false
open Go
theorem dirL_range {n i : Int} : ∀ {l : List Int} {s d : Nat}, dirL n i s l = some d → ∀ k ∈ l, 0 ≤ k ∧ k < n ∧ k ≠ i
  | [], _, _, _, k, hk => by simp at hk
  | a :: l, s, d, h, k, hk => by
    unfold dirL at h
    split at h
    · cases h
    · rename_i hc
      rcases List.mem_cons.1 hk with rfl | hk
      · omega
      · exact dirL_range h k hk
theorem dirL_bit {n i : Int} : ∀ {l : List Int} {s d : Nat}, dirL n i s l = some d → ∀ b, d.testBit b = (s.testBit b || l.any fun k => k.toNat == b)
  | [], s, d, h, b => by simp [dirL] at h; subst h; simp
  | a :: l, s, d, h, b => by
    unfold dirL at h
    split at h
    · cases h
    · rw [dirL_bit h b, Nat.testBit_or, Nat.testBit_two_pow, List.any_cons, Bool.or_assoc]
      congr 2
theorem dirs_get {n : Int} : ∀ {ll : List (List Int)} {i : Nat} {ds : List Nat}, dirs n i ll = some ds → ds.length = ll.length ∧ ∀ j (h : j < ll.length), dirL n ((i + j : Nat) : Int) 0 ll[j] = some (ds.getD j 0)
  | [], i, ds, h => by simp [dirs] at h; subst h; simp
  | l :: ll, i, ds, h => by
    unfold dirs at h
    split at h
    · cases h
    · rename_i d hd
      cases hr : dirs n (i + 1) ll with
      | none => simp [hr] at h
      | some r =>
        simp [hr] at h
        subst h
        obtain ⟨h1, h2⟩ := dirs_get hr
        refine ⟨by simp [h1], fun j hj => ?_⟩
        cases j with
        | zero => simpa using hd
        | succ j =>
          have := h2 j (by simpa using hj)
          rw [show i + 1 + j = i + (j + 1) by omega] at this
          simpa using this
theorem ofS_ok {after : List (List Int)} (h : (ofS after).1 = 0) : after.length ≤ 12 ∧ ∃ ds, dirs after.length 0 after = some ds ∧ (kahn ds after.length 4096 0 (List.replicate after.length 0)).1 = 0 := by
  unfold ofS at h
  split at h
  · cases h
  · rename_i h12
    split at h
    · cases h
    · split at h
      · cases h
      · rename_i d hd
        exact ⟨by omega, d, hd, h⟩
theorem rdyF_has (done : Nat) : ∀ (l : List Nat) (i j : Nat), (rdyF done i l).testBit j = true → i ≤ j ∧ j < i + l.length ∧ sub (l.getD (j - i) 0) done = 0
  | [], i, j, h => by simp [rdyF] at h
  | d :: r, i, j, h => by
    unfold rdyF at h
    rw [Nat.testBit_or] at h
    rcases Bool.or_eq_true _ _ ▸ h with h | h
    · split at h
      · rename_i hc
        rw [Nat.testBit_two_pow] at h
        have : i = j := by simpa using h
        subst this
        simp only [Bool.and_eq_true, beq_iff_eq] at hc
        exact ⟨Nat.le_refl _, by simp, by simpa using hc.2⟩
      · simp at h
    · obtain ⟨h1, h2, h3⟩ := rdyF_has done r (i + 1) j h
      refine ⟨by omega, by simp; omega, ?_⟩
      rw [show j - i = (j - (i + 1)) + 1 by omega]
      simpa using h3
/-- Where of succeeds, each set of elements that is not empty has one with nothing of the set before it. -/
theorem kahn_min {ds : List Nat} {n : Nat} : ∀ (f done : Nat) (all : List Nat), (kahn ds n f done all).1 = 0 → ∀ T, T < 2 ^ n → T ≠ 0 → (∀ j, T.testBit j = true → done.testBit j = false) →
    ∃ i, T.testBit i = true ∧ ∀ j, (ds.getD i 0).testBit j = true → T.testBit j = false
  | 0, done, all, h, T, hT, h0, hd => by simp [kahn] at h
  | f + 1, done, all, h, T, hT, h0, hd => by
    unfold kahn at h
    split at h
    · rename_i hfull
      obtain ⟨j, hj⟩ := Nat.exists_testBit_of_ne_zero h0
      have := hd j hj
      have hjn : j < n := by
        rcases Nat.lt_or_ge j n with h | h
        · exact h
        · rw [Nat.testBit_lt_two_pow (Nat.lt_of_lt_of_le hT (Nat.pow_le_pow_right (by decide) h))] at hj; cases hj
      rw [hfull, Nat.testBit_two_pow_sub_one] at this
      simp [hjn] at this
    · simp only at h
      split at h
      · cases h
      · by_cases hex : ∃ i, T.testBit i = true ∧ (rdyF done 0 ds).testBit i = true
        · obtain ⟨i, hi, hr⟩ := hex
          obtain ⟨_, _, hs⟩ := rdyF_has done ds 0 i hr
          refine ⟨i, hi, fun j hj => ?_⟩
          have hb := testBit_sub (ds.getD i 0) done j
          rw [Nat.sub_zero] at hs
          rw [hs, Nat.zero_testBit, hj, Bool.true_and] at hb
          rcases hTj : T.testBit j with _ | _
          · rfl
          · rw [hd j hTj] at hb; cases hb
        · refine kahn_min f _ _ h T hT h0 fun j hj => ?_
          rw [Nat.testBit_or, hd j hj, Bool.false_or]
          rcases hr : (rdyF done 0 ds).testBit j with _ | _
          · rfl
          · exact absurd ⟨j, hj, hr⟩ hex
/-- No circle. -/
def Acyc (p : PlanD) : Prop := ∀ T, T < 2 ^ p.steps.length → T ≠ 0 → ∃ i, T.testBit i = true ∧ i < p.steps.length ∧ ∀ k ∈ p.after.getD i [], T.testBit k.toNat = false
theorem planErr_ok {s : SiteD} {wl : List ServiceD} {p : PlanD} (h : planErr s wl p = 0) : Shape p ∧ Acyc p := by
  unfold planErr planErrE at h
  split at h
  · split at h
    · cases h
    · rename_i h12
      split at h
      · rename_i hc
        obtain ⟨hlen, _⟩ := hc
        obtain ⟨h1, ds, hds, hk⟩ := ofS_ok h
        obtain ⟨hl, hg⟩ := dirs_get hds
        refine ⟨⟨hlen, by omega, fun l hl' k hk' => ?_⟩, fun T hT h0 => ?_⟩
        · obtain ⟨j, hj, rfl⟩ := List.getElem_of_mem hl'
          have := dirL_range (hg j hj) k hk'
          rw [hlen] at this
          exact ⟨this.1, this.2.1⟩
        · rw [← hlen] at hT
          obtain ⟨i, hi, hm⟩ := kahn_min _ _ _ hk T hT h0 (fun j _ => Nat.zero_testBit j)
          have hin : i < p.after.length := by
            rcases Nat.lt_or_ge i p.after.length with h | h
            · exact h
            · rw [Nat.testBit_lt_two_pow (Nat.lt_of_lt_of_le hT (Nat.pow_le_pow_right (by decide) h))] at hi; cases hi
          refine ⟨i, hi, by omega, fun k hk' => hm _ ?_⟩
          rw [List.getD_eq_getElem?_getD, List.getElem?_eq_getElem hin, Option.getD_some] at hk'
          rw [dirL_bit (hg i hin), Nat.zero_testBit, Bool.false_or, List.any_eq_true]
          exact ⟨k, hk', by simp⟩
      · cases h
  · cases h
end Go.Proofs.YtgickfllblmhpaaDoor
