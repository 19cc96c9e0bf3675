
/- The plain law of the statement DriftShortest. -/
import Derived.Test.YtmcdgepfhpakiaaPure30
namespace Go.Proofs.Ytmcdgepfhpakiaa
set_option linter.unusedSimpArgs false
set_option linter.unusedVariables false
open Go Go.RowKit
set_option linter.unusedSectionVars false
set_option maxHeartbeats 1000000
theorem hostD_len (i : Nat) (x y : StateD) : (hostD i x y).length = (if x.phase = y.phase then 0 else 1) + (if x.firmware = y.firmware then 0 else 1) := by
  unfold hostD
  by_cases h1 : x.phase = y.phase <;> by_cases h2 : x.firmware = y.firmware <;> simp [List.filter_cons, realB, h1, h2]
theorem hostsD_self : ∀ (i : Nat) (xs : List StateD), hostsD i xs xs = []
  | _, [] => rfl
  | i, x :: r => by
    have h := hostD_len i x x
    simp only [if_true] at h
    simp only [hostsD, hostsD_self (i + 1) r, List.append_nil]
    exact List.eq_nil_of_length_eq_zero h
theorem hostsD_set {z : StateD} : ∀ (i k : Nat) (xs ys : List StateD), (∀ x, xs[k]? = some x → z.phase = x.phase ∨ z.firmware = x.firmware) → (hostsD i xs ys).length ≤ (hostsD i (xs.set k z) ys).length + 1
  | _, _, [], _, _ => by simp [hostsD]
  | _, _, _ :: _, [], _ => by simp [hostsD]
  | i, 0, x :: xs, y :: ys, h => by
    have h1 := h x rfl
    simp only [List.set_cons_zero, hostsD, List.length_append, hostD_len]
    rcases h1 with h1 | h1 <;> rw [h1] <;> (repeat' split) <;> omega
  | i, k + 1, x :: xs, y :: ys, h => by
    have ih := hostsD_set (i + 1) k xs ys (z := z) fun x' hx => h x' (by simpa using hx)
    simp only [List.set_cons_succ, hostsD, List.length_append]
    omega
theorem onlyL_self (a : List ReplicaD) : onlyL a a = [] := by
  unfold onlyL
  rw [List.filter_eq_nil_iff]
  intro p hp
  simp [hasB_iff.2 hp]
/-- One element less. -/
theorem filter_ne_len {p : ReplicaD → Bool} {r : ReplicaD} : ∀ {l : List ReplicaD}, l.Nodup → (l.filter p).length ≤ ((l.filter fun a => !decide (a = r)).filter p).length + 1
  | [], _ => by simp
  | a :: l, h => by
    obtain ⟨h1, h2⟩ := List.nodup_cons.1 h
    by_cases e : a = r
    · subst e
      have : (l.filter fun b => !decide (b = a)) = l := by
        rw [List.filter_eq_self]
        intro b hb
        simp; rintro rfl; exact h1 hb
      rw [List.filter_cons, List.filter_cons]
      simp only [decide_true, Bool.not_true, Bool.false_eq_true, if_false, this]
      split <;> simp
    · have ih := filter_ne_len (p := p) (r := r) h2
      rw [List.filter_cons, List.filter_cons]
      simp only [e, decide_false, Bool.not_false, if_true]
      rw [List.filter_cons]
      split
      · simp only [List.length_cons]; omega
      · exact ih
theorem filter_le {p q : ReplicaD → Bool} {l : List ReplicaD} (h : ∀ a ∈ l, p a = true → q a = true) : (l.filter p).length ≤ (l.filter q).length := by
  rw [← List.countP_eq_length_filter, ← List.countP_eq_length_filter]
  exact List.countP_mono_left h
theorem diff_stop {A B : List ReplicaD} {r : ReplicaD} (hA : A.Nodup) : (onlyL A B).length + (onlyL B A).length ≤ (onlyL (stopF r A) B).length + (onlyL B (stopF r A)).length + 1 := by
  have h1 : (onlyL A B).length ≤ (onlyL (stopF r A) B).length + 1 := filter_ne_len hA
  have h2 : (onlyL B A).length ≤ (onlyL B (stopF r A)).length := filter_le fun a _ h => by
    rw [Bool.not_eq_true', ← Bool.not_eq_true, hasB_iff] at h ⊢
    exact fun e => h (mem_stopF.1 e).1
  omega
theorem diff_start {A B : List ReplicaD} {r : ReplicaD} (hB : B.Nodup) : (onlyL A B).length + (onlyL B A).length ≤ (onlyL (startL r A) B).length + (onlyL B (startL r A)).length + 1 := by
  have h1 : (onlyL A B).length ≤ (onlyL (startL r A) B).length := by
    unfold onlyL startL
    have e : A = A.takeWhile (ltB r) ++ A.dropWhile (ltB r) := (List.takeWhile_append_dropWhile).symm
    conv => lhs; rw [e]
    rw [List.filter_append, List.filter_append, List.filter_cons]
    split <;> simp
  have h2 : (onlyL B A).length ≤ (onlyL B (startL r A)).length + 1 := by
    refine Nat.le_trans (filter_ne_len (r := r) hB) ?_
    have : ((B.filter fun a => !decide (a = r)).filter fun p => !hasB A p).length ≤ (onlyL B (startL r A)).length := by
      rw [List.filter_filter]
      refine filter_le fun a _ h => ?_
      simp only [Bool.and_eq_true, Bool.not_eq_true', decide_eq_false_iff_not] at h
      rw [Bool.not_eq_true', ← Bool.not_eq_true, hasB_iff]
      intro e
      rcases mem_startL.1 e with e | e
      · exact h.2 e
      · have := h.1; rw [← Bool.not_eq_true, hasB_iff] at this; exact this e
    omega
  omega
theorem diffL_len (a b : WorldD) : (diffL a b).length = (hostsD 0 a.hosts b.hosts).length + ((onlyL a.replicas b.replicas).length + (onlyL b.replicas a.replicas).length) := by
  simp [diffL]
theorem setOne_len {a b : WorldD} {h : Int} {z : StateD} (hz : ∀ x, a.hosts[h.toNat]? = some x → z.phase = x.phase ∨ z.firmware = x.firmware) : (diffL a b).length ≤ (diffL ⟨a.hosts.set h.toNat z, a.replicas⟩ b).length + 1 := by
  rw [diffL_len, diffL_len]
  have := hostsD_set (z := z) 0 h.toNat a.hosts b.hosts hz
  simp only
  omega
theorem stAt_get {a : WorldD} {h : Int} {x : StateD} (hx : a.hosts[h.toNat]? = some x) : stAt a h = x := by
  rw [stAt, List.getD_eq_getElem?_getD, hx]; rfl
/-- One difference: no more than one element of the differences. -/
theorem one_len {a b : WorldD} {d : DriftD} (hA : a.replicas.Nodup) (hB : b.replicas.Nodup) (h : oneE a d = 0) : (diffL a b).length ≤ (diffL (oneW a d) b).length + 1 := by
  unfold oneW
  unfold oneE at h
  by_cases h3 : d.kind = 3
  · rw [if_pos h3]
    exact setOne_len fun x hx => .inr (by simp only; rw [stAt_get hx])
  · rw [if_neg h3] at h ⊢
    by_cases h4 : d.kind = 4
    · rw [if_pos h4]
      exact setOne_len fun x hx => .inl (by simp only; rw [stAt_get hx])
    · rw [if_neg h4] at h ⊢
      by_cases h1 : d.kind = 1
      · rw [if_pos h1] at h ⊢
        rw [stopW_eq h, diffL_len, diffL_len]
        have := diff_stop (A := a.replicas) (B := b.replicas) (r := ⟨d.service, d.host⟩) hA
        simp only
        omega
      · rw [if_neg h1] at h ⊢
        by_cases h2 : d.kind = 2
        · rw [if_pos h2] at h
          rw [startW_eq h, diffL_len, diffL_len]
          have := diff_start (A := a.replicas) (B := b.replicas) (r := ⟨d.service, d.host⟩) hB
          simp only
          omega
        · rw [if_neg h2] at h; cases h
theorem one_asc {a : WorldD} {d : DriftD} (hA : Asc a.replicas) (h : oneE a d = 0) : Asc (oneW a d).replicas ∧ (oneW a d).hosts.length = a.hosts.length := by
  unfold oneW
  unfold oneE at h
  by_cases h3 : d.kind = 3
  · rw [if_pos h3]; exact ⟨hA, by simp⟩
  · rw [if_neg h3] at h ⊢
    by_cases h4 : d.kind = 4
    · rw [if_pos h4]; exact ⟨hA, by simp⟩
    · rw [if_neg h4] at h ⊢
      by_cases h1 : d.kind = 1
      · rw [if_pos h1] at h ⊢
        rw [stopW_eq h]
        exact ⟨asc_stopF hA, rfl⟩
      · rw [if_neg h1] at h ⊢
        by_cases h2 : d.kind = 2
        · rw [if_pos h2] at h
          rw [startW_eq h]
          exact ⟨asc_startL hA (startE_iff.1 h).2.2.2.1, rfl⟩
        · rw [if_neg h2] at h; cases h
/-- A list of differences that leads to a world is no shorter than the differences. -/
theorem patch_short {b : WorldD} : ∀ {l : List DriftD} {a : WorldD}, Asc a.replicas → patchG a l = (0, b) → Asc b.replicas ∧ b.hosts.length = a.hosts.length ∧ (diffL a b).length ≤ l.length
  | [], a, hA, h => by
    obtain rfl : a = b := (Prod.mk.inj h).2
    refine ⟨hA, rfl, ?_⟩
    rw [diffL_len, hostsD_self, onlyL_self]
    simp
  | d :: l, a, hA, h => by
    by_cases h0 : oneE a d = 0
    · rw [patch_cons h0] at h
      obtain ⟨g1, g2⟩ := one_asc hA h0
      obtain ⟨i1, i2, i3⟩ := patch_short g1 h
      refine ⟨i1, i2.trans g2, ?_⟩
      have := one_len (b := b) (asc_nodup hA) (asc_nodup i1) h0
      simp only [List.length_cons]
      omega
    · rw [patchG, if_neg h0] at h
      exact absurd (Prod.mk.inj h).1 h0
end Go.Proofs.Ytmcdgepfhpakiaa
