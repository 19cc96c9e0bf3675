
/- The plain laws of layer 30: differences taken back. -/
import Derived.Test.YtmcdgepfhpakiaaBack30
import Derived.Test.YtmcdgepfhpakiaaDrift8
import Derived.Test.YtmcdgepfhpakiaaPure30b
namespace Go.Proofs.Ytmcdgepfhpakiaa
set_option linter.unusedSimpArgs false
set_option linter.unusedVariables false
open Go Go.RowKit
set_option linter.unusedSectionVars false
set_option maxHeartbeats 1000000
def Good24 (x : WorldD) : Prop := (∀ s ∈ x.hosts, 0 ≤ s.phase ∧ s.phase ≤ 255) ∧ (∀ p ∈ x.replicas, 0 ≤ p.service ∧ 0 ≤ p.host) ∧ x.replicas.length ≤ 24
theorem Good24.one {x : WorldD} {d : DriftD} (h : Good24 x) (he : oneE x d = 0) : Good24 (oneW x d) := by
  obtain ⟨h1, h2, h3⟩ := h
  by_cases k3 : d.kind = 3
  · rw [oneE, if_pos k3] at he
    have hr : ¬ (d.is < 0 ∨ 255 < d.is) := fun h9 => by rw [if_pos h9] at he; cases he
    rw [oneW, if_pos k3]
    refine ⟨fun s hs => ?_, h2, h3⟩
    rcases List.mem_or_eq_of_mem_set hs with h9 | rfl
    · exact h1 s h9
    · simp only; omega
  · by_cases k4 : d.kind = 4
    · rw [oneW, if_neg k3, if_pos k4]
      refine ⟨fun s hs => ?_, h2, h3⟩
      rcases List.mem_or_eq_of_mem_set hs with h9 | rfl
      · exact h1 s h9
      · exact stAt_phase h1 _
    · by_cases k1 : d.kind = 1
      · rw [oneE, if_neg k3, if_neg k4, if_pos k1] at he
        rw [oneW, if_neg k3, if_neg k4, if_pos k1, stopW_eq he]
        exact ⟨h1, fun p hp => h2 p (mem_stopF.1 hp).1, Nat.le_trans (stop_len _ _) h3⟩
      · by_cases k2 : d.kind = 2
        · rw [oneE, if_neg k3, if_neg k4, if_neg k1, if_pos k2] at he
          rw [oneW, if_neg k3, if_neg k4, if_neg k1, startW_eq he]
          obtain ⟨_, p1, p2, _, h24⟩ := startE_iff.1 he
          refine ⟨h1, fun p hp => ?_, ?_⟩
          · rcases mem_startL.1 hp with rfl | h9
            · exact ⟨p1, p2⟩
            · exact h2 p h9
          · simp only [len_startL]
            omega
        · rw [oneE, if_neg k3, if_neg k4, if_neg k1, if_neg k2] at he
          cases he
theorem host_ok {x : WorldD} {h : Int} {ok : Bool} (he : hostE x h ok = 0) : (∃ i : Nat, h = i ∧ i < x.hosts.length) ∧ ok = true ∧ sortedB x.replicas = true := by
  unfold hostE at he
  by_cases hr : h < 0 ∨ (x.hosts.length : Int) ≤ h
  · rw [if_pos hr] at he; cases he
  · rw [if_neg hr] at he
    cases ok with
    | false => simp at he
    | true =>
      rw [if_pos rfl] at he
      by_cases hs : sortedB x.replicas = true
      · exact ⟨⟨h.toNat, by omega, by omega⟩, rfl, hs⟩
      · rw [if_neg hs] at he; cases he
theorem ok_host {x : WorldD} {i : Nat} (hi : i < x.hosts.length) (hs : sortedB x.replicas = true) : hostE x i true = 0 := by
  rw [hostE, if_neg (by omega), if_pos rfl, if_pos hs]
theorem stAt_in {x : WorldD} {i : Nat} (hi : i < x.hosts.length) : stAt x i = x.hosts[i] := by simp [stAt, List.getD_eq_getElem?_getD, hi]
theorem one_back {x : WorldD} {d : DriftD} (hg : Good24 x) (he : oneE x d = 0) : oneE (oneW x d) (backD d) = 0 ∧ oneW (oneW x d) (backD d) = x := by
  obtain ⟨H, R⟩ := x
  obtain ⟨kd, dh, ds, dw, di⟩ := d
  by_cases k3 : kd = 3
  · subst k3
    simp only [oneE, if_true] at he
    have hr : ¬ (di < 0 ∨ 255 < di) := fun h9 => by rw [if_pos h9] at he; cases he
    rw [if_neg hr] at he
    obtain ⟨⟨i, rfl, hi⟩, ho, hs⟩ := host_ok he
    rw [decide_eq_true_iff, stAt_in hi] at ho
    simp only at hi hs ho
    have hph := hg.1 _ (List.getElem_mem hi)
    have hi' : i < (H.set i ⟨di, H[i].firmware⟩).length := by simpa using hi
    have e1 : oneW ⟨H, R⟩ ⟨3, i, ds, dw, di⟩ = ⟨H.set i ⟨di, H[i].firmware⟩, R⟩ := by simp [oneW, (stAt_in (x := ⟨H, R⟩) hi)]
    have e2 : backD ⟨3, i, ds, dw, di⟩ = ⟨3, i, ds, di, dw⟩ := by simp [backD]
    have e3 : stAt ⟨H.set i ⟨di, H[i].firmware⟩, R⟩ i = ⟨di, H[i].firmware⟩ := by rw [stAt_in hi']; simp
    rw [e1, e2]
    constructor
    · simp only [oneE, if_true, e3, decide_true]
      rw [if_neg (by omega)]
      exact ok_host hi' hs
    · simp only [oneW, if_true, e3, Int.toNat_natCast, List.set_set]
      have : (⟨dw, H[i].firmware⟩ : StateD) = H[i] := by rw [← ho]
      rw [this, List.set_getElem_self]
  · by_cases k4 : kd = 4
    · subst k4
      simp only [oneE, if_neg k3, if_true] at he
      obtain ⟨⟨i, rfl, hi⟩, ho, hs⟩ := host_ok he
      rw [decide_eq_true_iff, stAt_in hi] at ho
      simp only at hi hs ho
      have hi' : i < (H.set i ⟨H[i].phase, di⟩).length := by simpa using hi
      have e1 : oneW ⟨H, R⟩ ⟨4, i, ds, dw, di⟩ = ⟨H.set i ⟨H[i].phase, di⟩, R⟩ := by simp [oneW, (stAt_in (x := ⟨H, R⟩) hi)]
      have e2 : backD ⟨4, i, ds, dw, di⟩ = ⟨4, i, ds, di, dw⟩ := by simp [backD]
      have e3 : stAt ⟨H.set i ⟨H[i].phase, di⟩, R⟩ i = ⟨H[i].phase, di⟩ := by rw [stAt_in hi']; simp
      rw [e1, e2]
      constructor
      · simp only [oneE, if_neg k3, if_true, e3, decide_true]
        exact ok_host hi' hs
      · simp only [oneW, if_neg k3, if_true, e3, Int.toNat_natCast, List.set_set]
        have : (⟨H[i].phase, dw⟩ : StateD) = H[i] := by rw [← ho]
        rw [this, List.set_getElem_self]
    · by_cases k1 : kd = 1
      · subst k1
        have he' : stopE ⟨H, R⟩ ⟨ds, dh⟩ = 0 := he
        have e1 : oneW ⟨H, R⟩ ⟨1, dh, ds, dw, di⟩ = stopW ⟨H, R⟩ ⟨ds, dh⟩ := rfl
        have e2 : backD ⟨1, dh, ds, dw, di⟩ = ⟨2, dh, ds, dw, di⟩ := by simp [backD]
        have hn := hg.2.1 _ (stopE_iff.1 he').2
        rw [e1, e2]
        exact start_stop he' hn.1 hn.2 hg.2.2
      · by_cases k2 : kd = 2
        · subst k2
          have he' : startE ⟨H, R⟩ ⟨ds, dh⟩ = 0 := he
          have e1 : oneW ⟨H, R⟩ ⟨2, dh, ds, dw, di⟩ = startW ⟨H, R⟩ ⟨ds, dh⟩ := rfl
          have e2 : backD ⟨2, dh, ds, dw, di⟩ = ⟨1, dh, ds, dw, di⟩ := by simp [backD]
          rw [e1, e2]
          exact stop_start he'
        · simp only [oneE, if_neg k3, if_neg k4, if_neg k1, if_neg k2] at he
          cases he
theorem patch_append {y : WorldD} {m n : List DriftD} : ∀ {z : WorldD}, patchG z m = (0, y) → patchG z (m ++ n) = patchG y n := by
  induction m with
  | nil => intro z h; rw [patchG] at h; rw [(Prod.mk.inj h).2]; rfl
  | cons d r ih =>
    intro z h
    rw [patchG] at h
    rw [List.cons_append, patchG]
    by_cases he : oneE z d = 0
    · rw [if_pos he] at h ⊢
      exact ih h
    · rw [if_neg he] at h
      exact absurd (Prod.mk.inj h).1 he
/-- Differences that lead to a world lead back, taken back. -/
theorem patch_back : ∀ {l : List DriftD} {x z : WorldD}, Good24 x → patchG x l = (0, z) → patchG z (backL l) = (0, x)
  | [], x, z, _, h => by
    rw [patchG] at h
    rw [(Prod.mk.inj h).2]; rfl
  | d :: r, x, z, hg, h => by
    rw [patchG] at h
    by_cases he : oneE x d = 0
    · rw [if_pos he] at h
      have ih := patch_back (hg.one he) h
      obtain ⟨b1, b2⟩ := one_back hg he
      have e : backL (d :: r) = backL r ++ [backD d] := by simp [backL]
      rw [e, patch_append (y := oneW x d) ih, patchG, if_pos b1, b2, patchG]
    · rw [if_neg he] at h
      exact absurd (Prod.mk.inj h).1 he
theorem hostsD_swap : ∀ (i : Nat) (xs ys : List StateD), (hostsD i xs ys).length = (hostsD i ys xs).length
  | i, [], [] => rfl
  | i, [], y :: ys => by simp [hostsD]
  | i, x :: xs, [] => by simp [hostsD]
  | i, x :: xs, y :: ys => by
    simp only [hostsD, List.length_append, hostD_len, hostsD_swap (i + 1) xs ys]
    congr 1
    congr 1 <;> (congr 1; exact propext eq_comm)
theorem diffL_swap (a b : WorldD) : (diffL a b).length = (diffL b a).length := by
  rw [diffL_len, diffL_len, hostsD_swap]
  omega
theorem diffE_swap (a b : WorldD) : diffE a b = diffE b a := by
  unfold diffE diffOk
  have : decide (a.hosts.length = b.hosts.length) = decide (b.hosts.length = a.hosts.length) := by congr 1; exact propext eq_comm
  rw [this]
  cases sortedB a.replicas <;> cases sortedB b.replicas <;> simp
end Go.Proofs.Ytmcdgepfhpakiaa
