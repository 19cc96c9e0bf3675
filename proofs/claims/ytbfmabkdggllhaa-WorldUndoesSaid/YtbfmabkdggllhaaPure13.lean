/- The plain laws of layer 13: starting and stopping on sorted lists. -/
import Derived.Test.YtbfmabkdggllhaaLaw13
namespace Go.Proofs.Ytbfmabkdggllhaa
set_option linter.unusedSimpArgs false
set_option linter.unusedVariables false
open Go Go.RowKit
set_option linter.unusedSectionVars false
theorem ord_irr (a : ReplicaD) : ¬ ordI a a < 0 := by
  simp only [ordI, cmpI]
  (repeat' split) <;> omega
theorem ord_tri (a b : ReplicaD) : ordI a b < 0 ∨ a = b ∨ ordI b a < 0 := by
  by_cases h : a = b
  · exact .inr (.inl h)
  · have h2 : a.service ≠ b.service ∨ a.host ≠ b.host := by
      rcases Classical.em (a.service = b.service) with h1 | h1
      · rcases Classical.em (a.host = b.host) with h3 | h3
        · exact absurd (by cases a; cases b; simp_all) h
        · exact .inr h3
      · exact .inl h1
    simp only [ordI, cmpI]
    (repeat' split) <;> omega
/-- Strictly ascending. -/
abbrev Asc (l : List ReplicaD) : Prop := l.Pairwise fun a b => ordI a b < 0
theorem asc_iff {l : List ReplicaD} : sortedB l = true ↔ Asc l := by
  induction l with
  | nil => simp [sortedB]
  | cons a l ih =>
    cases l with
    | nil => simp [sortedB]
    | cons b r =>
      rw [sortedB, Bool.and_eq_true, ih, decide_eq_true_eq]
      constructor
      · rintro ⟨h1, h2⟩
        refine List.pairwise_cons.2 ⟨fun c hc => ?_, h2⟩
        rcases List.mem_cons.1 hc with rfl | hc
        · exact h1
        · exact ord_trans h1 ((List.pairwise_cons.1 h2).1 c hc)
      · intro h
        exact ⟨(List.pairwise_cons.1 h).1 b (List.mem_cons_self ..), (List.pairwise_cons.1 h).2⟩
theorem asc_ext : ∀ {l l' : List ReplicaD}, Asc l → Asc l' → (∀ a, a ∈ l ↔ a ∈ l') → l = l'
  | [], [], _, _, _ => rfl
  | [], b :: _, _, _, h => absurd ((h b).2 (List.mem_cons_self ..)) (by simp)
  | a :: _, [], _, _, h => absurd ((h a).1 (List.mem_cons_self ..)) (by simp)
  | a :: l, b :: l', h1, h2, h => by
    obtain ⟨ha, h1'⟩ := List.pairwise_cons.1 h1
    obtain ⟨hb, h2'⟩ := List.pairwise_cons.1 h2
    have e : a = b := by
      rcases List.mem_cons.1 ((h a).1 (List.mem_cons_self ..)) with e | h3
      · exact e
      · rcases List.mem_cons.1 ((h b).2 (List.mem_cons_self ..)) with e | h4
        · exact e.symm
        · exact absurd (ord_trans (ha b h4) (hb a h3)) (ord_irr a)
    subst e
    refine congrArg (a :: ·) (asc_ext h1' h2' fun c => ?_)
    constructor
    · intro hc
      rcases List.mem_cons.1 ((h c).1 (List.mem_cons_of_mem _ hc)) with rfl | h3
      · exact absurd (ha c hc) (ord_irr c)
      · exact h3
    · intro hc
      rcases List.mem_cons.1 ((h c).2 (List.mem_cons_of_mem _ hc)) with rfl | h3
      · exact absurd (hb c hc) (ord_irr c)
      · exact h3
theorem mem_startL {r a : ReplicaD} {l : List ReplicaD} : a ∈ startL r l ↔ a = r ∨ a ∈ l := by
  rw [startL]
  simp only [List.mem_append, List.mem_cons]
  constructor
  · rintro (h | h | h)
    · exact .inr ((List.takeWhile_sublist _).subset h)
    · exact .inl h
    · exact .inr ((List.dropWhile_sublist _).subset h)
  · rintro (h | h)
    · exact .inr (.inl h)
    · rw [← List.takeWhile_append_dropWhile (p := ltB r) (l := l)] at h
      rcases List.mem_append.1 h with h | h
      · exact .inl h
      · exact .inr (.inr h)
theorem mem_stopF {r a : ReplicaD} {l : List ReplicaD} : a ∈ stopF r l ↔ a ∈ l ∧ a ≠ r := by
  simp [stopF]
theorem len_startL {r : ReplicaD} {l : List ReplicaD} : (startL r l).length = l.length + 1 := by
  have := congrArg List.length (List.takeWhile_append_dropWhile (p := ltB r) (l := l))
  rw [List.length_append] at this
  rw [startL, List.length_append, List.length_cons]
  omega
theorem hasB_iff {l : List ReplicaD} {r : ReplicaD} : hasB l r = true ↔ r ∈ l := by
  simp [hasB]
theorem asc_startL {r : ReplicaD} {l : List ReplicaD} (h : Asc l) (hr : r ∉ l) : Asc (startL r l) := by
  rw [startL_pos]
  have hs := asc_iff.2 h
  have hlt : ∀ a ∈ l.take (posI r l), ordI a r < 0 := by
    intro a ha
    obtain ⟨i, hi, rfl⟩ := List.getElem_of_mem ha
    rw [List.length_take] at hi
    rw [List.getElem_take]
    exact pos_below i (by omega) (by omega)
  have hgt : ∀ a ∈ l.drop (posI r l), ordI r a < 0 := by
    intro a ha
    have hal := List.mem_of_mem_drop ha
    obtain ⟨i, hi, rfl⟩ := List.getElem_of_mem ha
    rw [List.length_drop] at hi
    rw [List.getElem_drop] at hal ⊢
    have h1 := pos_above (r := r) hs (posI r l + i) (by omega) (by omega)
    rcases ord_tri l[posI r l + i] r with h2 | h2 | h2
    · exact absurd h2 h1
    · rw [h2] at hal; exact absurd hal hr
    · exact h2
  refine List.pairwise_append.2 ⟨h.sublist (List.take_sublist _ _), List.pairwise_cons.2 ⟨hgt, h.sublist (List.drop_sublist _ _)⟩, fun a ha b hb => ?_⟩
  rcases List.mem_cons.1 hb with rfl | hb
  · exact hlt a ha
  · exact ord_trans (hlt a ha) (hgt b hb)
theorem asc_stopF {r : ReplicaD} {l : List ReplicaD} (h : Asc l) : Asc (stopF r l) := h.sublist List.filter_sublist
theorem len_stopF {r : ReplicaD} : ∀ {l : List ReplicaD}, Asc l → r ∈ l → (stopF r l).length + 1 = l.length
  | [], _, h => absurd h (by simp)
  | a :: l, h, hr => by
    obtain ⟨ha, h1⟩ := List.pairwise_cons.1 h
    by_cases e : a = r
    · subst e
      have : stopF a l = l := by
        refine List.filter_eq_self.2 fun b hb => ?_
        have hb := ha b hb
        have : ¬ b = a := by rintro rfl; exact ord_irr b hb
        simpa using this
      have h2 : stopF a (a :: l) = l := by rw [stopF, List.filter_cons_of_neg (by simp)]; exact this
      rw [h2, List.length_cons]
    · have h2 : stopF r (a :: l) = a :: stopF r l := by rw [stopF, List.filter_cons_of_pos (by simpa using e)]; rfl
      rw [h2, List.length_cons, List.length_cons, len_stopF h1 ((List.mem_cons.1 hr).resolve_left (fun h => e h.symm))]
theorem startE_iff {x : WorldD} {r : ReplicaD} : startE x r = 0 ↔ Asc x.replicas ∧ 0 ≤ r.service ∧ 0 ≤ r.host ∧ r ∉ x.replicas ∧ x.replicas.length < 24 := by
  rw [← asc_iff, ← hasB_iff]
  unfold startE
  constructor
  · intro h
    split at h
    · rename_i h1
      split at h
      · cases h
      · rename_i h2
        split at h
        · cases h
        · rename_i h3
          exact ⟨h1.1, h1.2.1, h1.2.2, h2, by omega⟩
    · cases h
  · rintro ⟨h1, h2, h3, h4, h5⟩
    rw [if_pos ⟨h1, h2, h3⟩, if_neg h4, if_neg (by omega)]
theorem stopE_iff {x : WorldD} {r : ReplicaD} : stopE x r = 0 ↔ Asc x.replicas ∧ r ∈ x.replicas := by
  rw [← asc_iff, ← hasB_iff]
  unfold stopE
  constructor
  · intro h
    split at h
    · rename_i h1
      split at h
      · rename_i h2; exact ⟨h1, h2⟩
      · cases h
    · cases h
  · rintro ⟨h1, h2⟩
    rw [if_pos h1, if_pos h2]
theorem startW_eq {x : WorldD} {r : ReplicaD} (h : startE x r = 0) : startW x r = ⟨x.hosts, startL r x.replicas⟩ := by simp [startW, h]
theorem stopW_eq {x : WorldD} {r : ReplicaD} (h : stopE x r = 0) : stopW x r = ⟨x.hosts, stopF r x.replicas⟩ := by simp [stopW, h]
/-- Stop undoes Start. -/
theorem stop_start {x : WorldD} {r : ReplicaD} (h : startE x r = 0) : stopE (startW x r) r = 0 ∧ stopW (startW x r) r = x := by
  obtain ⟨h1, h2, h3, h4, h5⟩ := startE_iff.1 h
  rw [startW_eq h]
  have hs := asc_startL h1 h4
  have he : stopE ⟨x.hosts, startL r x.replicas⟩ r = 0 := stopE_iff.2 ⟨hs, mem_startL.2 (.inl rfl)⟩
  refine ⟨he, ?_⟩
  rw [stopW_eq he]
  have : stopF r (startL r x.replicas) = x.replicas := asc_ext (asc_stopF hs) h1 fun a => by
    rw [mem_stopF, mem_startL]
    constructor
    · rintro ⟨h6 | h6, h7⟩
      · exact absurd h6 h7
      · exact h6
    · intro h6
      exact ⟨.inr h6, by rintro rfl; exact h4 h6⟩
  simp only [this]
/-- Start undoes Stop. -/
theorem start_stop {x : WorldD} {r : ReplicaD} (h : stopE x r = 0) (hs : 0 ≤ r.service) (hh : 0 ≤ r.host) (hl : x.replicas.length ≤ 24) : startE (stopW x r) r = 0 ∧ startW (stopW x r) r = x := by
  obtain ⟨h1, h2⟩ := stopE_iff.1 h
  rw [stopW_eq h]
  have ha := asc_stopF (r := r) h1
  have hn : r ∉ stopF r x.replicas := fun h3 => (mem_stopF.1 h3).2 rfl
  have hlen := len_stopF h1 h2
  have he : startE ⟨x.hosts, stopF r x.replicas⟩ r = 0 := startE_iff.2 ⟨ha, hs, hh, hn, by simp only; omega⟩
  refine ⟨he, ?_⟩
  rw [startW_eq he]
  have : startL r (stopF r x.replicas) = x.replicas := asc_ext (asc_startL ha hn) h1 fun a => by
    rw [mem_startL, mem_stopF]
    constructor
    · rintro (rfl | h6)
      · exact h2
      · exact h6.1
    · intro h6
      by_cases e : a = r
      · exact .inl e
      · exact .inr ⟨h6, e⟩
  simp only [this]
theorem start_start {x : WorldD} {p q : ReplicaD} (h1 : startE x p = 0) (h2 : startE (startW x p) q = 0) (h3 : startE x q = 0) (h4 : startE (startW x q) p = 0) : startW (startW x p) q = startW (startW x q) p := by
  rw [startW_eq h2, startW_eq h4]
  rw [startW_eq h1] at h2 ⊢
  rw [startW_eq h3] at h4 ⊢
  have a2 := startE_iff.1 h2
  have a4 := startE_iff.1 h4
  have : startL q (startL p x.replicas) = startL p (startL q x.replicas) := asc_ext (asc_startL a2.1 a2.2.2.2.1) (asc_startL a4.1 a4.2.2.2.1) fun a => by
    simp only [mem_startL]
    constructor <;> rintro (h | h | h) <;> simp [h]
  simp only [this]
theorem start_stop_comm {x : WorldD} {p q : ReplicaD} (hne : p ≠ q) (h1 : startE x p = 0) (h2 : stopE (startW x p) q = 0) (h3 : stopE x q = 0) (h4 : startE (stopW x q) p = 0) : stopW (startW x p) q = startW (stopW x q) p := by
  rw [stopW_eq h2, startW_eq h4]
  rw [startW_eq h1] at h2 ⊢
  rw [stopW_eq h3] at h4 ⊢
  have a2 := stopE_iff.1 h2
  have a4 := startE_iff.1 h4
  have : stopF q (startL p x.replicas) = startL p (stopF q x.replicas) := asc_ext (asc_stopF a2.1) (asc_startL a4.1 a4.2.2.2.1) fun a => by
    simp only [mem_startL, mem_stopF]
    constructor
    · rintro ⟨h | h, h'⟩
      · exact .inl h
      · exact .inr ⟨h, h'⟩
    · rintro (h | h)
      · exact ⟨.inl h, by rw [h]; exact hne⟩
      · exact ⟨.inr h.1, h.2⟩
  simp only [this]
end Go.Proofs.Ytbfmabkdggllhaa
