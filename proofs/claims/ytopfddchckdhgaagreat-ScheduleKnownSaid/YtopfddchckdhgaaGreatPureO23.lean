
/- Orders of layer 23: rounds, and what waits for what; both say whether the order goes in no circle. No program is walked here. -/
import Derived.Test.YtopfddchckdhgaaGreatSd23
namespace Go.Proofs.YtopfddchckdhgaaGreat
set_option linter.unusedSimpArgs false
set_option linter.unusedVariables false
open Go
set_option linter.unusedSectionVars false
def aftN (after : List (List Int)) (i : Nat) : List Nat := ((after[i]?).getD []).map Int.toNat
/-- What can be begun at last. -/
inductive Lf (after : List (List Int)) : Nat → Prop
  | mk (i : Nat) (h : ∀ j, j ∈ aftN after i → Lf after j) : Lf after i
section
variable {after : List (List Int)} {done : List Bool} {n : Nat}
def tr (done : List Bool) (i : Nat) : Bool := done.getD i false
theorem free_iff {i : Nat} : freeR after done i = true ↔ ∀ j ∈ aftN after i, tr done j = true := by
  simp only [freeR, aftN, List.all_eq_true, List.mem_map, tr]
  exact ⟨fun h j ⟨a, ha, e⟩ => e ▸ h a ha, fun h j hj => h _ ⟨j, hj, rfl⟩⟩
theorem pass_len : ∀ (k : Nat), (passR after done k).length = done.length
  | 0 => rfl
  | k + 1 => by rw [passR, List.length_set, pass_len k]
theorem tr_set {l : List Bool} {i j : Nat} {v : Bool} (h : i < l.length) : tr (l.set i v) j = if j = i then v else tr l j := by
  unfold tr
  rw [List.getD_eq_getElem?_getD, List.getD_eq_getElem?_getD]
  split
  · rename_i e; subst e; rw [List.getElem?_set_self h]; rfl
  · rename_i e; rw [List.getElem?_set_ne (fun x => e x.symm)]
theorem pass_mono : ∀ (k : Nat), k ≤ done.length → ∀ j, tr done j = true → tr (passR after done k) j = true
  | 0, _, j, h => h
  | k + 1, hk, j, h => by
    have ih := pass_mono k (by omega) j h
    rw [passR, tr_set (by rw [pass_len]; omega)]
    split
    · rename_i e
      subst e
      show (tr (passR after done j) j || _) = true
      rw [ih, Bool.true_or]
    · exact ih
theorem free_mono {d : List Bool} {i : Nat} (hm : ∀ j, tr done j = true → tr d j = true) (h : freeR after done i = true) : freeR after d i = true := free_iff.2 fun j hj => hm j (free_iff.1 h j hj)
theorem pass_sound (h : ∀ j, tr done j = true → Lf after j) : ∀ (k : Nat), k ≤ done.length → ∀ j, tr (passR after done k) j = true → Lf after j
  | 0, _, j, hj => h j hj
  | k + 1, hk, j, hj => by
    have ih := pass_sound h k (by omega)
    rw [passR, tr_set (by rw [pass_len]; omega)] at hj
    split at hj
    · rename_i e
      subst e
      rcases Bool.or_eq_true _ _ ▸ hj with h1 | h1
      · exact ih j h1
      · exact .mk j fun i hi => ih i (free_iff.1 h1 i hi)
    · exact ih j hj
theorem pass_free {i : Nat} (hf : freeR after done i = true) : ∀ (k : Nat), i < k → k ≤ done.length → tr (passR after done k) i = true
  | 0, h, _ => absurd h (by omega)
  | k + 1, h, hk => by
    rw [passR, tr_set (by rw [pass_len]; omega)]
    split
    · rename_i e
      subst e
      show (tr (passR after done i) i || freeR after (passR after done i) i) = true
      rw [free_mono (fun j => pass_mono i (by omega) j) hf, Bool.or_true]
    · exact pass_free hf k (by omega) (by omega)
theorem count_lt : ∀ {a b : List Bool}, a.length = b.length → (∀ j, tr a j = true → tr b j = true) → ∀ i, i < a.length → tr a i = false → tr b i = true → a.countP id < b.countP id
  | [], _, _, _, i, h, _, _ => absurd h (by simp)
  | x :: a, [], h, _, _, _, _, _ => by simp at h
  | x :: a, y :: b, hl, hm, i, hi, ha, hb => by
    have hm0 : x = true → y = true := hm 0
    have hm2 : ∀ j, tr a j = true → tr b j = true := fun j => hm (j + 1)
    have hle : a.countP id ≤ b.countP id := by
      clear hi ha hb hm hm0 i
      have hl' : a.length = b.length := by simpa using hl
      clear hl
      induction a generalizing b with
      | nil => simp
      | cons c a ih => cases b with
        | nil => simp at hl'
        | cons d b =>
          have h0 : c = true → d = true := hm2 0
          have := ih (b := b) (fun j => hm2 (j + 1)) (by simpa using hl')
          simp only [List.countP_cons, id]
          cases c <;> cases d <;> simp at h0 ⊢ <;> omega
    simp only [List.countP_cons, id]
    cases i with
    | zero =>
      have e1 : x = false := ha
      have e2 : y = true := hb
      subst e1; subst e2
      simp; omega
    | succ i =>
      have := count_lt (a := a) (b := b) (by simpa using hl) hm2 i (by simpa using hi) ha hb
      cases x <;> cases y <;> simp at hm0 ⊢ <;> omega
theorem rounds_len : ∀ r, (roundsR after r).length = after.length
  | 0 => List.length_replicate
  | r + 1 => by rw [roundsR, pass_len, rounds_len r]
theorem rounds_sound : ∀ r j, tr (roundsR after r) j = true → Lf after j
  | 0, j, h => by
    unfold tr roundsR at h
    rw [List.getD_eq_getElem?_getD, List.getElem?_replicate] at h
    split at h <;> cases h
  | r + 1, j, h => pass_sound (rounds_sound r) _ (by rw [rounds_len]; exact Nat.le_refl _) j h
theorem all_tr {l : List Bool} : l.all id = true ↔ ∀ i, i < l.length → tr l i = true := by
  rw [List.all_eq_true]
  constructor
  · intro h i hi
    have := h _ (List.getElem_mem hi)
    simpa [tr, List.getD_eq_getElem?_getD, hi] using this
  · intro h b hb
    obtain ⟨i, hi, rfl⟩ := List.getElem_of_mem hb
    have := h i hi
    simpa [tr, List.getD_eq_getElem?_getD, hi] using this
/-- Where something is not done, something is free. -/
theorem some_free {d : Nat → Bool} (hb : ∀ i, i < n → ∀ j ∈ aftN after i, j < n) {i : Nat} (h : Lf after i) (hi : i < n) (hd : d i = false) : ∃ k, k < n ∧ d k = false ∧ ∀ j ∈ aftN after k, d j = true := by
  induction h with
  | mk i _ ih =>
    by_cases ha : ∀ j ∈ aftN after i, d j = true
    · exact ⟨i, hi, hd, ha⟩
    · obtain ⟨j, hj, hdj⟩ : ∃ j, j ∈ aftN after i ∧ ¬ d j = true := by
        refine Classical.byContradiction fun hn => ha fun j hj => Classical.byContradiction fun h2 => hn ⟨j, hj, h2⟩
      exact ih j hj (hb i hi j hj) (by simpa using hdj)
theorem rounds_full (hb : ∀ i, i < after.length → ∀ j ∈ aftN after i, j < after.length) (h : ∀ i, i < after.length → Lf after i) : ∀ r, (roundsR after r).all id = true ∨ r ≤ (roundsR after r).countP id
  | 0 => .inr (Nat.zero_le _)
  | r + 1 => by
    have hl := rounds_len (after := after) r
    rcases rounds_full hb h r with h1 | h1
    · left
      rw [all_tr] at h1 ⊢
      intro i hi
      rw [rounds_len] at hi
      rw [roundsR]
      exact pass_mono _ (by omega) i (h1 i (by omega))
    · by_cases ha : (roundsR after r).all id = true
      · left
        rw [all_tr] at ha ⊢
        intro i hi
        rw [rounds_len] at hi
        rw [roundsR]
        exact pass_mono _ (by omega) i (ha i (by omega))
      · right
        obtain ⟨i, hi, hti⟩ : ∃ i, i < (roundsR after r).length ∧ ¬ tr (roundsR after r) i = true := by
          refine Classical.byContradiction fun hn => ha (all_tr.2 fun i hi => Classical.byContradiction fun h2 => hn ⟨i, hi, h2⟩)
        obtain ⟨k, hk, hdk, hfk⟩ := some_free (d := tr (roundsR after r)) hb (h i (by omega)) (by omega) (by simpa using hti)
        have h2 := pass_free (free_iff.2 hfk) after.length hk (by omega)
        have h3 := count_lt (a := roundsR after r) (b := passR after (roundsR after r) after.length) (by rw [pass_len]) (fun j => pass_mono _ (by omega) j) k (by omega) hdk h2
        show r + 1 ≤ (passR after (roundsR after r) after.length).countP id
        omega
theorem count_full {l : List Bool} (h : l.length ≤ l.countP id) : l.all id = true := by
  have h1 : l.countP id = l.length := Nat.le_antisymm List.countP_le_length h
  rw [List.countP_eq_length] at h1
  exact List.all_eq_true.2 fun b hb => h1 b hb
/-- The rounds find that all can be begun, if it can. -/
theorem rounds_iff (hb : ∀ i, i < after.length → ∀ j ∈ aftN after i, j < after.length) : (roundsR after after.length).all id = true ↔ ∀ i, i < after.length → Lf after i := by
  constructor
  · intro h i hi
    exact rounds_sound _ i (all_tr.1 h i (by rw [rounds_len]; exact hi))
  · intro h
    rcases rounds_full hb h after.length with h1 | h1
    · exact h1
    · exact count_full (by rw [rounds_len]; exact h1)
/- what waits for what -/
def waitS (after : List (List Int)) (D : List Nat) (i : Nat) : Int := if i ∈ D then -1 else ((aftN after i).countP fun j => !D.contains j : Nat)
def waitL (after : List (List Int)) (D : List Nat) : List Int := (List.range after.length).map (waitS after D)
structure Kn (after : List (List Int)) (D : List Nat) : Prop where
  nd : D.Nodup
  lt : ∀ i ∈ D, i < after.length
  lf : ∀ i ∈ D, Lf after i
  cl : ∀ i ∈ D, ∀ j ∈ aftN after i, j ∈ D
theorem Kn.nil : Kn after [] := ⟨List.nodup_nil, fun i h => absurd h (by simp), fun i h => absurd h (by simp), fun i h => absurd h (by simp)⟩
theorem wait_zero {D : List Nat} {i : Nat} : waitS after D i = 0 ↔ i ∉ D ∧ ∀ j ∈ aftN after i, j ∈ D := by
  unfold waitS
  split
  · rename_i h
    simp [h]
  · rename_i h
    have : (((aftN after i).countP fun j => !D.contains j : Nat) : Int) = 0 ↔ (aftN after i).countP (fun j => !D.contains j) = 0 := by omega
    rw [this, List.countP_eq_zero]
    simp [h]
theorem Kn.add {D : List Nat} (h : Kn after D) {i : Nat} (hi : i < after.length) (hw : waitS after D i = 0) : Kn after (i :: D) := by
  obtain ⟨h1, h2⟩ := wait_zero.1 hw
  refine ⟨List.nodup_cons.2 ⟨h1, h.nd⟩, fun j hj => ?_, fun j hj => ?_, fun j hj k hk => ?_⟩
  · rcases List.mem_cons.1 hj with rfl | hj
    · exact hi
    · exact h.lt j hj
  · rcases List.mem_cons.1 hj with rfl | hj
    · exact .mk j fun k hk => h.lf k (h2 k hk)
    · exact h.lf j hj
  · rcases List.mem_cons.1 hj with rfl | hj
    · exact List.mem_cons_of_mem _ (h2 k hk)
    · exact List.mem_cons_of_mem _ (h.cl j hj k hk)
theorem Kn.len_le {D : List Nat} (h : Kn after D) : D.length ≤ after.length := by
  have : D.length ≤ (List.range after.length).length := h.nd.length_le_of_subset fun i hi => List.mem_range.2 (h.lt i hi)
  rwa [List.length_range] at this
theorem Kn.full {D : List Nat} (h : Kn after D) (hb : ∀ i, i < after.length → ∀ j ∈ aftN after i, j < after.length) (hw : ∀ i, i < after.length → ¬ waitS after D i = 0) : D.length = after.length ↔ ∀ i, i < after.length → Lf after i := by
  have hin : ∀ i, Lf after i → i < after.length → i ∈ D := by
    intro i hi
    induction hi with
    | mk i _ ih =>
      intro hlt
      refine Classical.byContradiction fun hn => hw i hlt (wait_zero.2 ⟨hn, fun j hj => ih j hj (hb i hlt j hj)⟩)
  constructor
  · intro hl i hi
    refine Classical.byContradiction fun hn => ?_
    have hni : i ∉ D := fun hm => hn (h.lf i hm)
    have : (i :: D).length ≤ (List.range after.length).length := (List.nodup_cons.2 ⟨hni, h.nd⟩).length_le_of_subset fun j hj => by
      rcases List.mem_cons.1 hj with rfl | hj
      · exact List.mem_range.2 hi
      · exact List.mem_range.2 (h.lt j hj)
    rw [List.length_range, List.length_cons] at this
    omega
  · intro ha
    refine Nat.le_antisymm h.len_le ?_
    have : (List.range after.length).length ≤ D.length := List.nodup_range.length_le_of_subset fun i hi => hin i (ha i (List.mem_range.1 hi)) (List.mem_range.1 hi)
    rwa [List.length_range] at this
/-- What a step that is done takes from what waits for it. -/
theorem wait_add {D : List Nat} {at_ i : Nat} (hd : at_ ∉ D) (hnd : (aftN after i).Nodup) (hne : at_ ∉ aftN after at_) (hcl : i ∈ D → at_ ∉ aftN after i) :
    waitS after (at_ :: D) i = if i = at_ then -1 else if at_ ∈ aftN after i then waitS after D i - 1 else waitS after D i := by
  unfold waitS
  by_cases e : i = at_
  · subst e; simp
  · rw [if_neg e]
    by_cases hi : i ∈ D
    · rw [if_pos (List.mem_cons_of_mem _ hi), if_pos hi, if_neg (hcl hi)]
    · rw [if_neg (by simp [e, hi]), if_neg hi]
      have key : ∀ l : List Nat, l.Nodup → (l.countP fun j => !(at_ :: D).contains j) + (if at_ ∈ l then 1 else 0) = l.countP fun j => !D.contains j := by
        intro l
        induction l with
        | nil => intro _; rfl
        | cons a l ih =>
          intro hn
          obtain ⟨h1, h2⟩ := List.nodup_cons.1 hn
          have := ih h2
          rw [List.countP_cons, List.countP_cons]
          by_cases ea : a = at_
          · subst ea
            rw [if_neg h1] at this
            simp [hd]
            simpa using this
          · have e3 : (at_ ∈ a :: l) ↔ at_ ∈ l := by rw [List.mem_cons]; exact ⟨fun h => h.resolve_left fun x => ea x.symm, .inr⟩
            have e4 : (at_ :: D).contains a = D.contains a := by simp [ea]
            rw [e4]
            simp only [e3]
            omega
      have := key _ hnd
      by_cases hm : at_ ∈ aftN after i
      · rw [if_pos hm] at this ⊢; omega
      · rw [if_neg hm] at this ⊢; omega
end
end Go.Proofs.YtopfddchckdhgaaGreat
