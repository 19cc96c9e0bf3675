/- What the functions of the layer order hand back: no program is walked here. -/
import Derived.Test.YteeaccnklkcchaaDoorPure
namespace Go.Proofs.YteeaccnklkcchaaDoor
set_option linter.unusedSimpArgs false
set_option linter.unusedVariables false
open Go Go.RowKit
set_option maxRecDepth 100000
set_option linter.unusedSectionVars false
def idealD (ds : List Nat) (s : Nat) : Bool := (lst s).all fun k => sub (ds.getD k 0) s == 0
/-- How many lines go on from an ideal from which f elements are missing. -/
def wayN (ds : List Nat) : Nat → Nat → Nat
  | 0, _ => 1
  | f + 1, s => ((lst (rdyF s 0 ds)).map fun i => wayN ds f (s ||| 2 ^ i)).sum
theorem sum_le {c M : Nat} : ∀ {l : List Nat}, (∀ x ∈ l, x ≤ M) → l.length ≤ c → l.sum ≤ c * M
  | [], _, _ => by simp
  | a :: r, h, hl => by
    have h1 := h a (List.mem_cons_self ..)
    have h2 := sum_le (c := c - 1) (fun x hx => h x (List.mem_cons_of_mem _ hx)) (by simp at hl; omega)
    obtain ⟨c', rfl⟩ : ∃ c', c = c' + 1 := ⟨c - 1, by simp at hl; omega⟩
    simp only [Nat.add_sub_cancel] at h2
    rw [List.sum_cons, Nat.add_mul, Nat.one_mul]
    omega
theorem lst_le12 (s : Nat) : (lst s).length ≤ 12 := by have := List.length_filter_le (fun i => s.testBit i) (List.range 12); simpa [lst] using this
theorem wayN_le (ds : List Nat) : ∀ f s, wayN ds f s ≤ 12 ^ f
  | 0, _ => Nat.le_refl _
  | f + 1, s => by
    unfold wayN
    rw [Nat.pow_succ, Nat.mul_comm]
    refine sum_le (fun x hx => ?_) (by rw [List.length_map]; exact lst_le12 _)
    obtain ⟨i, _, rfl⟩ := List.mem_map.1 hx
    exact wayN_le ds f _
def pickN (c : Nat → Nat) : List Nat → Nat → Option (Nat × Nat)
  | [], _ => none
  | i :: r, k => if k < c i then some (i, k) else pickN c r (k - c i)
def nthN (ds : List Nat) : Nat → Nat → Nat → List Nat
  | 0, _, _ => []
  | f + 1, s, k => match pickN (fun i => wayN ds f (s ||| 2 ^ i)) (lst (rdyF s 0 ds)) k with
    | none => []
    | some (i, k') => i :: nthN ds f (s ||| 2 ^ i) k'
def rankN (ds : List Nat) (n : Nat) : Nat → Nat → List Int → Option Nat
  | _, _, [] => some 0
  | f, s, x :: r => if x < 0 ∨ (n : Int) ≤ x ∨ (rdyF s 0 ds).testBit x.toNat = false then none
    else (rankN ds n (f - 1) (s ||| 2 ^ x.toNat) r).map (((lst (rdyF s 0 ds &&& (2 ^ x.toNat - 1))).map fun i => wayN ds (f - 1) (s ||| 2 ^ i)).sum + ·)
def heightN (ds : List Nat) (n : Nat) : Nat → Nat → Nat
  | 0, _ => 0
  | f + 1, done => if done = 2 ^ n - 1 then 0 else heightN ds n f (done ||| rdyF done 0 ds) + 1
/-- The matching that next makes greater. -/
structure NSt where
  seen : Nat
  nx : List Int
  pv : List Int
def joinL (al : List Nat) (i : Nat) (rec : Nat → NSt → Option (Bool × NSt)) : List Nat → NSt → Option (Bool × NSt)
  | [], st => some (false, st)
  | k :: r, st => if (al.getD k 0).testBit i = false ∨ st.seen.testBit k = true then joinL al i rec r st
    else if st.pv.getD k 0 < 0 then some (true, ⟨st.seen ||| 2 ^ k, st.nx.set i k, st.pv.set k i⟩)
    else match rec (st.pv.getD k 0).toNat ⟨st.seen ||| 2 ^ k, st.nx, st.pv⟩ with
      | none => none
      | some (true, s2) => some (true, ⟨s2.seen, s2.nx.set i k, s2.pv.set k i⟩)
      | some (false, s2) => joinL al i rec r s2
def joinN (al : List Nat) (n : Nat) : Nat → Nat → NSt → Option (Bool × NSt)
  | 0, _, _ => none
  | f + 1, i, st => joinL al i (joinN al n f) (List.range n) st
def nextL (al : List Nat) (n : Nat) : List Nat → NSt → Option NSt
  | [], st => some st
  | i :: r, st => match joinN al n (n + 2) i ⟨0, st.nx, st.pv⟩ with
    | none => none
    | some (_, s2) => nextL al n r s2
def nextN (al : List Nat) (n : Nat) : Option (List Int) := (nextL al n (List.range n) ⟨0, List.replicate n (-1), List.replicate n (-1)⟩).map (·.nx)
def chainN (nx : List Int) : Nat → Int → Option (List Nat)
  | 0, _ => none
  | f + 1, x => if x < 0 then some [] else (chainN nx f (nx.getD x.toNat 0)).map (x.toNat :: ·)
def chainsL (nx : List Int) (n : Nat) : List Nat → Option (List (List Nat))
  | [] => some []
  | i :: r => if nx.contains (i : Int) then chainsL nx n r else match chainN nx (n + 1) i with
    | none => none
    | some c => (chainsL nx n r).map (c :: ·)
def chainsN (al : List Nat) (n : Nat) : Option (List (List Nat)) := (nextN al n).bind fun nx => chainsL nx n (List.range n)
/-- The order of the chapter's examples. -/
def smpA : List (List Int) := [[], [], [0, 1], [1, 2]]
end Go.Proofs.YteeaccnklkcchaaDoor
/- The two ways to see ideals and what they enable: no program is walked here. -/
namespace Go.Proofs.YteeaccnklkcchaaDoor
set_option linter.unusedSimpArgs false
set_option linter.unusedVariables false
open Go Go.RowKit
set_option maxRecDepth 100000
set_option linter.unusedSectionVars false
def idealA (ls : List (List Nat)) (s : Nat) : Bool := (List.range ls.length).all fun i => !s.testBit i || (ls.getD i []).all fun k => s.testBit k
def enabA (ls : List (List Nat)) (s : Nat) : List Nat := (List.range ls.length).filter fun i => !s.testBit i && idealA ls (s ||| 2 ^ i)
theorem sub_zero_iff (d s : Nat) : (sub d s == 0) = true ↔ ∀ j, d.testBit j = true → s.testBit j = true := by
  rw [beq_iff_eq]
  constructor
  · intro h j hj
    have hb := testBit_sub d s j
    rw [h, Nat.zero_testBit, hj, Bool.true_and] at hb
    simpa using hb.symm
  · intro h
    apply Nat.eq_of_testBit_eq
    intro j
    rw [testBit_sub, Nat.zero_testBit]
    cases hd : d.testBit j
    · rfl
    · rw [h j hd]; rfl
theorem idealA_iff {ls : List (List Nat)} {s : Nat} : idealA ls s = true ↔ ∀ i, s.testBit i = true → ∀ k, k ∈ ls.getD i [] → s.testBit k = true := by
  simp only [idealA, List.all_eq_true, List.mem_range, Bool.or_eq_true, Bool.not_eq_true']
  constructor
  · intro h i hi k hk
    rcases h i (mem_lt hk) with h1 | h1
    · rw [hi] at h1; cases h1
    · exact h1 k hk
  · intro h i _
    cases hs : s.testBit i
    · exact .inl rfl
    · exact .inr fun k hk => h i hs k hk
theorem idealD_iff {ls : List (List Nat)} {ds : List Nat} (hS : Sets ls ds) {s : Nat} (hs : s < 4096) : idealD ds s = true ↔ ∀ i, s.testBit i = true → ∀ k, k ∈ ls.getD i [] → s.testBit k = true := by
  simp only [idealD, List.all_eq_true, sub_zero_iff]
  constructor
  · intro h i hi k hk
    exact h i ((mem_lst' hs).2 hi) k ((hS.2 i k).2 hk)
  · intro h i hi k hk
    exact h i ((mem_lst' hs).1 hi) k ((hS.2 i k).1 hk)
theorem ideal_eq {ls : List (List Nat)} {ds : List Nat} (hS : Sets ls ds) {s : Nat} (hs : s < 4096) : idealD ds s = idealA ls s := by
  rw [Bool.eq_iff_iff, idealD_iff hS hs, idealA_iff]
theorem rdy_iff {ls : List (List Nat)} {ds : List Nat} (hS : Sets ls ds) {s i : Nat} : (rdyF s 0 ds).testBit i = true ↔ i < ls.length ∧ s.testBit i = false ∧ ∀ k, k ∈ ls.getD i [] → s.testBit k = true := by
  constructor
  · intro h
    obtain ⟨_, h2, h3⟩ := rdyF_has s ds 0 i h
    rw [Nat.zero_add, hS.1] at h2
    rw [Nat.sub_zero] at h3
    refine ⟨h2, rdyF_bit s ds 0 i h, fun k hk => ?_⟩
    exact (sub_zero_iff _ _).1 (by rw [h3]; rfl) k ((hS.2 i k).2 hk)
  · rintro ⟨h1, h2, h3⟩
    refine rdyF_set s ds 0 i (Nat.zero_le _) (by rw [Nat.zero_add, hS.1]; exact h1) h2 ?_
    rw [Nat.sub_zero]
    exact beq_iff_eq.1 ((sub_zero_iff _ _).2 fun k hk => h3 k ((hS.2 i k).1 hk))
theorem testBit_or2 (s i j : Nat) : (s ||| 2 ^ i).testBit j = (s.testBit j || decide (i = j)) := by rw [Nat.testBit_or, Nat.testBit_two_pow]
theorem enab_iff {ls : List (List Nat)} {s i : Nat} (h : idealA ls s = true) (hn : ∀ k, k ∈ ls.getD i [] → k ≠ i) : idealA ls (s ||| 2 ^ i) = true ↔ s.testBit i = true ∨ ∀ k, k ∈ ls.getD i [] → s.testBit k = true := by
  rw [idealA_iff] at h ⊢
  simp only [testBit_or2, Bool.or_eq_true, decide_eq_true_eq]
  constructor
  · intro h2
    refine Classical.or_iff_not_imp_left.2 fun _ k hk => ?_
    exact (h2 i (.inr rfl) k hk).resolve_right fun e => hn k hk e.symm
  · rintro h2 j (hj | rfl) k hk
    · exact .inl (h j hj k hk)
    · rcases h2 with h2 | h2
      · exact .inl (h _ h2 k hk)
      · exact .inl (h2 k hk)
theorem enab_eq {ls : List (List Nat)} {ds : List Nat} (hS : Sets ls ds) (hn : ∀ i k, k ∈ ls.getD i [] → k ≠ i) (h12 : ls.length ≤ 12) {s : Nat} (hi : idealA ls s = true) : enabA ls s = lst (rdyF s 0 ds) := by
  have e : ∀ i, (!s.testBit i && idealA ls (s ||| 2 ^ i)) = true ∧ i < ls.length ↔ (rdyF s 0 ds).testBit i = true := fun i => by
    rw [rdy_iff hS, Bool.and_eq_true, Bool.not_eq_true', enab_iff hi (hn i)]
    constructor
    · rintro ⟨⟨h1, h2⟩, h3⟩
      exact ⟨h3, h1, h2.resolve_left (by simp [h1])⟩
    · rintro ⟨h1, h2, h3⟩
      exact ⟨⟨h2, .inr h3⟩, h1⟩
  have hr := List.range_add (n := ls.length) (m := 12 - ls.length)
  rw [show ls.length + (12 - ls.length) = 12 by omega] at hr
  unfold enabA lst
  rw [hr, List.filter_append]
  have h2 : List.filter (fun i => (rdyF s 0 ds).testBit i) (List.map (ls.length + ·) (List.range (12 - ls.length))) = [] := by
    rw [List.filter_eq_nil_iff]
    intro x hx hb
    obtain ⟨y, _, rfl⟩ := List.mem_map.1 hx
    have := ((e _).2 hb).2
    omega
  rw [h2, List.append_nil]
  refine List.filter_congr fun i hi => ?_
  rw [Bool.eq_iff_iff]
  have := e i
  simp only [List.mem_range] at hi
  simpa [hi] using this
/-- What a valid order is. -/
theorem ord_ok {after : List (List Int)} (h : (ofS after).1 = 0) : after.length ≤ 12 ∧ Sets (natA after) (ofS after).2.1 ∧ (ofS after).2.1.length = after.length ∧ (ofS after).2.2 = bef (natA after) ∧ (ofS after).2.2.length = after.length ∧ NoCyc (natA after) ∧ (∀ i k, k ∈ (natA after).getD i [] → k < after.length ∧ k ≠ i) ∧ (∀ i (h : i < after.length), ∀ k ∈ after[i], 0 ≤ k ∧ k < after.length) ∧
    (∀ x, (ofS after).2.1.getD x 0 < 4096) ∧ ∀ x, (ofS after).2.2.getD x 0 < 4096 := by
  obtain ⟨ds, hd, h12, hn, he⟩ := clos_eq h
  obtain ⟨hS, hr, hr0⟩ := dirs_sets hd
  have hr' : ∀ i k, k ∈ (natA after).getD i [] → k < (natA after).length := fun i k hk => by rw [natA_len]; exact (hr i k hk).1
  rw [he]
  refine ⟨h12, hS, by rw [hS.1, natA_len], rfl, by simp only [bef, befN_len, natA_len], hn, hr, fun i hi k hk => ⟨hr0 i hi k hk, ?_⟩, dirs_lt hd h12, bef_lt hn hr' (by rw [natA_len]; exact h12)⟩
  have := (hr i k.toNat (by rw [natA_get hi]; exact List.mem_map.2 ⟨k, hk, rfl⟩)).1
  have := hr0 i hi k hk
  omega
end Go.Proofs.YteeaccnklkcchaaDoor
/- How many elements a set has; lines: no program is walked here. -/
namespace Go.Proofs.YteeaccnklkcchaaDoor
set_option linter.unusedSimpArgs false
set_option linter.unusedVariables false
open Go Go.RowKit
set_option maxRecDepth 100000
set_option linter.unusedSectionVars false
def card (s : Nat) : Nat := (lst s).length
theorem filter_one {l : List Nat} {p : Nat → Bool} {i : Nat} (hn : l.Nodup) (hi : i ∈ l) (hp : p i = false) : (l.filter fun j => p j || decide (i = j)).length = (l.filter p).length + 1 := by
  induction l with
  | nil => cases hi
  | cons a r ih =>
    obtain ⟨h1, h2⟩ := List.nodup_cons.1 hn
    by_cases e : i = a
    · subst e
      have : r.filter (fun j => p j || decide (i = j)) = r.filter p := List.filter_congr fun j hj => by
        have : i ≠ j := fun e => h1 (e ▸ hj)
        simp [this]
      simp [List.filter_cons, hp, this]
    · have hi' : i ∈ r := (List.mem_cons.1 hi).resolve_left e
      have := ih h2 hi'
      cases hpa : p a <;> simp [List.filter_cons, hpa, e, this]
theorem card_or {s i : Nat} (hi : i < 12) (h : s.testBit i = false) : card (s ||| 2 ^ i) = card s + 1 := by
  unfold card lst
  simp only [testBit_or2]
  exact filter_one List.nodup_range (List.mem_range.2 hi) h
theorem lst_range {s n : Nat} (hs : s < 2 ^ n) (hn : n ≤ 12) : lst s = (List.range n).filter fun i => s.testBit i := by
  have hr := List.range_add (n := n) (m := 12 - n)
  rw [show n + (12 - n) = 12 by omega] at hr
  unfold lst
  rw [hr, List.filter_append]
  have h2 : List.filter (fun i => s.testBit i) (List.map (n + ·) (List.range (12 - n))) = [] := by
    rw [List.filter_eq_nil_iff]
    intro x hx hb
    obtain ⟨y, _, rfl⟩ := List.mem_map.1 hx
    rw [Nat.testBit_lt_two_pow (Nat.lt_of_lt_of_le hs (Nat.pow_le_pow_right (by decide) (by omega)))] at hb
    cases hb
  rw [h2, List.append_nil]
theorem card_le {s n : Nat} (hs : s < 2 ^ n) (hn : n ≤ 12) : card s ≤ n := by
  unfold card
  rw [lst_range hs hn]
  have := List.length_filter_le (fun i => s.testBit i) (List.range n)
  simpa using this
theorem card_full {s n : Nat} (hs : s < 2 ^ n) (hn : n ≤ 12) : card s = n ↔ s = 2 ^ n - 1 := by
  have key : card s = n ↔ ∀ i, i < n → s.testBit i = true := by
    unfold card
    rw [lst_range hs hn]
    have := @List.length_filter_eq_length_iff _ (fun i => s.testBit i) (List.range n)
    rw [List.length_range] at this
    rw [this]
    simp only [List.mem_range]
  rw [key]
  constructor
  · intro h
    apply Nat.eq_of_testBit_eq
    intro j
    rw [Nat.testBit_two_pow_sub_one]
    by_cases hj : j < n
    · simp [h j hj, hj]
    · rw [Nat.testBit_lt_two_pow (Nat.lt_of_lt_of_le hs (Nat.pow_le_pow_right (by decide) (by omega)))]
      simp [hj]
  · rintro rfl i hi
    rw [Nat.testBit_two_pow_sub_one]
    simpa using hi
theorem card_zero : card 0 = 0 := by unfold card; rw [lst_zero]; rfl
/-- How many lines go on from a set. -/
def wayS (ds : List Nat) (s : Nat) : Nat := wayN ds (ds.length - card s) s
theorem rdy_mem {ds : List Nat} {s i : Nat} (h12 : ds.length ≤ 12) (h : i ∈ lst (rdyF s 0 ds)) : i < ds.length ∧ s.testBit i = false := by
  have h1 : (rdyF s 0 ds).testBit i = true := by have := List.mem_filter.1 h; simpa using this.2
  have := rdyF_has s ds 0 i h1
  exact ⟨by omega, rdyF_bit s ds 0 i h1⟩
theorem or_lt {s i n : Nat} (hs : s < 2 ^ n) (hi : i < n) : s ||| 2 ^ i < 2 ^ n := Nat.or_lt_two_pow hs (Nat.pow_lt_pow_right (by decide) hi)
theorem wayS_full {ds : List Nat} (h12 : ds.length ≤ 12) : wayS ds (2 ^ ds.length - 1) = 1 := by
  have hp := Nat.pow_pos (n := ds.length) (show 0 < 2 by decide)
  have := (card_full (s := 2 ^ ds.length - 1) (n := ds.length) (by omega) h12).2 rfl
  unfold wayS
  rw [this, Nat.sub_self]
  rfl
theorem wayS_step {ds : List Nat} (h12 : ds.length ≤ 12) {s : Nat} (hs : s < 2 ^ ds.length) (hne : s ≠ 2 ^ ds.length - 1) : wayS ds s = ((lst (rdyF s 0 ds)).map fun i => wayS ds (s ||| 2 ^ i)).sum := by
  have h1 := card_le hs h12
  have h2 : card s ≠ ds.length := fun e => hne ((card_full hs h12).1 e)
  unfold wayS
  obtain ⟨f, hf⟩ : ∃ f, ds.length - card s = f + 1 := ⟨ds.length - card s - 1, by omega⟩
  rw [hf, wayN]
  congr 1
  refine List.map_congr_left fun i hi => ?_
  obtain ⟨h3, h4⟩ := rdy_mem h12 hi
  rw [card_or (by omega) h4]
  congr 1
  omega
theorem pow12le {f : Nat} (h : f ≤ 12) : 12 ^ f ≤ 8916100448256 := by
  have := Nat.pow_le_pow_right (n := 12) (by decide) h
  simpa using this
theorem wayS_le {ds : List Nat} (h12 : ds.length ≤ 12) (s : Nat) : wayS ds s ≤ 8916100448256 := Nat.le_trans (wayN_le _ _ _) (pow12le (by omega))
theorem sum_take {l : List Nat} : ∀ k, (l.take k).sum ≤ l.sum
  | 0 => by simp
  | k + 1 => by
    cases l with
    | nil => simp
    | cons a r =>
      have := sum_take (l := r) k
      simp only [List.take_succ_cons, List.sum_cons]
      omega
end Go.Proofs.YteeaccnklkcchaaDoor
