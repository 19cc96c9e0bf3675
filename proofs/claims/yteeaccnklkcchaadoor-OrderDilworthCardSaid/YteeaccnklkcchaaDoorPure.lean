/- Plain laws on orders: no program is walked here. -/
import Derived.Test.YteeaccnklkcchaaDoorPlan
namespace Go.Proofs.YteeaccnklkcchaaDoor
set_option linter.unusedSimpArgs false
set_option linter.unusedVariables false
open Go
theorem dirL_range {n i : Int} : ∀ {l : List Int} {s d : Nat}, dirL n i s l = some d → ∀ k ∈ l, 0 ≤ k ∧ k < n ∧ k ≠ i
  | [], _, _, _, k, hk => by simp at hk
  | a :: l, s, d, h, k, hk => by
    unfold dirL at h
    split at h
    · cases h
    · rename_i hc
      rcases List.mem_cons.1 hk with rfl | hk
      · omega
      · exact dirL_range h k hk
theorem dirL_bit {n i : Int} : ∀ {l : List Int} {s d : Nat}, dirL n i s l = some d → ∀ b, d.testBit b = (s.testBit b || l.any fun k => k.toNat == b)
  | [], s, d, h, b => by simp [dirL] at h; subst h; simp
  | a :: l, s, d, h, b => by
    unfold dirL at h
    split at h
    · cases h
    · rw [dirL_bit h b, Nat.testBit_or, Nat.testBit_two_pow, List.any_cons, Bool.or_assoc]
      congr 2
theorem dirs_get {n : Int} : ∀ {ll : List (List Int)} {i : Nat} {ds : List Nat}, dirs n i ll = some ds → ds.length = ll.length ∧ ∀ j (h : j < ll.length), dirL n ((i + j : Nat) : Int) 0 ll[j] = some (ds.getD j 0)
  | [], i, ds, h => by simp [dirs] at h; subst h; simp
  | l :: ll, i, ds, h => by
    unfold dirs at h
    split at h
    · cases h
    · rename_i d hd
      cases hr : dirs n (i + 1) ll with
      | none => simp [hr] at h
      | some r =>
        simp [hr] at h
        subst h
        obtain ⟨h1, h2⟩ := dirs_get hr
        refine ⟨by simp [h1], fun j hj => ?_⟩
        cases j with
        | zero => simpa using hd
        | succ j =>
          have := h2 j (by simpa using hj)
          rw [show i + 1 + j = i + (j + 1) by omega] at this
          simpa using this
theorem ofS_ok {after : List (List Int)} (h : (ofS after).1 = 0) : after.length ≤ 12 ∧ ∃ ds, dirs after.length 0 after = some ds ∧ (kahn ds after.length 4096 0 (List.replicate after.length 0)).1 = 0 := by
  unfold ofS at h
  split at h
  · cases h
  · rename_i h12
    split at h
    · cases h
    · split at h
      · cases h
      · rename_i d hd
        exact ⟨by omega, d, hd, h⟩
theorem rdyF_has (done : Nat) : ∀ (l : List Nat) (i j : Nat), (rdyF done i l).testBit j = true → i ≤ j ∧ j < i + l.length ∧ sub (l.getD (j - i) 0) done = 0
  | [], i, j, h => by simp [rdyF] at h
  | d :: r, i, j, h => by
    unfold rdyF at h
    rw [Nat.testBit_or] at h
    rcases Bool.or_eq_true _ _ ▸ h with h | h
    · split at h
      · rename_i hc
        rw [Nat.testBit_two_pow] at h
        have : i = j := by simpa using h
        subst this
        simp only [Bool.and_eq_true, beq_iff_eq] at hc
        exact ⟨Nat.le_refl _, by simp, by simpa using hc.2⟩
      · simp at h
    · obtain ⟨h1, h2, h3⟩ := rdyF_has done r (i + 1) j h
      refine ⟨by omega, by simp; omega, ?_⟩
      rw [show j - i = (j - (i + 1)) + 1 by omega]
      simpa using h3
/-- Where of succeeds, each set of elements that is not empty has one with nothing of the set before it. -/
theorem kahn_min {ds : List Nat} {n : Nat} : ∀ (f done : Nat) (all : List Nat), (kahn ds n f done all).1 = 0 → ∀ T, T < 2 ^ n → T ≠ 0 → (∀ j, T.testBit j = true → done.testBit j = false) →
    ∃ i, T.testBit i = true ∧ ∀ j, (ds.getD i 0).testBit j = true → T.testBit j = false
  | 0, done, all, h, T, hT, h0, hd => by simp [kahn] at h
  | f + 1, done, all, h, T, hT, h0, hd => by
    unfold kahn at h
    split at h
    · rename_i hfull
      obtain ⟨j, hj⟩ := Nat.exists_testBit_of_ne_zero h0
      have := hd j hj
      have hjn : j < n := by
        rcases Nat.lt_or_ge j n with h | h
        · exact h
        · rw [Nat.testBit_lt_two_pow (Nat.lt_of_lt_of_le hT (Nat.pow_le_pow_right (by decide) h))] at hj; cases hj
      rw [hfull, Nat.testBit_two_pow_sub_one] at this
      simp [hjn] at this
    · simp only at h
      split at h
      · cases h
      · by_cases hex : ∃ i, T.testBit i = true ∧ (rdyF done 0 ds).testBit i = true
        · obtain ⟨i, hi, hr⟩ := hex
          obtain ⟨_, _, hs⟩ := rdyF_has done ds 0 i hr
          refine ⟨i, hi, fun j hj => ?_⟩
          have hb := testBit_sub (ds.getD i 0) done j
          rw [Nat.sub_zero] at hs
          rw [hs, Nat.zero_testBit, hj, Bool.true_and] at hb
          rcases hTj : T.testBit j with _ | _
          · rfl
          · rw [hd j hTj] at hb; cases hb
        · refine kahn_min f _ _ h T hT h0 fun j hj => ?_
          rw [Nat.testBit_or, hd j hj, Bool.false_or]
          rcases hr : (rdyF done 0 ds).testBit j with _ | _
          · rfl
          · exact absurd ⟨j, hj, hr⟩ hex
/-- No circle. -/
def Acyc (p : PlanD) : Prop := ∀ T, T < 2 ^ p.steps.length → T ≠ 0 → ∃ i, T.testBit i = true ∧ i < p.steps.length ∧ ∀ k ∈ p.after.getD i [], T.testBit k.toNat = false
end Go.Proofs.YteeaccnklkcchaaDoor
/- The plain laws of layer 10: what comes before what; Kahn's way and the way of rounds agree. -/
namespace Go.Proofs.YteeaccnklkcchaaDoor
set_option linter.unusedSimpArgs false
set_option linter.unusedVariables false
set_option linter.unusedSectionVars false
def befS (i : Nat) (o : List Nat) (k : Nat) : List Nat := o.set i (o.getD i 0 ||| (2 ^ k ||| o.getD k 0))
def befI (i : Nat) (l : List Nat) (o : List Nat) : List Nat := l.foldl (befS i) o
def befP (ls : List (List Nat)) (o : List Nat) (m : Nat) : List Nat := (List.range m).foldl (fun o i => befI i (ls.getD i []) o) o
def befN (ls : List (List Nat)) : Nat → List Nat
  | 0 => List.replicate ls.length 0
  | r + 1 => befP ls (befN ls r) ls.length
def bef (ls : List (List Nat)) : List Nat := befN ls ls.length
/-- A walk of so many steps, each to one that stands in the list of the one before. -/
def Wk (ls : List (List Nat)) : Nat → Nat → Nat → Prop
  | 0, i, j => i = j
  | m + 1, i, j => ∃ k, k ∈ ls.getD i [] ∧ Wk ls m k j
theorem befP_succ (ls : List (List Nat)) (o : List Nat) (m : Nat) : befP ls o (m + 1) = befI m (ls.getD m []) (befP ls o m) := by
  simp only [befP, List.range_succ, List.foldl_append, List.foldl_cons, List.foldl_nil]
theorem befI_take {i : Nat} {l o : List Nat} {k : Nat} (h : k < l.length) : befI i (l.take (k + 1)) o = befS i (befI i (l.take k) o) l[k] := by
  simp only [befI, List.take_add_one, List.getElem?_eq_getElem h, Option.toList_some, List.foldl_append, List.foldl_cons, List.foldl_nil]
def bit (o : List Nat) (i j : Nat) : Prop := (o.getD i 0).testBit j = true
def Up (o o' : List Nat) : Prop := o'.length = o.length ∧ ∀ i j, bit o i j → bit o' i j
theorem Up.refl (o : List Nat) : Up o o := ⟨rfl, fun _ _ h => h⟩
theorem Up.trans {a b c : List Nat} (h : Up a b) (k : Up b c) : Up a c := ⟨k.1.trans h.1, fun i j x => k.2 i j (h.2 i j x)⟩
theorem getD_set (o : List Nat) (i v x : Nat) : (o.set i v).getD x 0 = if i = x ∧ i < o.length then v else o.getD x 0 := by
  simp only [List.getD_eq_getElem?_getD, List.getElem?_set]
  by_cases e : i = x
  · subst e
    by_cases h : i < o.length
    · simp [h]
    · simp [h]
  · simp [e]
theorem befS_up (i : Nat) (o : List Nat) (k : Nat) : Up o (befS i o k) := by
  refine ⟨by simp [befS], fun x j h => ?_⟩
  simp only [bit, befS, getD_set] at *
  split
  · rename_i e
    rw [e.1, Nat.testBit_or, h, Bool.true_or]
  · exact h
theorem befS_has {i k : Nat} {o : List Nat} (hi : i < o.length) : bit (befS i o k) i k ∧ ∀ j, bit o k j → bit (befS i o k) i j := by
  simp only [bit, befS, getD_set, hi, and_self, if_true, Nat.testBit_or, Nat.testBit_two_pow]
  exact ⟨by simp, fun j h => by rw [h, Bool.or_true, Bool.or_true]⟩
theorem befI_up (i : Nat) : ∀ (l o : List Nat), Up o (befI i l o)
  | [], o => Up.refl o
  | k :: r, o => (befS_up i o k).trans (befI_up i r _)
theorem befI_has {i : Nat} : ∀ {l o : List Nat}, i < o.length → ∀ {k : Nat}, k ∈ l → bit (befI i l o) i k ∧ ∀ j, bit o k j → bit (befI i l o) i j
  | [], _, _, _, h => absurd h (by simp)
  | a :: r, o, hi, k, h => by
    have hu := befS_up i o a
    have hi' : i < (befS i o a).length := by rw [hu.1]; exact hi
    rcases List.mem_cons.1 h with rfl | h
    · have h1 := befS_has (k := k) hi
      have h2 := befI_up i r (befS i o k)
      exact ⟨h2.2 _ _ h1.1, fun j hj => h2.2 _ _ (h1.2 j hj)⟩
    · have h1 := befI_has hi' h
      exact ⟨h1.1, fun j hj => h1.2 j (hu.2 _ _ hj)⟩
theorem befP_up (ls : List (List Nat)) (o : List Nat) : ∀ m, Up o (befP ls o m)
  | 0 => Up.refl o
  | m + 1 => by rw [befP_succ]; exact (befP_up ls o m).trans (befI_up _ _ _)
theorem befP_has {ls : List (List Nat)} {o : List Nat} (hl : o.length = ls.length) {i k : Nat} (hk : k ∈ ls.getD i []) : ∀ {m : Nat}, i < m → m ≤ ls.length → bit (befP ls o m) i k ∧ ∀ j, bit o k j → bit (befP ls o m) i j
  | 0, h, _ => absurd h (by omega)
  | m + 1, h, hm => by
    rw [befP_succ]
    have hu := befP_up ls o m
    by_cases e : i = m
    · subst e
      have h1 := befI_has (i := i) (l := ls.getD i []) (o := befP ls o i) (by rw [hu.1, hl]; omega) hk
      exact ⟨h1.1, fun j hj => h1.2 j (hu.2 _ _ hj)⟩
    · have h1 := befP_has hl hk (m := m) (by omega) (by omega)
      have h2 := befI_up m (ls.getD m []) (befP ls o m)
      exact ⟨h2.2 _ _ h1.1, fun j hj => h2.2 _ _ (h1.2 j hj)⟩
theorem befN_len (ls : List (List Nat)) : ∀ r, (befN ls r).length = ls.length
  | 0 => by simp [befN]
  | r + 1 => by simp only [befN]; rw [(befP_up ls _ _).1, befN_len ls r]
theorem mem_lt {ls : List (List Nat)} {i k : Nat} (h : k ∈ ls.getD i []) : i < ls.length := by
  rcases Nat.lt_or_ge i ls.length with h1 | h1
  · exact h1
  · rw [List.getD_eq_getElem?_getD, List.getElem?_eq_none h1] at h; simp at h
theorem befN_walk {ls : List (List Nat)} : ∀ {r m i j : Nat}, 1 ≤ m → m ≤ r → Wk ls m i j → bit (befN ls r) i j
  | 0, m, _, _, h1, h2, _ => absurd h1 (by omega)
  | r + 1, m, i, j, h1, h2, hw => by
    match m, hw with
    | m + 1, ⟨k, hk, hw⟩ =>
      have h := befP_has (befN_len ls r) hk (mem_lt hk) (Nat.le_refl _)
      match m, hw with
      | 0, hw => subst hw; exact h.1
      | m + 1, hw => exact h.2 _ (befN_walk (by omega) (by omega) hw)
theorem Wk.append {ls : List (List Nat)} : ∀ {a b i k j : Nat}, Wk ls a i k → Wk ls b k j → Wk ls (a + b) i j
  | 0, b, i, k, j, h1, h2 => by subst h1; rw [Nat.zero_add]; exact h2
  | a + 1, b, i, k, j, ⟨x, hx, h1⟩, h2 => by
    rw [show a + 1 + b = (a + b) + 1 by omega]
    exact ⟨x, hx, h1.append h2⟩
/-- What the rounds say is so. -/
def Sound (ls : List (List Nat)) (o : List Nat) : Prop := ∀ i j, bit o i j → ∃ m, 1 ≤ m ∧ Wk ls m i j
theorem sound_S {ls : List (List Nat)} {o : List Nat} {i k : Nat} (h : Sound ls o) (hk : k ∈ ls.getD i []) : Sound ls (befS i o k) := by
  intro x j hb
  simp only [bit, befS, getD_set] at hb
  split at hb
  · rename_i e
    obtain ⟨rfl, _⟩ := e
    simp only [Nat.testBit_or, Bool.or_eq_true, Nat.testBit_two_pow, decide_eq_true_eq] at hb
    rcases hb with hb | hb | hb
    · exact h _ _ hb
    · subst hb; exact ⟨1, Nat.le_refl _, _, hk, rfl⟩
    · obtain ⟨m, h1, h2⟩ := h _ _ hb
      exact ⟨m + 1, by omega, k, hk, h2⟩
  · exact h _ _ hb
theorem sound_I {ls : List (List Nat)} {i : Nat} : ∀ {l o : List Nat}, Sound ls o → (∀ k ∈ l, k ∈ ls.getD i []) → Sound ls (befI i l o)
  | [], _, h, _ => h
  | k :: r, o, h, hl => by
    show Sound ls (befI i r (befS i o k))
    exact sound_I (sound_S h (hl k (List.mem_cons_self ..))) fun x hx => hl x (List.mem_cons_of_mem _ hx)
theorem sound_P {ls : List (List Nat)} {o : List Nat} (h : Sound ls o) : ∀ m, Sound ls (befP ls o m)
  | 0 => h
  | m + 1 => by rw [befP_succ]; exact sound_I (sound_P h m) fun _ hk => hk
theorem sound_N (ls : List (List Nat)) : ∀ r, Sound ls (befN ls r)
  | 0 => fun i j h => by
    simp only [bit, befN, List.getD_eq_getElem?_getD, List.getElem?_replicate] at h
    split at h <;> simp at h
  | r + 1 => sound_P (sound_N ls r) _
/-- Two of so many are the same. -/
theorem pigeon : ∀ (n : Nat) (f : Nat → Nat), (∀ t, t ≤ n → f t < n) → ∃ a b, a < b ∧ b ≤ n ∧ f a = f b
  | 0, f, h => absurd (h 0 (Nat.le_refl _)) (by omega)
  | n + 1, f, h => by
    by_cases hx : ∃ a, a ≤ n ∧ f a = f (n + 1)
    · obtain ⟨a, h1, h2⟩ := hx
      exact ⟨a, n + 1, by omega, Nat.le_refl _, h2⟩
    · -- swap what equals n for f (n+1)
      obtain ⟨a, b, h1, h2, h3⟩ := pigeon n (fun t => if f t = n then f (n + 1) else f t) fun t ht => by
        have ht1 := h t (by omega)
        have hl := h (n + 1) (Nat.le_refl _)
        have hne : f t ≠ f (n + 1) := fun e => hx ⟨t, ht, e⟩
        split <;> omega
      refine ⟨a, b, h1, by omega, ?_⟩
      have ha : f a ≠ f (n + 1) := fun e => hx ⟨a, by omega, e⟩
      have hb : f b ≠ f (n + 1) := fun e => hx ⟨b, by omega, e⟩
      split at h3 <;> split at h3 <;> omega
theorem Wk.nodes {ls : List (List Nat)} : ∀ {m i j : Nat}, Wk ls m i j → ∃ f : Nat → Nat, f 0 = i ∧ f m = j ∧ ∀ t, t < m → f (t + 1) ∈ ls.getD (f t) []
  | 0, i, j, h => ⟨fun _ => i, rfl, h, fun t ht => absurd ht (by omega)⟩
  | m + 1, i, j, ⟨k, hk, h⟩ => by
    obtain ⟨f, h0, h1, h2⟩ := h.nodes
    refine ⟨fun t => if t = 0 then i else f (t - 1), rfl, by simpa using h1, fun t ht => ?_⟩
    cases t with
    | zero => simpa [h0] using hk
    | succ t => simpa using h2 t (by omega)
theorem walk_of {ls : List (List Nat)} {f : Nat → Nat} : ∀ {d a : Nat}, (∀ t, a ≤ t → t < a + d → f (t + 1) ∈ ls.getD (f t) []) → Wk ls d (f a) (f (a + d))
  | 0, a, _ => rfl
  | d + 1, a, h => by
    refine ⟨f (a + 1), h a (Nat.le_refl _) (by omega), ?_⟩
    have := walk_of (ls := ls) (f := f) (d := d) (a := a + 1) fun t h1 h2 => h t (by omega) (by omega)
    rwa [show a + 1 + d = a + (d + 1) by omega] at this
def NoCyc (ls : List (List Nat)) : Prop := ∀ i m, 1 ≤ m → ¬ Wk ls m i i
/-- A walk of more steps than there are elements holds a circle of at most as many. -/
theorem long_walk {ls : List (List Nat)} {m i j : Nat} (h : Wk ls m i j) (hm : ls.length < m) : ∃ x d, 1 ≤ d ∧ d ≤ ls.length ∧ Wk ls d x x := by
  obtain ⟨f, h0, h1, h2⟩ := h.nodes
  obtain ⟨a, b, hab, hb, he⟩ := pigeon ls.length f fun t ht => mem_lt (h2 t (by omega))
  refine ⟨f a, b - a, by omega, by omega, ?_⟩
  have := walk_of (ls := ls) (f := f) (d := b - a) (a := a) fun t h3 h4 => h2 t (by omega)
  rwa [show a + (b - a) = b by omega, ← he] at this
theorem walk_short {ls : List (List Nat)} (hc : NoCyc ls) {m i j : Nat} (h : Wk ls m i j) : m ≤ ls.length := by
  rcases Nat.lt_or_ge ls.length m with h1 | h1
  · obtain ⟨x, d, h2, _, h3⟩ := long_walk h h1
    exact absurd h3 (hc x d h2)
  · exact h1
theorem bef_iff {ls : List (List Nat)} (hc : NoCyc ls) (i j : Nat) : bit (bef ls) i j ↔ ∃ m, 1 ≤ m ∧ Wk ls m i j :=
  ⟨sound_N ls _ i j, fun ⟨_, h1, h2⟩ => befN_walk h1 (walk_short hc h2) h2⟩
theorem cyc_rep {ls : List (List Nat)} {i m : Nat} (h : Wk ls m i i) : ∀ t, Wk ls (t * m) i i
  | 0 => by rw [Nat.zero_mul]; rfl
  | t + 1 => by rw [Nat.succ_mul]; exact (cyc_rep h t).append h
theorem bef_cyc (ls : List (List Nat)) : (∃ i, i < ls.length ∧ bit (bef ls) i i) ↔ ¬ NoCyc ls := by
  constructor
  · rintro ⟨i, _, h⟩ hc
    obtain ⟨m, h1, h2⟩ := sound_N ls _ i i h
    exact hc i m h1 h2
  · intro h
    have : ∃ i m, 1 ≤ m ∧ Wk ls m i i := Classical.byContradiction fun hn => h fun i m h1 h2 => hn ⟨i, m, h1, h2⟩
    obtain ⟨i, m, h1, h2⟩ := this
    have h3 := cyc_rep h2 (ls.length + 1)
    have : ls.length < (ls.length + 1) * m := Nat.lt_of_lt_of_le (Nat.lt_succ_self _) (Nat.le_mul_of_pos_right _ h1)
    obtain ⟨x, d, hd1, hd2, hw⟩ := long_walk h3 this
    have hb := befN_walk hd1 hd2 hw
    match d, hw with
    | d + 1, ⟨k, hk, _⟩ => exact ⟨x, mem_lt hk, hb⟩
/-- The lists and their sets. -/
def Sets (ls : List (List Nat)) (ds : List Nat) : Prop := ds.length = ls.length ∧ ∀ i k, bit ds i k ↔ k ∈ ls.getD i []
def bitsF (f : Nat → Nat) : Nat → Nat
  | 0 => 0
  | m + 1 => bitsF f m ||| 2 ^ f m
theorem bitsF_bit (f : Nat → Nat) (x : Nat) : ∀ m, (bitsF f m).testBit x = true ↔ ∃ t, t < m ∧ f t = x
  | 0 => by simp [bitsF]
  | m + 1 => by
    simp only [bitsF, Nat.testBit_or, Bool.or_eq_true, bitsF_bit f x m, Nat.testBit_two_pow, decide_eq_true_eq]
    constructor
    · rintro (⟨t, h1, h2⟩ | h)
      · exact ⟨t, by omega, h2⟩
      · exact ⟨m, by omega, h⟩
    · rintro ⟨t, h1, h2⟩
      by_cases e : t = m
      · subst e; exact .inr h2
      · exact .inl ⟨t, by omega, h2⟩
theorem bitsF_lt {f : Nat → Nat} {n : Nat} : ∀ {m : Nat}, (∀ t, t < m → f t < n) → bitsF f m < 2 ^ n
  | 0, _ => Nat.pow_pos (by decide)
  | m + 1, h => Nat.or_lt_two_pow (bitsF_lt fun t ht => h t (by omega)) (Nat.pow_lt_pow_right (by decide) (h m (by omega)))
theorem kahn_nocyc {ls : List (List Nat)} {ds : List Nat} (hS : Sets ls ds) {f : Nat} {all : List Nat} (h : (kahn ds ls.length f 0 all).1 = 0) : NoCyc ls := by
  intro i m h1 h2
  obtain ⟨g, g0, gm, gs⟩ := h2.nodes
  have hlt : bitsF g m < 2 ^ ls.length := bitsF_lt fun t ht => mem_lt (gs t ht)
  have hne : bitsF g m ≠ 0 := fun e => by
    have := (bitsF_bit g (g 0) m).2 ⟨0, by omega, rfl⟩
    rw [e] at this
    simp at this
  obtain ⟨x, hx, hmin⟩ := kahn_min f 0 all h (bitsF g m) hlt hne (fun j _ => Nat.zero_testBit j)
  obtain ⟨t, ht, rfl⟩ := (bitsF_bit g x m).1 hx
  have h3 := hmin (g (t + 1)) ((hS.2 _ _).2 (gs t ht))
  have h4 : (bitsF g m).testBit (g (t + 1)) = true := by
    rw [bitsF_bit]
    by_cases e : t + 1 = m
    · exact ⟨0, by omega, by rw [e, gm, g0]⟩
    · exact ⟨t + 1, by omega, rfl⟩
  rw [h4] at h3
  cases h3
theorem rdyF_set (done : Nat) : ∀ (l : List Nat) (i j : Nat), i ≤ j → j < i + l.length → done.testBit j = false → sub (l.getD (j - i) 0) done = 0 → (rdyF done i l).testBit j = true
  | [], i, j, h1, h2, _, _ => absurd h2 (by simp; omega)
  | d :: r, i, j, h1, h2, h3, h4 => by
    unfold rdyF
    rw [Nat.testBit_or]
    by_cases e : i = j
    · subst e
      rw [Nat.sub_self] at h4
      simp at h4
      simp [h3, h4, Nat.testBit_two_pow]
    · have := rdyF_set done r (i + 1) j (by omega) (by simp at h2; omega) h3 (by
        rw [show j - i = (j - (i + 1)) + 1 by omega] at h4
        simpa using h4)
      rw [this, Bool.or_true]
theorem kahn_fail {ds : List Nat} {n : Nat} : ∀ (f done : Nat) (all : List Nat), done < 2 ^ n → ds.length = n → 2 ^ n ≤ f + done → (kahn ds n f done all).1 ≠ 0 → ∃ d, d < 2 ^ n ∧ d ≠ 2 ^ n - 1 ∧ rdyF d 0 ds = 0
  | 0, done, all, h1, _, h2, _ => absurd h1 (by omega)
  | f + 1, done, all, h1, hl, h2, h => by
    unfold kahn at h
    split at h
    · exact absurd rfl h
    · rename_i hne
      simp only at h
      split at h
      · rename_i hr
        exact ⟨done, h1, hne, hr⟩
      · rename_i hr
        have hgt := or_rdy_gt hr
        refine kahn_fail f _ _ (Nat.or_lt_two_pow h1 ?_) hl (by omega) h
        have := rdyF_lt done ds 0
        rwa [Nat.zero_add, hl] at this
theorem not_full {d n : Nat} (h1 : d < 2 ^ n) (h2 : d ≠ 2 ^ n - 1) : ∃ i, i < n ∧ d.testBit i = false := by
  refine Classical.byContradiction fun hn => h2 ?_
  refine Nat.eq_of_testBit_eq fun i => ?_
  rw [Nat.testBit_two_pow_sub_one]
  by_cases hi : i < n
  · have : ¬ d.testBit i = false := fun e => hn ⟨i, hi, e⟩
    simpa [hi] using this
  · rw [Nat.testBit_lt_two_pow (Nat.lt_of_lt_of_le h1 (Nat.pow_le_pow_right (by decide) (by omega)))]
    simp [hi]
theorem kahn_cyc {ls : List (List Nat)} {ds : List Nat} (hS : Sets ls ds) (hr : ∀ i k, k ∈ ls.getD i [] → k < ls.length) (h12 : 2 ^ ls.length ≤ 4096) {all : List Nat} (h : (kahn ds ls.length 4096 0 all).1 ≠ 0) : ¬ NoCyc ls := by
  obtain ⟨d, hd, hne, hr0⟩ := kahn_fail 4096 0 all (Nat.pow_pos (by decide)) hS.1 (by omega) h
  obtain ⟨i0, hi0, hb0⟩ := not_full hd hne
  have step : ∀ i, i < ls.length ∧ d.testBit i = false → ∃ k, k ∈ ls.getD i [] ∧ (k < ls.length ∧ d.testBit k = false) := by
    rintro i ⟨hi, hb⟩
    have hs : sub (ds.getD i 0) d ≠ 0 := fun e => by
      have := rdyF_set d ds 0 i (by omega) (by rw [hS.1]; omega) hb (by rwa [Nat.sub_zero])
      rw [hr0] at this
      simp at this
    obtain ⟨k, hk⟩ := Nat.exists_testBit_of_ne_zero hs
    rw [testBit_sub, Bool.and_eq_true] at hk
    have hm := (hS.2 i k).1 hk.1
    exact ⟨k, hm, hr i k hm, by simpa using hk.2⟩
  have walk : ∀ m i, i < ls.length ∧ d.testBit i = false → ∃ j, Wk ls m i j := by
    intro m
    induction m with
    | zero => exact fun i _ => ⟨i, rfl⟩
    | succ m ih =>
      intro i hi
      obtain ⟨k, hk, hk2⟩ := step i hi
      obtain ⟨j, hj⟩ := ih k hk2
      exact ⟨j, k, hk, hj⟩
  intro hc
  obtain ⟨j, hj⟩ := walk (ls.length + 1) i0 ⟨hi0, hb0⟩
  have := walk_short hc hj
  omega
end Go.Proofs.YteeaccnklkcchaaDoor
/- The plain laws of layer 10: the errors of an order, and its closure, told in two ways. -/
namespace Go.Proofs.YteeaccnklkcchaaDoor
set_option linter.unusedSimpArgs false
set_option linter.unusedVariables false
set_option linter.unusedSectionVars false
def natA (after : List (List Int)) : List (List Nat) := after.map (·.map Int.toNat)
def offB (n i : Int) (k : Int) : Bool := decide (k < 0) || decide (n ≤ k) || decide (k = i)
def badB (n : Int) : Nat → List (List Int) → Bool
  | _, [] => false
  | i, l :: r => l.any (offB n i) || badB n (i + 1) r
def cycB (after : List (List Int)) : Bool := (List.range after.length).any fun i => ((bef (natA after)).getD i 0).testBit i
def refErr (after : List (List Int)) : Int := if 12 < after.length then 1 else if !after.all ascL then 1 else if badB after.length 0 after then 2 else if cycB after then 12 else 0
theorem dirL_none {n i : Int} : ∀ {l : List Int} {s : Nat}, dirL n i s l = none ↔ l.any (offB n i) = true
  | [], s => by simp [dirL]
  | k :: r, s => by
    unfold dirL
    by_cases h : k < 0 ∨ n ≤ k ∨ k = i
    · rw [if_pos h]
      simp only [List.any_cons, offB, Bool.or_eq_true, decide_eq_true_eq, true_iff]
      left
      omega
    · rw [if_neg h, dirL_none]
      have : offB n i k = false := by simp [offB]; omega
      simp [this]
theorem dirs_none {n : Int} : ∀ {ll : List (List Int)} {i : Nat}, dirs n i ll = none ↔ badB n i ll = true
  | [], i => by simp [dirs, badB]
  | l :: r, i => by
    unfold dirs badB
    cases h : dirL n i 0 l with
    | none => simp [dirL_none.1 h]
    | some d =>
      have h1 : l.any (offB n i) = false := by
        rw [← Bool.not_eq_true]
        intro h2
        rw [dirL_none.2 h2] at h
        cases h
      rw [h1, Bool.false_or, ← dirs_none]
      simp
theorem natA_len (after : List (List Int)) : (natA after).length = after.length := by simp [natA]
theorem natA_get {after : List (List Int)} {i : Nat} (h : i < after.length) : (natA after).getD i [] = after[i].map Int.toNat := by
  rw [List.getD_eq_getElem?_getD, natA, List.getElem?_map, List.getElem?_eq_getElem h]; rfl
theorem dirs_sets {after : List (List Int)} {ds : List Nat} (h : dirs after.length 0 after = some ds) : Sets (natA after) ds ∧ (∀ i k, k ∈ (natA after).getD i [] → k < after.length ∧ k ≠ i) ∧ ∀ i (h : i < after.length), ∀ k ∈ after[i], 0 ≤ k := by
  obtain ⟨hl, hg⟩ := dirs_get h
  have hg' : ∀ j (h : j < after.length), dirL after.length (j : Int) 0 after[j] = some (ds.getD j 0) := fun j hj => by
    have := hg j hj
    rwa [Nat.zero_add] at this
  refine ⟨⟨by rw [hl, natA_len], fun i k => ?_⟩, fun i k hk => ?_, fun i hi k hk => (dirL_range (hg' i hi) k hk).1⟩
  · by_cases hi : i < after.length
    · rw [natA_get hi]
      simp only [bit]
      rw [dirL_bit (hg' i hi), Nat.zero_testBit, Bool.false_or, List.any_eq_true, List.mem_map]
      simp only [beq_iff_eq]
    · have h1 : ds.getD i 0 = 0 := by rw [List.getD_eq_getElem?_getD, List.getElem?_eq_none (by omega)]; rfl
      have h2 : (natA after).getD i [] = [] := by rw [List.getD_eq_getElem?_getD, List.getElem?_eq_none (by rw [natA_len]; omega)]; rfl
      rw [bit, h1, h2]
      simp
  · have hi : i < after.length := by have := mem_lt hk; rwa [natA_len] at this
    rw [natA_get hi] at hk
    obtain ⟨x, hx, rfl⟩ := List.mem_map.1 hk
    have := dirL_range (hg' i hi) x hx
    omega
theorem kahn_err (ds : List Nat) (n : Nat) : ∀ f done all, (kahn ds n f done all).1 = 0 ∨ (kahn ds n f done all).1 = 12
  | 0, _, _ => .inr rfl
  | f + 1, done, all => by
    unfold kahn
    split
    · exact .inl rfl
    · simp only
      split
      · exact .inr rfl
      · exact kahn_err ds n f _ _
theorem pow12 {k : Nat} (h : k ≤ 12) : 2 ^ k ≤ 4096 := by
  have := Nat.pow_le_pow_right (n := 2) (by decide) h
  simpa using this
theorem cycB_iff {after : List (List Int)} : cycB after = true ↔ ¬ NoCyc (natA after) := by
  rw [← bef_cyc, cycB, List.any_eq_true]
  simp only [List.mem_range, natA_len, bit]
theorem refErr_eq (after : List (List Int)) : refErr after = (ofS after).1 := by
  unfold refErr ofS
  split
  · rfl
  · rename_i h12
    split
    · rfl
    · cases hd : dirs after.length 0 after with
      | none => rw [dirs_none] at hd; rw [if_pos hd]
      | some ds =>
        have hb : badB after.length 0 after = false := by
          rw [← Bool.not_eq_true, ← dirs_none, hd]
          simp
        rw [hb]
        obtain ⟨hS, hr, _⟩ := dirs_sets hd
        simp only [Bool.false_eq_true, if_false]
        rcases kahn_err ds after.length 4096 0 (List.replicate after.length 0) with h | h
        · rw [h, if_neg]
          rw [cycB_iff]
          intro hn
          exact hn (kahn_nocyc hS (by rw [natA_len]; exact h))
        · rw [h, if_pos]
          rw [cycB_iff]
          exact kahn_cyc hS (fun i k hk => by rw [natA_len]; exact (hr i k hk).1) (by rw [natA_len]; exact pow12 (by omega)) (all := List.replicate after.length 0) (by rw [natA_len, h]; decide)
/-- What follows from what is known of those directly before. -/
theorem foldU {i : Nat} : ∀ {L a : List Nat}, i < a.length → i ∉ L → (L.foldl (fun a k => a.set i (a.getD i 0 ||| a.getD k 0)) a).length = a.length ∧ (∀ x, x ≠ i → (L.foldl (fun a k => a.set i (a.getD i 0 ||| a.getD k 0)) a).getD x 0 = a.getD x 0) ∧ ∀ j, bit (L.foldl (fun a k => a.set i (a.getD i 0 ||| a.getD k 0)) a) i j ↔ bit a i j ∨ ∃ k, k ∈ L ∧ bit a k j
  | [], a, _, _ => ⟨rfl, fun _ _ => rfl, fun j => by simp⟩
  | k :: r, a, hi, hn => by
    have hk : k ≠ i := fun e => hn (e ▸ List.mem_cons_self ..)
    have hr : i ∉ r := fun h => hn (List.mem_cons_of_mem _ h)
    simp only [List.foldl_cons]
    obtain ⟨h1, h2, h3⟩ := foldU (L := r) (a := a.set i (a.getD i 0 ||| a.getD k 0)) (by simpa using hi) hr
    have hx : ∀ x, x ≠ i → (a.set i (a.getD i 0 ||| a.getD k 0)).getD x 0 = a.getD x 0 := fun x hx => by
      rw [getD_set, if_neg (fun h => hx h.1.symm)]
    refine ⟨by rw [h1]; simp, fun x hxi => by rw [h2 x hxi, hx x hxi], fun j => ?_⟩
    rw [h3 j]
    have hb : bit (a.set i (a.getD i 0 ||| a.getD k 0)) i j ↔ bit a i j ∨ bit a k j := by
      simp only [bit, getD_set, hi, and_self, if_true, Nat.testBit_or, Bool.or_eq_true]
    rw [hb]
    constructor
    · rintro ((h | h) | ⟨y, hy, h⟩)
      · exact .inl h
      · exact .inr ⟨k, List.mem_cons_self .., h⟩
      · refine .inr ⟨y, List.mem_cons_of_mem _ hy, ?_⟩
        have hyi : y ≠ i := fun e => hr (e ▸ hy)
        simpa only [bit, hx y hyi] using h
    · rintro (h | ⟨y, hy, h⟩)
      · exact .inl (.inl h)
      · rcases List.mem_cons.1 hy with rfl | hy
        · exact .inl (.inr h)
        · have hyi : y ≠ i := fun e => hr (e ▸ hy)
          exact .inr ⟨y, hy, by simpa only [bit, hx y hyi] using h⟩
theorem mem_lst' {s k : Nat} (h : s < 4096) : k ∈ lst s ↔ s.testBit k = true := by
  simp only [lst, List.mem_filter, List.mem_range]
  refine ⟨fun h => by simpa using h.2, fun hk => ⟨?_, by simpa using hk⟩⟩
  rcases Nat.lt_or_ge k 12 with h1 | h1
  · exact h1
  · rw [Nat.testBit_lt_two_pow (Nat.lt_of_lt_of_le h (by have := Nat.pow_le_pow_right (n := 2) (by decide) h1; simpa using this))] at hk
    cases hk
theorem upd_spec {ds a : List Nat} {i : Nat} (hi : i < a.length) (hd : ds.getD i 0 < 4096) (hn : ¬ bit ds i i) : (upd ds a i).length = a.length ∧ (∀ x, x ≠ i → (upd ds a i).getD x 0 = a.getD x 0) ∧ ∀ j, bit (upd ds a i) i j ↔ bit ds i j ∨ ∃ k, bit ds i k ∧ bit a k j := by
  have hx : ∀ x, x ≠ i → (a.set i (ds.getD i 0)).getD x 0 = a.getD x 0 := fun x hx => by rw [getD_set, if_neg (fun h => hx h.1.symm)]
  obtain ⟨h1, h2, h3⟩ := foldU (i := i) (L := lst (ds.getD i 0)) (a := a.set i (ds.getD i 0)) (by simpa using hi) (fun h => hn ((mem_lst' hd).1 h))
  refine ⟨by unfold upd; rw [h1]; simp, fun x hxi => by unfold upd; rw [h2 x hxi, hx x hxi], fun j => ?_⟩
  unfold upd
  rw [h3 j]
  have hb : bit (a.set i (ds.getD i 0)) i j ↔ bit ds i j := by simp only [bit, getD_set, hi, and_self, if_true]
  rw [hb]
  refine or_congr Iff.rfl ⟨?_, ?_⟩
  · rintro ⟨k, hk, h⟩
    have hk' := (mem_lst' hd).1 hk
    have hki : k ≠ i := fun e => hn (e ▸ hk')
    exact ⟨k, hk', by simpa only [bit, hx k hki] using h⟩
  · rintro ⟨k, hk, h⟩
    have hki : k ≠ i := fun e => hn (e ▸ hk)
    exact ⟨k, (mem_lst' hd).2 hk, by simpa only [bit, hx k hki] using h⟩
theorem updL_spec {ds : List Nat} {done : Nat} : ∀ {L a : List Nat}, (∀ i ∈ L, i < a.length ∧ ds.getD i 0 < 4096 ∧ done.testBit i = false ∧ ∀ k, bit ds i k → done.testBit k = true) → (L.foldl (upd ds) a).length = a.length ∧ (∀ x, x ∉ L → (L.foldl (upd ds) a).getD x 0 = a.getD x 0) ∧ ∀ i ∈ L, ∀ j, bit (L.foldl (upd ds) a) i j ↔ bit ds i j ∨ ∃ k, bit ds i k ∧ bit a k j
  | [], a, _ => ⟨rfl, fun _ _ => rfl, fun i hi => absurd hi (by simp)⟩
  | i :: r, a, h => by
    obtain ⟨hi, hd, hb, hk⟩ := h i (List.mem_cons_self ..)
    obtain ⟨u1, u2, u3⟩ := upd_spec (ds := ds) hi hd (fun e => by have := hk i e; rw [hb] at this; cases this)
    obtain ⟨h1, h2, h3⟩ := updL_spec (ds := ds) (done := done) (L := r) (a := upd ds a i) fun x hx => by
      have := h x (List.mem_cons_of_mem _ hx)
      exact ⟨by rw [u1]; exact this.1, this.2⟩
    simp only [List.foldl_cons]
    have keep : ∀ k, done.testBit k = true → ∀ j, bit (upd ds a i) k j ↔ bit a k j := fun k hk2 j => by
      have : k ≠ i := fun e => by rw [e, hb] at hk2; cases hk2
      simp only [bit, u2 k this]
    refine ⟨h1.trans u1, fun x hx => ?_, fun x hx j => ?_⟩
    · rw [h2 x fun h => hx (List.mem_cons_of_mem _ h), u2 x fun e => hx (e ▸ List.mem_cons_self ..)]
    · by_cases hxr : x ∈ r
      · rw [h3 x hxr j]
        have hkx := (h x (List.mem_cons_of_mem _ hxr)).2.2.2
        exact or_congr Iff.rfl ⟨fun ⟨k, h4, h5⟩ => ⟨k, h4, (keep k (hkx k h4) j).1 h5⟩, fun ⟨k, h4, h5⟩ => ⟨k, h4, (keep k (hkx k h4) j).2 h5⟩⟩
      · have : x = i := by rcases List.mem_cons.1 hx with h | h; exact h; exact absurd h hxr
        subst this
        simp only [bit, h2 x hxr]
        exact u3 j
/-- All that comes before an element. -/
def Bef (ls : List (List Nat)) (i j : Nat) : Prop := ∃ m, 1 ≤ m ∧ Wk ls m i j
theorem Bef.step {ls : List (List Nat)} {i j : Nat} : Bef ls i j ↔ j ∈ ls.getD i [] ∨ ∃ k, k ∈ ls.getD i [] ∧ Bef ls k j := by
  constructor
  · rintro ⟨m, h1, h2⟩
    match m, h2 with
    | m + 1, ⟨k, hk, h2⟩ =>
      match m, h2 with
      | 0, h2 => subst h2; exact .inl hk
      | m + 1, h2 => exact .inr ⟨k, hk, m + 1, by omega, h2⟩
  · rintro (h | ⟨k, hk, m, h1, h2⟩)
    · exact ⟨1, Nat.le_refl _, j, h, rfl⟩
    · exact ⟨m + 1, by omega, k, hk, h2⟩
theorem Bef.trans {ls : List (List Nat)} {i k j : Nat} (h : Bef ls i k) (h' : Bef ls k j) : Bef ls i j := by
  obtain ⟨a, h1, h2⟩ := h
  obtain ⟨b, h3, h4⟩ := h'
  exact ⟨a + b, by omega, h2.append h4⟩
theorem kahn_clos {ls : List (List Nat)} {ds : List Nat} (hS : Sets ls ds) (h12 : ls.length ≤ 12) (hd : ∀ i, ds.getD i 0 < 4096) : ∀ (f done : Nat) (all : List Nat), (kahn ds ls.length f done all).1 = 0 → all.length = ls.length → (∀ i, i < ls.length → done.testBit i = true → ∀ j, bit all i j ↔ Bef ls i j) →
    (kahn ds ls.length f done all).2.length = ls.length ∧ ∀ i, i < ls.length → ∀ j, bit (kahn ds ls.length f done all).2 i j ↔ Bef ls i j
  | 0, done, all, h, _, _ => by simp [kahn] at h
  | f + 1, done, all, h, hl, hI => by
    unfold kahn at h ⊢
    split at h
    · rename_i hfull
      rw [if_pos hfull]
      exact ⟨hl, fun i hi => hI i hi (by rw [hfull, Nat.testBit_two_pow_sub_one]; simpa using hi)⟩
    · rename_i hfull
      rw [if_neg hfull]
      simp only at h ⊢
      split at h
      · cases h
      · rename_i hr
        rw [if_neg hr]
        have hrlt : rdyF done 0 ds < 2 ^ ds.length := by have := rdyF_lt done ds 0; rwa [Nat.zero_add] at this
        have hsub : ∀ i, (rdyF done 0 ds).testBit i = true → i < ls.length ∧ done.testBit i = false ∧ ∀ k, bit ds i k → done.testBit k = true := fun i hi => by
          obtain ⟨_, h1, h2⟩ := rdyF_has done ds 0 i hi
          rw [Nat.sub_zero] at h2
          refine ⟨by rw [← hS.1]; omega, rdyF_bit done ds 0 i hi, fun k hk => ?_⟩
          have := testBit_sub (ds.getD i 0) done k
          rw [h2, Nat.zero_testBit, show (ds.getD i 0).testBit k = true from hk, Bool.true_and] at this
          simpa using this.symm
        have hmem : ∀ i ∈ lst (rdyF done 0 ds), (rdyF done 0 ds).testBit i = true := fun i hi => by
          have := (List.mem_filter.1 hi).2
          simpa using this
        obtain ⟨h1, h2, h3⟩ := updL_spec (ds := ds) (done := done) (L := lst (rdyF done 0 ds)) (a := all) fun i hi => by
          have := hsub i (hmem i hi)
          exact ⟨by rw [hl]; exact this.1, hd i, this.2⟩
        refine kahn_clos hS h12 hd f _ _ h (h1.trans hl) fun i hi hb j => ?_
        rw [Nat.testBit_or, Bool.or_eq_true] at hb
        by_cases hir : i ∈ lst (rdyF done 0 ds)
        · rw [h3 i hir j, Bef.step]
          have hk := (hsub i (hmem i hir)).2.2
          have hin : ∀ k, bit ds i k → k < ls.length → (bit all k j ↔ Bef ls k j) := fun k hk2 hkl => hI k hkl (hk k hk2) j
          refine or_congr (hS.2 i j) ⟨?_, ?_⟩
          · rintro ⟨k, h4, h5⟩
            have hkl : k < ls.length := by
              rcases Nat.lt_or_ge k ls.length with h | h
              · exact h
              · rw [bit, List.getD_eq_getElem?_getD, List.getElem?_eq_none (by omega)] at h5; simp at h5
            exact ⟨k, (hS.2 i k).1 h4, (hin k h4 hkl).1 h5⟩
          · rintro ⟨k, h4, h5⟩
            have hkl : k < ls.length := by
              obtain ⟨m, hm1, hm2⟩ := h5
              match m, hm2 with
              | m + 1, ⟨y, hy, _⟩ => exact mem_lt hy
            exact ⟨k, (hS.2 i k).2 h4, (hin k ((hS.2 i k).2 h4) hkl).2 h5⟩
        · rcases hb with hb | hb
          · simp only [bit, h2 i hir]
            exact hI i hi hb j
          · refine absurd ?_ hir
            have hlt : i < 12 ∨ 12 ≤ i := by omega
            rcases hlt with h4 | h4
            · exact List.mem_filter.2 ⟨List.mem_range.2 h4, by simpa using hb⟩
            · exfalso
              have h7 := (hsub i hb).1
              omega
theorem eq_of_bits {a b : List Nat} (hl : a.length = b.length) (h : ∀ i, i < a.length → ∀ j, bit a i j ↔ bit b i j) : a = b := by
  refine List.ext_getElem hl fun i h1 h2 => Nat.eq_of_testBit_eq fun j => ?_
  have := h i h1 j
  simp only [bit, List.getD_eq_getElem?_getD, List.getElem?_eq_getElem h1, List.getElem?_eq_getElem h2, Option.getD_some] at this
  rw [Bool.eq_iff_iff]
  exact this
theorem dirs_lt {after : List (List Int)} {ds : List Nat} (h : dirs after.length 0 after = some ds) (h12 : after.length ≤ 12) (i : Nat) : ds.getD i 0 < 4096 := by
  obtain ⟨hS, hr, _⟩ := dirs_sets h
  refine Nat.lt_of_lt_of_le (Nat.lt_pow_two_of_testBit _ fun k hk => ?_) (pow12 (k := 12) (Nat.le_refl _))
  rcases Nat.lt_or_ge k 12 with h1 | h1
  · exfalso; omega
  · cases hb : (ds.getD i 0).testBit k with
    | false => rfl
    | true => have := hr i k ((hS.2 i k).1 hb); omega
/-- The two ways to the closure agree. -/
theorem clos_eq {after : List (List Int)} (h : (ofS after).1 = 0) : ∃ ds, dirs after.length 0 after = some ds ∧ after.length ≤ 12 ∧ NoCyc (natA after) ∧ (ofS after).2 = (ds, bef (natA after)) := by
  obtain ⟨h12, ds, hd, hk⟩ := ofS_ok h
  obtain ⟨hS, hr, _⟩ := dirs_sets hd
  have hn : NoCyc (natA after) := kahn_nocyc hS (by rw [natA_len]; exact hk)
  refine ⟨ds, hd, h12, hn, ?_⟩
  have hc := kahn_clos hS (by rw [natA_len]; exact h12) (dirs_lt hd h12) 4096 0 (List.replicate after.length 0) (by rw [natA_len]; exact hk) (by simp [natA_len]) (fun i _ hb => by rw [Nat.zero_testBit] at hb; cases hb)
  rw [natA_len] at hc
  have e : (kahn ds after.length 4096 0 (List.replicate after.length 0)).2 = bef (natA after) := by
    refine eq_of_bits (by rw [hc.1, bef, befN_len, natA_len]) fun i hi j => ?_
    rw [hc.1] at hi
    rw [hc.2 i hi j, bef_iff hn]
    exact Iff.rfl
  unfold ofS at h ⊢
  split
  · omega
  · split
    · rename_i h1 h2
      rw [if_neg h1, if_pos h2] at h
      cases h
    · rw [hd]
      simp only [e]
end Go.Proofs.YteeaccnklkcchaaDoor
/- The plain laws of layer 10 and 20: what Reduce leaves. -/
namespace Go.Proofs.YteeaccnklkcchaaDoor
set_option linter.unusedSimpArgs false
set_option linter.unusedVariables false
set_option linter.unusedSectionVars false
def thrO (all : List Nat) (s : Nat) : Nat := (lst s).foldl (fun t k => t ||| all.getD k 0) 0
def redO (ds all : List Nat) : List (List Nat) := ds.map fun d => lst (sub d (thrO all d))
def outR (b : List Nat) (s : Nat) : Nat := (lst s).foldl (fun d k => sub d (b.getD k 0)) s
def redR (b : List Nat) : List (List Nat) := b.map fun s => lst (outR b s)
theorem foldOr_bit (all : List Nat) (j : Nat) : ∀ (L : List Nat) (t : Nat), (L.foldl (fun t k => t ||| all.getD k 0) t).testBit j = true ↔ t.testBit j = true ∨ ∃ k, k ∈ L ∧ bit all k j
  | [], t => by simp
  | k :: r, t => by
    simp only [List.foldl_cons, foldOr_bit all j r, Nat.testBit_or, Bool.or_eq_true, List.mem_cons]
    constructor
    · rintro ((h | h) | ⟨x, h1, h2⟩)
      · exact .inl h
      · exact .inr ⟨k, .inl rfl, h⟩
      · exact .inr ⟨x, .inr h1, h2⟩
    · rintro (h | ⟨x, rfl | h1, h2⟩)
      · exact .inl (.inl h)
      · exact .inl (.inr h2)
      · exact .inr ⟨x, h1, h2⟩
theorem foldSub_bit (b : List Nat) (j : Nat) : ∀ (L : List Nat) (t : Nat), (L.foldl (fun d k => sub d (b.getD k 0)) t).testBit j = true ↔ t.testBit j = true ∧ ∀ k, k ∈ L → ¬ bit b k j
  | [], t => by simp
  | k :: r, t => by
    simp only [List.foldl_cons, foldSub_bit b j r, testBit_sub, Bool.and_eq_true, List.mem_cons, Bool.not_eq_true', forall_eq_or_imp, bit, Bool.not_eq_true]
    constructor
    · rintro ⟨⟨h1, h2⟩, h3⟩
      exact ⟨h1, h2, h3⟩
    · rintro ⟨h1, h2, h3⟩
      exact ⟨⟨h1, h2⟩, h3⟩
theorem lst_congr {a b : Nat} (h : ∀ j, a.testBit j = true ↔ b.testBit j = true) : lst a = lst b := by
  have : a = b := Nat.eq_of_testBit_eq fun j => by rw [Bool.eq_iff_iff]; exact h j
  rw [this]
theorem bef_lt {ls : List (List Nat)} (hc : NoCyc ls) (hr : ∀ i k, k ∈ ls.getD i [] → k < ls.length) (h12 : ls.length ≤ 12) (i : Nat) : (bef ls).getD i 0 < 4096 := by
  refine Nat.lt_of_lt_of_le (Nat.lt_pow_two_of_testBit _ fun j hj => ?_) (pow12 (k := 12) (Nat.le_refl _))
  cases hb : ((bef ls).getD i 0).testBit j with
  | false => rfl
  | true =>
    exfalso
    obtain ⟨m, h1, h2⟩ := (bef_iff hc i j).1 hb
    have : ∀ m i, 1 ≤ m → Wk ls m i j → j < ls.length := by
      intro m
      induction m with
      | zero => intro i h; omega
      | succ m ih =>
        rintro i _ ⟨k, hk, hw⟩
        rcases Nat.eq_zero_or_pos m with rfl | hm
        · obtain rfl : k = j := hw
          exact hr i k hk
        · exact ih k hm hw
    have := this m i h1 h2
    omega
theorem Bef.lt {ls : List (List Nat)} (hr : ∀ i k, k ∈ ls.getD i [] → k < ls.length) {i j : Nat} (h : Bef ls i j) : i < ls.length ∧ j < ls.length := by
  obtain ⟨m, h1, h2⟩ := h
  constructor
  · match m, h2 with
    | m + 1, ⟨k, hk, _⟩ => exact mem_lt hk
  · induction m generalizing i with
    | zero => omega
    | succ m ih =>
      obtain ⟨k, hk, hw⟩ := h2
      rcases Nat.eq_zero_or_pos m with rfl | hm
      · obtain rfl : k = j := hw
        exact hr i k hk
      · exact ih hm hw
/-- An edge that nothing lies between. -/
def Dir (ls : List (List Nat)) (i j : Nat) : Prop := Bef ls i j ∧ ∀ k, Bef ls i k → ¬ Bef ls k j
theorem dir_mem {ls : List (List Nat)} {i j : Nat} (h : Dir ls i j) : j ∈ ls.getD i [] := by
  rcases Bef.step.1 h.1 with h1 | ⟨k, hk, h1⟩
  · exact h1
  · exact absurd h1 (h.2 k (Bef.step.2 (.inl hk)))
theorem dir_iff {ls : List (List Nat)} {i j : Nat} : Dir ls i j ↔ j ∈ ls.getD i [] ∧ ∀ k, k ∈ ls.getD i [] → ¬ Bef ls k j := by
  refine ⟨fun h => ⟨dir_mem h, fun k hk => h.2 k (Bef.step.2 (.inl hk))⟩, fun ⟨h1, h2⟩ => ⟨Bef.step.2 (.inl h1), fun k hk hkj => ?_⟩⟩
  rcases Bef.step.1 hk with h3 | ⟨y, hy, h3⟩
  · exact h2 k h3 hkj
  · exact h2 y hy (h3.trans hkj)
theorem redR_get {ls : List (List Nat)} (hc : NoCyc ls) (hr : ∀ i k, k ∈ ls.getD i [] → k < ls.length) (h12 : ls.length ≤ 12) (i j : Nat) : j ∈ (redR (bef ls)).getD i [] ↔ Dir ls i j := by
  have hl : (bef ls).length = ls.length := befN_len ls _
  by_cases hi : i < ls.length
  · have e : (redR (bef ls)).getD i [] = lst (outR (bef ls) ((bef ls).getD i 0)) := by
      rw [List.getD_eq_getElem?_getD, redR, List.getElem?_map, List.getElem?_eq_getElem (by omega), List.getD_eq_getElem?_getD, List.getElem?_eq_getElem (by omega)]; rfl
    rw [e]
    have hlt := bef_lt hc hr h12 i
    have hout : ∀ x, (outR (bef ls) ((bef ls).getD i 0)).testBit x = true ↔ Dir ls i x := fun x => by
      rw [outR, foldSub_bit]
      refine and_congr (bef_iff hc i x) (forall_congr' fun k => ?_)
      rw [mem_lst' hlt]
      refine imp_congr (bef_iff hc i k) (not_congr (bef_iff hc k x))
    rw [mem_lst' ?_, hout]
    refine Nat.lt_of_lt_of_le (Nat.lt_pow_two_of_testBit _ fun x hx => ?_) (pow12 (k := 12) (Nat.le_refl _))
    cases hb : (outR (bef ls) ((bef ls).getD i 0)).testBit x with
    | false => rfl
    | true => have := (((hout x).1 hb).1.lt hr).2; omega
  · have e : (redR (bef ls)).getD i [] = [] := by rw [List.getD_eq_getElem?_getD, redR, List.getElem?_map, List.getElem?_eq_none (by omega)]; rfl
    rw [e]
    refine ⟨fun h => absurd h (by simp), fun h => absurd (h.1.lt hr).1 hi⟩
/-- A greatest one of what is bounded. -/
theorem greatest {p : Nat → Prop} {n : Nat} (hb : ∀ m, p m → m ≤ n) : ∀ (d a : Nat), n - a ≤ d → p a → ∃ m, p m ∧ ∀ m', p m' → m' ≤ m
  | 0, a, h, ha => ⟨a, ha, fun m' hm' => by have := hb m' hm'; omega⟩
  | d + 1, a, h, ha => by
    by_cases hx : ∃ m', p m' ∧ a < m'
    · obtain ⟨m', h1, h2⟩ := hx
      have := hb m' h1
      exact greatest hb d m' (by omega) h1
    · exact ⟨a, ha, fun m' hm' => Nat.le_of_not_lt fun h => hx ⟨m', hm', h⟩⟩
theorem red_walk {ls bs : List (List Nat)} (hc : NoCyc ls) (hD : ∀ i j, Dir ls i j → j ∈ bs.getD i []) {i k : Nat} (h : Bef ls i k) : Bef bs i k := by
  obtain ⟨a, ha, hw⟩ := h
  obtain ⟨m, hm, hg⟩ := greatest (p := fun m => Wk ls m i k) (fun m h => walk_short hc h) _ a (Nat.le_refl _) hw
  have hma := hg a hw
  obtain ⟨f, f0, f1, fs⟩ := hm.nodes
  have fs' : ∀ t, t < m → f (t + 1) ∈ bs.getD (f t) [] := fun t ht => by
    refine hD _ _ ⟨Bef.step.2 (.inl (fs t ht)), fun y h1 h2 => ?_⟩
    obtain ⟨p, hp, hw1⟩ := h1
    obtain ⟨q, hq, hw2⟩ := h2
    have w1 : Wk ls t i (f t) := by
      have := walk_of (ls := ls) (f := f) (d := t) (a := 0) fun x _ hx => fs x (by omega)
      rwa [f0, Nat.zero_add] at this
    have w3 : Wk ls (m - (t + 1)) (f (t + 1)) k := by
      have := walk_of (ls := ls) (f := f) (d := m - (t + 1)) (a := t + 1) fun x h1 hx => fs x (by omega)
      rwa [show t + 1 + (m - (t + 1)) = m by omega, f1] at this
    have := hg _ (((w1.append hw1).append hw2).append w3)
    omega
  have w := walk_of (ls := bs) (f := f) (d := m) (a := 0) fun x _ hx => fs' x (by omega)
  rw [f0, Nat.zero_add, f1] at w
  exact ⟨m, by omega, w⟩
theorem sub_lt' {d t : Nat} (h : d < 4096) : sub d t < 4096 := by
  refine Nat.lt_of_lt_of_le (Nat.lt_pow_two_of_testBit _ fun x hx => ?_) (pow12 (k := 12) (Nat.le_refl _))
  rw [testBit_sub, Nat.testBit_lt_two_pow (Nat.lt_of_lt_of_le h (by have := Nat.pow_le_pow_right (n := 2) (by decide) hx; simpa using this)), Bool.false_and]
theorem red_eq {after : List (List Int)} (h : (ofS after).1 = 0) : redO (ofS after).2.1 (ofS after).2.2 = redR (bef (natA after)) := by
  obtain ⟨ds, hd, h12, hn, he⟩ := clos_eq h
  obtain ⟨hS, hr, _⟩ := dirs_sets hd
  rw [he]
  have hr' : ∀ i k, k ∈ (natA after).getD i [] → k < (natA after).length := fun i k hk => by rw [natA_len]; exact (hr i k hk).1
  refine List.ext_getElem (by simp [redO, redR, hS.1, bef, befN_len]) fun i h1 h2 => ?_
  have hids : i < ds.length := by simpa [redO] using h1
  have hib : i < (bef (natA after)).length := by simpa [redR] using h2
  simp only [redO, redR, List.getElem_map]
  refine lst_congr fun j => ?_
  have e1 : ds[i] = ds.getD i 0 := by simp [List.getD_eq_getElem?_getD, List.getElem?_eq_getElem hids]
  have e2 : (bef (natA after))[i] = (bef (natA after)).getD i 0 := by simp [List.getD_eq_getElem?_getD, List.getElem?_eq_getElem hib]
  rw [e1, e2, testBit_sub, Bool.and_eq_true, Bool.not_eq_true', ← Bool.not_eq_true, thrO, foldOr_bit, outR, foldSub_bit]
  have hb : ∀ i j, ((bef (natA after)).getD i 0).testBit j = true ↔ Bef (natA after) i j := fun i j => bef_iff hn i j
  have hlt := bef_lt hn hr' (by rw [natA_len]; exact h12)
  have L : (ds.getD i 0).testBit j = true ∧ ¬ (Nat.testBit 0 j = true ∨ ∃ k, k ∈ lst (ds.getD i 0) ∧ bit (bef (natA after)) k j) ↔ Dir (natA after) i j := by
    rw [dir_iff]
    refine and_congr (hS.2 i j) ?_
    simp only [Nat.zero_testBit, Bool.false_eq_true, false_or, not_exists, not_and]
    refine forall_congr' fun k => ?_
    rw [mem_lst' (dirs_lt hd h12 i)]
    exact imp_congr (hS.2 i k) (not_congr (hb k j))
  have R : ((bef (natA after)).getD i 0).testBit j = true ∧ (∀ k, k ∈ lst ((bef (natA after)).getD i 0) → ¬ bit (bef (natA after)) k j) ↔ Dir (natA after) i j := by
    refine and_congr (hb i j) (forall_congr' fun k => ?_)
    rw [mem_lst' (hlt i)]
    exact imp_congr (hb i k) (not_congr (hb k j))
  rw [L, R]
def intL (l : List Nat) : List Int := l.map fun n : Nat => (n : Int)
def redA (after : List (List Int)) : List (List Int) := (redR (bef (natA after))).map intL
theorem natA_red (after : List (List Int)) : natA (redA after) = redR (bef (natA after)) := by
  simp only [natA, redA, List.map_map]
  refine (List.map_congr_left fun l _ => ?_).trans (List.map_id _)
  simp [intL, Function.comp_def]
theorem redA_len (after : List (List Int)) : (redA after).length = after.length := by simp [redA, redR, bef, befN_len, natA]
theorem asc_pair : ∀ {l : List Int} {p : Int}, List.Pairwise (· < ·) (p :: l) → ascP p l = true
  | [], _, _ => rfl
  | a :: r, p, h => by
    simp only [ascP, Bool.and_eq_true, decide_eq_true_eq]
    have h1 := List.pairwise_cons.1 h
    exact ⟨h1.1 a (List.mem_cons_self ..), asc_pair h1.2⟩
theorem asc_lst (s : Nat) : ascL (intL (lst s)) = true := by
  have hp : List.Pairwise (· < ·) (intL (lst s)) := by
    rw [intL, List.pairwise_map]
    refine List.Pairwise.imp (fun h => by omega) (List.Pairwise.filter _ List.pairwise_lt_range)
  cases h : intL (lst s) with
  | nil => rfl
  | cons a r => rw [h] at hp; exact asc_pair hp
theorem red_ok {after : List (List Int)} (h : (ofS after).1 = 0) : (ofS (redA after)).1 = 0 := by
  obtain ⟨ds, hd, h12, hn, he⟩ := clos_eq h
  obtain ⟨hS, hr, _⟩ := dirs_sets hd
  have hr' : ∀ i k, k ∈ (natA after).getD i [] → k < (natA after).length := fun i k hk => by rw [natA_len]; exact (hr i k hk).1
  have hg := redR_get hn hr' (by rw [natA_len]; exact h12)
  have hsub : ∀ i k, k ∈ (natA (redA after)).getD i [] → k ∈ (natA after).getD i [] := fun i k hk => by
    rw [natA_red] at hk
    exact dir_mem ((hg i k).1 hk)
  rw [← refErr_eq, refErr, redA_len, if_neg (by omega), if_neg, if_neg, if_neg]
  · rw [cycB_iff]
    intro hc
    refine hc fun i m h1 h2 => hn i m h1 ?_
    have : ∀ m i j, Wk (natA (redA after)) m i j → Wk (natA after) m i j := by
      intro m
      induction m with
      | zero => exact fun i j h => h
      | succ m ih => exact fun i j ⟨k, hk, hw⟩ => ⟨k, hsub i k hk, ih k j hw⟩
    exact this m i i h2
  · rw [Bool.not_eq_true]
    have key : ∀ (ll : List (List Int)) (i : Nat), (∀ j (hj : j < ll.length), ∀ k ∈ ll[j], 0 ≤ k ∧ k < after.length ∧ k ≠ ((i + j : Nat) : Int)) → badB after.length i ll = false := by
      intro ll
      induction ll with
      | nil => intro i _; rfl
      | cons l r ih =>
        intro i hh
        simp only [badB, Bool.or_eq_false_iff]
        refine ⟨?_, ih (i + 1) fun j hj k hk => ?_⟩
        · rw [List.any_eq_false]
          intro k hk
          have := hh 0 (by simp) k hk
          simp [offB]
          omega
        · have := hh (j + 1) (by simpa using hj) k hk
          rw [show i + 1 + j = i + (j + 1) by omega]
          exact this
    refine key _ 0 fun j hj k hk => ?_
    rw [redA_len] at hj
    have h1 : k.toNat ∈ (natA (redA after)).getD j [] := by
      rw [natA_get (by rw [redA_len]; exact hj)]
      exact List.mem_map.2 ⟨k, hk, rfl⟩
    have h2 := hr j k.toNat (hsub j _ h1)
    have h0 : 0 ≤ k := by
      simp only [redA, List.getElem_map, intL] at hk
      obtain ⟨n, _, rfl⟩ := List.mem_map.1 hk
      omega
    rw [Nat.zero_add]
    omega
  · simp only [Bool.not_eq_true', Bool.not_eq_false, List.all_eq_true]
    intro l hl
    simp only [redA, redR, List.map_map, List.mem_map] at hl
    obtain ⟨s, _, rfl⟩ := hl
    exact asc_lst _
theorem red_bef {after : List (List Int)} (h : (ofS after).1 = 0) {i k : Nat} (hb : Bef (natA after) i k) : Bef (natA (redA after)) i k := by
  obtain ⟨ds, hd, h12, hn, he⟩ := clos_eq h
  obtain ⟨hS, hr, _⟩ := dirs_sets hd
  have hr' : ∀ i k, k ∈ (natA after).getD i [] → k < (natA after).length := fun i k hk => by rw [natA_len]; exact (hr i k hk).1
  have hg := redR_get hn hr' (by rw [natA_len]; exact h12)
  rw [natA_red]
  exact red_walk hn (fun i j hd => (hg i j).2 hd) hb
theorem red_sub {after : List (List Int)} (h : (ofS after).1 = 0) {i k : Nat} (hk : k ∈ (natA (redA after)).getD i []) : k ∈ (natA after).getD i [] := by
  obtain ⟨ds, hd, h12, hn, he⟩ := clos_eq h
  obtain ⟨hS, hr, _⟩ := dirs_sets hd
  have hr' : ∀ i k, k ∈ (natA after).getD i [] → k < (natA after).length := fun i k hk => by rw [natA_len]; exact (hr i k hk).1
  rw [natA_red] at hk
  exact dir_mem ((redR_get hn hr' (by rw [natA_len]; exact h12) i k).1 hk)
/-- A set closed under the reduced order is closed under the order. -/
theorem red_closed {after : List (List Int)} (h : (ofS after).1 = 0) (S : Nat → Prop) : (∀ i, S i → ∀ k, k ∈ (natA (redA after)).getD i [] → S k) ↔ ∀ i, S i → ∀ k, k ∈ (natA after).getD i [] → S k := by
  constructor
  · intro hS i hi k hk
    have hw : ∀ m i j, S i → Wk (natA (redA after)) m i j → S j := by
      intro m
      induction m with
      | zero => intro i j hi e; exact (show i = j from e) ▸ hi
      | succ m ih => exact fun i j hi ⟨x, hx, hw⟩ => ih x j (hS i hi x hx) hw
    obtain ⟨m, _, hw2⟩ := red_bef h (Bef.step.2 (.inl hk))
    exact hw m i k hi hw2
  · intro hS i hi k hk
    exact hS i hi k (red_sub h hk)
end Go.Proofs.YteeaccnklkcchaaDoor
