
/- The plain laws of layer 10: what comes before what; Kahn's way and the way of rounds agree. -/
import Derived.Test.YtgickfllblmhpaaGreatDoorPure
namespace Go.Proofs.YtgickfllblmhpaaGreatDoor
set_option linter.unusedSimpArgs false
set_option linter.unusedVariables false
set_option linter.unusedSectionVars false
def befS (i : Nat) (o : List Nat) (k : Nat) : List Nat := o.set i (o.getD i 0 ||| (2 ^ k ||| o.getD k 0))
def befI (i : Nat) (l : List Nat) (o : List Nat) : List Nat := l.foldl (befS i) o
def befP (ls : List (List Nat)) (o : List Nat) (m : Nat) : List Nat := (List.range m).foldl (fun o i => befI i (ls.getD i []) o) o
def befN (ls : List (List Nat)) : Nat → List Nat
  | 0 => List.replicate ls.length 0
  | r + 1 => befP ls (befN ls r) ls.length
def bef (ls : List (List Nat)) : List Nat := befN ls ls.length
/-- A walk of so many steps, each to one that stands in the list of the one before. -/
def Wk (ls : List (List Nat)) : Nat → Nat → Nat → Prop
  | 0, i, j => i = j
  | m + 1, i, j => ∃ k, k ∈ ls.getD i [] ∧ Wk ls m k j
theorem befP_succ (ls : List (List Nat)) (o : List Nat) (m : Nat) : befP ls o (m + 1) = befI m (ls.getD m []) (befP ls o m) := by
  simp only [befP, List.range_succ, List.foldl_append, List.foldl_cons, List.foldl_nil]
theorem befI_take {i : Nat} {l o : List Nat} {k : Nat} (h : k < l.length) : befI i (l.take (k + 1)) o = befS i (befI i (l.take k) o) l[k] := by
  simp only [befI, List.take_add_one, List.getElem?_eq_getElem h, Option.toList_some, List.foldl_append, List.foldl_cons, List.foldl_nil]
def bit (o : List Nat) (i j : Nat) : Prop := (o.getD i 0).testBit j = true
def Up (o o' : List Nat) : Prop := o'.length = o.length ∧ ∀ i j, bit o i j → bit o' i j
theorem Up.refl (o : List Nat) : Up o o := ⟨rfl, fun _ _ h => h⟩
theorem Up.trans {a b c : List Nat} (h : Up a b) (k : Up b c) : Up a c := ⟨k.1.trans h.1, fun i j x => k.2 i j (h.2 i j x)⟩
theorem getD_set (o : List Nat) (i v x : Nat) : (o.set i v).getD x 0 = if i = x ∧ i < o.length then v else o.getD x 0 := by
  simp only [List.getD_eq_getElem?_getD, List.getElem?_set]
  by_cases e : i = x
  · subst e
    by_cases h : i < o.length
    · simp [h]
    · simp [h]
  · simp [e]
theorem befS_up (i : Nat) (o : List Nat) (k : Nat) : Up o (befS i o k) := by
  refine ⟨by simp [befS], fun x j h => ?_⟩
  simp only [bit, befS, getD_set] at *
  split
  · rename_i e
    rw [e.1, Nat.testBit_or, h, Bool.true_or]
  · exact h
theorem befS_has {i k : Nat} {o : List Nat} (hi : i < o.length) : bit (befS i o k) i k ∧ ∀ j, bit o k j → bit (befS i o k) i j := by
  simp only [bit, befS, getD_set, hi, and_self, if_true, Nat.testBit_or, Nat.testBit_two_pow]
  exact ⟨by simp, fun j h => by rw [h, Bool.or_true, Bool.or_true]⟩
theorem befI_up (i : Nat) : ∀ (l o : List Nat), Up o (befI i l o)
  | [], o => Up.refl o
  | k :: r, o => (befS_up i o k).trans (befI_up i r _)
theorem befI_has {i : Nat} : ∀ {l o : List Nat}, i < o.length → ∀ {k : Nat}, k ∈ l → bit (befI i l o) i k ∧ ∀ j, bit o k j → bit (befI i l o) i j
  | [], _, _, _, h => absurd h (by simp)
  | a :: r, o, hi, k, h => by
    have hu := befS_up i o a
    have hi' : i < (befS i o a).length := by rw [hu.1]; exact hi
    rcases List.mem_cons.1 h with rfl | h
    · have h1 := befS_has (k := k) hi
      have h2 := befI_up i r (befS i o k)
      exact ⟨h2.2 _ _ h1.1, fun j hj => h2.2 _ _ (h1.2 j hj)⟩
    · have h1 := befI_has hi' h
      exact ⟨h1.1, fun j hj => h1.2 j (hu.2 _ _ hj)⟩
theorem befP_up (ls : List (List Nat)) (o : List Nat) : ∀ m, Up o (befP ls o m)
  | 0 => Up.refl o
  | m + 1 => by rw [befP_succ]; exact (befP_up ls o m).trans (befI_up _ _ _)
theorem befP_has {ls : List (List Nat)} {o : List Nat} (hl : o.length = ls.length) {i k : Nat} (hk : k ∈ ls.getD i []) : ∀ {m : Nat}, i < m → m ≤ ls.length → bit (befP ls o m) i k ∧ ∀ j, bit o k j → bit (befP ls o m) i j
  | 0, h, _ => absurd h (by omega)
  | m + 1, h, hm => by
    rw [befP_succ]
    have hu := befP_up ls o m
    by_cases e : i = m
    · subst e
      have h1 := befI_has (i := i) (l := ls.getD i []) (o := befP ls o i) (by rw [hu.1, hl]; omega) hk
      exact ⟨h1.1, fun j hj => h1.2 j (hu.2 _ _ hj)⟩
    · have h1 := befP_has hl hk (m := m) (by omega) (by omega)
      have h2 := befI_up m (ls.getD m []) (befP ls o m)
      exact ⟨h2.2 _ _ h1.1, fun j hj => h2.2 _ _ (h1.2 j hj)⟩
theorem befN_len (ls : List (List Nat)) : ∀ r, (befN ls r).length = ls.length
  | 0 => by simp [befN]
  | r + 1 => by simp only [befN]; rw [(befP_up ls _ _).1, befN_len ls r]
theorem mem_lt {ls : List (List Nat)} {i k : Nat} (h : k ∈ ls.getD i []) : i < ls.length := by
  rcases Nat.lt_or_ge i ls.length with h1 | h1
  · exact h1
  · rw [List.getD_eq_getElem?_getD, List.getElem?_eq_none h1] at h; simp at h
theorem befN_walk {ls : List (List Nat)} : ∀ {r m i j : Nat}, 1 ≤ m → m ≤ r → Wk ls m i j → bit (befN ls r) i j
  | 0, m, _, _, h1, h2, _ => absurd h1 (by omega)
  | r + 1, m, i, j, h1, h2, hw => by
    match m, hw with
    | m + 1, ⟨k, hk, hw⟩ =>
      have h := befP_has (befN_len ls r) hk (mem_lt hk) (Nat.le_refl _)
      match m, hw with
      | 0, hw => subst hw; exact h.1
      | m + 1, hw => exact h.2 _ (befN_walk (by omega) (by omega) hw)
theorem Wk.append {ls : List (List Nat)} : ∀ {a b i k j : Nat}, Wk ls a i k → Wk ls b k j → Wk ls (a + b) i j
  | 0, b, i, k, j, h1, h2 => by subst h1; rw [Nat.zero_add]; exact h2
  | a + 1, b, i, k, j, ⟨x, hx, h1⟩, h2 => by
    rw [show a + 1 + b = (a + b) + 1 by omega]
    exact ⟨x, hx, h1.append h2⟩
/-- What the rounds say is so. -/
def Sound (ls : List (List Nat)) (o : List Nat) : Prop := ∀ i j, bit o i j → ∃ m, 1 ≤ m ∧ Wk ls m i j
theorem sound_S {ls : List (List Nat)} {o : List Nat} {i k : Nat} (h : Sound ls o) (hk : k ∈ ls.getD i []) : Sound ls (befS i o k) := by
  intro x j hb
  simp only [bit, befS, getD_set] at hb
  split at hb
  · rename_i e
    obtain ⟨rfl, _⟩ := e
    simp only [Nat.testBit_or, Bool.or_eq_true, Nat.testBit_two_pow, decide_eq_true_eq] at hb
    rcases hb with hb | hb | hb
    · exact h _ _ hb
    · subst hb; exact ⟨1, Nat.le_refl _, _, hk, rfl⟩
    · obtain ⟨m, h1, h2⟩ := h _ _ hb
      exact ⟨m + 1, by omega, k, hk, h2⟩
  · exact h _ _ hb
theorem sound_I {ls : List (List Nat)} {i : Nat} : ∀ {l o : List Nat}, Sound ls o → (∀ k ∈ l, k ∈ ls.getD i []) → Sound ls (befI i l o)
  | [], _, h, _ => h
  | k :: r, o, h, hl => by
    show Sound ls (befI i r (befS i o k))
    exact sound_I (sound_S h (hl k (List.mem_cons_self ..))) fun x hx => hl x (List.mem_cons_of_mem _ hx)
theorem sound_P {ls : List (List Nat)} {o : List Nat} (h : Sound ls o) : ∀ m, Sound ls (befP ls o m)
  | 0 => h
  | m + 1 => by rw [befP_succ]; exact sound_I (sound_P h m) fun _ hk => hk
theorem sound_N (ls : List (List Nat)) : ∀ r, Sound ls (befN ls r)
  | 0 => fun i j h => by
    simp only [bit, befN, List.getD_eq_getElem?_getD, List.getElem?_replicate] at h
    split at h <;> simp at h
  | r + 1 => sound_P (sound_N ls r) _
/-- Two of so many are the same. -/
theorem pigeon : ∀ (n : Nat) (f : Nat → Nat), (∀ t, t ≤ n → f t < n) → ∃ a b, a < b ∧ b ≤ n ∧ f a = f b
  | 0, f, h => absurd (h 0 (Nat.le_refl _)) (by omega)
  | n + 1, f, h => by
    by_cases hx : ∃ a, a ≤ n ∧ f a = f (n + 1)
    · obtain ⟨a, h1, h2⟩ := hx
      exact ⟨a, n + 1, by omega, Nat.le_refl _, h2⟩
    · -- swap what equals n for f (n+1)
      obtain ⟨a, b, h1, h2, h3⟩ := pigeon n (fun t => if f t = n then f (n + 1) else f t) fun t ht => by
        have ht1 := h t (by omega)
        have hl := h (n + 1) (Nat.le_refl _)
        have hne : f t ≠ f (n + 1) := fun e => hx ⟨t, ht, e⟩
        split <;> omega
      refine ⟨a, b, h1, by omega, ?_⟩
      have ha : f a ≠ f (n + 1) := fun e => hx ⟨a, by omega, e⟩
      have hb : f b ≠ f (n + 1) := fun e => hx ⟨b, by omega, e⟩
      split at h3 <;> split at h3 <;> omega
theorem Wk.nodes {ls : List (List Nat)} : ∀ {m i j : Nat}, Wk ls m i j → ∃ f : Nat → Nat, f 0 = i ∧ f m = j ∧ ∀ t, t < m → f (t + 1) ∈ ls.getD (f t) []
  | 0, i, j, h => ⟨fun _ => i, rfl, h, fun t ht => absurd ht (by omega)⟩
  | m + 1, i, j, ⟨k, hk, h⟩ => by
    obtain ⟨f, h0, h1, h2⟩ := h.nodes
    refine ⟨fun t => if t = 0 then i else f (t - 1), rfl, by simpa using h1, fun t ht => ?_⟩
    cases t with
    | zero => simpa [h0] using hk
    | succ t => simpa using h2 t (by omega)
theorem walk_of {ls : List (List Nat)} {f : Nat → Nat} : ∀ {d a : Nat}, (∀ t, a ≤ t → t < a + d → f (t + 1) ∈ ls.getD (f t) []) → Wk ls d (f a) (f (a + d))
  | 0, a, _ => rfl
  | d + 1, a, h => by
    refine ⟨f (a + 1), h a (Nat.le_refl _) (by omega), ?_⟩
    have := walk_of (ls := ls) (f := f) (d := d) (a := a + 1) fun t h1 h2 => h t (by omega) (by omega)
    rwa [show a + 1 + d = a + (d + 1) by omega] at this
def NoCyc (ls : List (List Nat)) : Prop := ∀ i m, 1 ≤ m → ¬ Wk ls m i i
/-- A walk of more steps than there are elements holds a circle of at most as many. -/
theorem long_walk {ls : List (List Nat)} {m i j : Nat} (h : Wk ls m i j) (hm : ls.length < m) : ∃ x d, 1 ≤ d ∧ d ≤ ls.length ∧ Wk ls d x x := by
  obtain ⟨f, h0, h1, h2⟩ := h.nodes
  obtain ⟨a, b, hab, hb, he⟩ := pigeon ls.length f fun t ht => mem_lt (h2 t (by omega))
  refine ⟨f a, b - a, by omega, by omega, ?_⟩
  have := walk_of (ls := ls) (f := f) (d := b - a) (a := a) fun t h3 h4 => h2 t (by omega)
  rwa [show a + (b - a) = b by omega, ← he] at this
theorem walk_short {ls : List (List Nat)} (hc : NoCyc ls) {m i j : Nat} (h : Wk ls m i j) : m ≤ ls.length := by
  rcases Nat.lt_or_ge ls.length m with h1 | h1
  · obtain ⟨x, d, h2, _, h3⟩ := long_walk h h1
    exact absurd h3 (hc x d h2)
  · exact h1
theorem bef_iff {ls : List (List Nat)} (hc : NoCyc ls) (i j : Nat) : bit (bef ls) i j ↔ ∃ m, 1 ≤ m ∧ Wk ls m i j :=
  ⟨sound_N ls _ i j, fun ⟨_, h1, h2⟩ => befN_walk h1 (walk_short hc h2) h2⟩
theorem cyc_rep {ls : List (List Nat)} {i m : Nat} (h : Wk ls m i i) : ∀ t, Wk ls (t * m) i i
  | 0 => by rw [Nat.zero_mul]; rfl
  | t + 1 => by rw [Nat.succ_mul]; exact (cyc_rep h t).append h
theorem bef_cyc (ls : List (List Nat)) : (∃ i, i < ls.length ∧ bit (bef ls) i i) ↔ ¬ NoCyc ls := by
  constructor
  · rintro ⟨i, _, h⟩ hc
    obtain ⟨m, h1, h2⟩ := sound_N ls _ i i h
    exact hc i m h1 h2
  · intro h
    have : ∃ i m, 1 ≤ m ∧ Wk ls m i i := Classical.byContradiction fun hn => h fun i m h1 h2 => hn ⟨i, m, h1, h2⟩
    obtain ⟨i, m, h1, h2⟩ := this
    have h3 := cyc_rep h2 (ls.length + 1)
    have : ls.length < (ls.length + 1) * m := Nat.lt_of_lt_of_le (Nat.lt_succ_self _) (Nat.le_mul_of_pos_right _ h1)
    obtain ⟨x, d, hd1, hd2, hw⟩ := long_walk h3 this
    have hb := befN_walk hd1 hd2 hw
    match d, hw with
    | d + 1, ⟨k, hk, _⟩ => exact ⟨x, mem_lt hk, hb⟩
/-- The lists and their sets. -/
def Sets (ls : List (List Nat)) (ds : List Nat) : Prop := ds.length = ls.length ∧ ∀ i k, bit ds i k ↔ k ∈ ls.getD i []
def bitsF (f : Nat → Nat) : Nat → Nat
  | 0 => 0
  | m + 1 => bitsF f m ||| 2 ^ f m
theorem bitsF_bit (f : Nat → Nat) (x : Nat) : ∀ m, (bitsF f m).testBit x = true ↔ ∃ t, t < m ∧ f t = x
  | 0 => by simp [bitsF]
  | m + 1 => by
    simp only [bitsF, Nat.testBit_or, Bool.or_eq_true, bitsF_bit f x m, Nat.testBit_two_pow, decide_eq_true_eq]
    constructor
    · rintro (⟨t, h1, h2⟩ | h)
      · exact ⟨t, by omega, h2⟩
      · exact ⟨m, by omega, h⟩
    · rintro ⟨t, h1, h2⟩
      by_cases e : t = m
      · subst e; exact .inr h2
      · exact .inl ⟨t, by omega, h2⟩
theorem bitsF_lt {f : Nat → Nat} {n : Nat} : ∀ {m : Nat}, (∀ t, t < m → f t < n) → bitsF f m < 2 ^ n
  | 0, _ => Nat.pow_pos (by decide)
  | m + 1, h => Nat.or_lt_two_pow (bitsF_lt fun t ht => h t (by omega)) (Nat.pow_lt_pow_right (by decide) (h m (by omega)))
theorem kahn_nocyc {ls : List (List Nat)} {ds : List Nat} (hS : Sets ls ds) {f : Nat} {all : List Nat} (h : (kahn ds ls.length f 0 all).1 = 0) : NoCyc ls := by
  intro i m h1 h2
  obtain ⟨g, g0, gm, gs⟩ := h2.nodes
  have hlt : bitsF g m < 2 ^ ls.length := bitsF_lt fun t ht => mem_lt (gs t ht)
  have hne : bitsF g m ≠ 0 := fun e => by
    have := (bitsF_bit g (g 0) m).2 ⟨0, by omega, rfl⟩
    rw [e] at this
    simp at this
  obtain ⟨x, hx, hmin⟩ := kahn_min f 0 all h (bitsF g m) hlt hne (fun j _ => Nat.zero_testBit j)
  obtain ⟨t, ht, rfl⟩ := (bitsF_bit g x m).1 hx
  have h3 := hmin (g (t + 1)) ((hS.2 _ _).2 (gs t ht))
  have h4 : (bitsF g m).testBit (g (t + 1)) = true := by
    rw [bitsF_bit]
    by_cases e : t + 1 = m
    · exact ⟨0, by omega, by rw [e, gm, g0]⟩
    · exact ⟨t + 1, by omega, rfl⟩
  rw [h4] at h3
  cases h3
theorem rdyF_set (done : Nat) : ∀ (l : List Nat) (i j : Nat), i ≤ j → j < i + l.length → done.testBit j = false → sub (l.getD (j - i) 0) done = 0 → (rdyF done i l).testBit j = true
  | [], i, j, h1, h2, _, _ => absurd h2 (by simp; omega)
  | d :: r, i, j, h1, h2, h3, h4 => by
    unfold rdyF
    rw [Nat.testBit_or]
    by_cases e : i = j
    · subst e
      rw [Nat.sub_self] at h4
      simp at h4
      simp [h3, h4, Nat.testBit_two_pow]
    · have := rdyF_set done r (i + 1) j (by omega) (by simp at h2; omega) h3 (by
        rw [show j - i = (j - (i + 1)) + 1 by omega] at h4
        simpa using h4)
      rw [this, Bool.or_true]
theorem kahn_fail {ds : List Nat} {n : Nat} : ∀ (f done : Nat) (all : List Nat), done < 2 ^ n → ds.length = n → 2 ^ n ≤ f + done → (kahn ds n f done all).1 ≠ 0 → ∃ d, d < 2 ^ n ∧ d ≠ 2 ^ n - 1 ∧ rdyF d 0 ds = 0
  | 0, done, all, h1, _, h2, _ => absurd h1 (by omega)
  | f + 1, done, all, h1, hl, h2, h => by
    unfold kahn at h
    split at h
    · exact absurd rfl h
    · rename_i hne
      simp only at h
      split at h
      · rename_i hr
        exact ⟨done, h1, hne, hr⟩
      · rename_i hr
        have hgt := or_rdy_gt hr
        refine kahn_fail f _ _ (Nat.or_lt_two_pow h1 ?_) hl (by omega) h
        have := rdyF_lt done ds 0
        rwa [Nat.zero_add, hl] at this
theorem not_full {d n : Nat} (h1 : d < 2 ^ n) (h2 : d ≠ 2 ^ n - 1) : ∃ i, i < n ∧ d.testBit i = false := by
  refine Classical.byContradiction fun hn => h2 ?_
  refine Nat.eq_of_testBit_eq fun i => ?_
  rw [Nat.testBit_two_pow_sub_one]
  by_cases hi : i < n
  · have : ¬ d.testBit i = false := fun e => hn ⟨i, hi, e⟩
    simpa [hi] using this
  · rw [Nat.testBit_lt_two_pow (Nat.lt_of_lt_of_le h1 (Nat.pow_le_pow_right (by decide) (by omega)))]
    simp [hi]
theorem kahn_cyc {ls : List (List Nat)} {ds : List Nat} (hS : Sets ls ds) (hr : ∀ i k, k ∈ ls.getD i [] → k < ls.length) (h12 : 2 ^ ls.length ≤ 4096) {all : List Nat} (h : (kahn ds ls.length 4096 0 all).1 ≠ 0) : ¬ NoCyc ls := by
  obtain ⟨d, hd, hne, hr0⟩ := kahn_fail 4096 0 all (Nat.pow_pos (by decide)) hS.1 (by omega) h
  obtain ⟨i0, hi0, hb0⟩ := not_full hd hne
  have step : ∀ i, i < ls.length ∧ d.testBit i = false → ∃ k, k ∈ ls.getD i [] ∧ (k < ls.length ∧ d.testBit k = false) := by
    rintro i ⟨hi, hb⟩
    have hs : sub (ds.getD i 0) d ≠ 0 := fun e => by
      have := rdyF_set d ds 0 i (by omega) (by rw [hS.1]; omega) hb (by rwa [Nat.sub_zero])
      rw [hr0] at this
      simp at this
    obtain ⟨k, hk⟩ := Nat.exists_testBit_of_ne_zero hs
    rw [testBit_sub, Bool.and_eq_true] at hk
    have hm := (hS.2 i k).1 hk.1
    exact ⟨k, hm, hr i k hm, by simpa using hk.2⟩
  have walk : ∀ m i, i < ls.length ∧ d.testBit i = false → ∃ j, Wk ls m i j := by
    intro m
    induction m with
    | zero => exact fun i _ => ⟨i, rfl⟩
    | succ m ih =>
      intro i hi
      obtain ⟨k, hk, hk2⟩ := step i hi
      obtain ⟨j, hj⟩ := ih k hk2
      exact ⟨j, k, hk, hj⟩
  intro hc
  obtain ⟨j, hj⟩ := walk (ls.length + 1) i0 ⟨hi0, hb0⟩
  have := walk_short hc hj
  omega
end Go.Proofs.YtgickfllblmhpaaGreatDoor
