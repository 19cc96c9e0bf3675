
/- The plain laws of layer 10 and 20: what Reduce leaves. -/
import Derived.Test.YtgickfllblmhpaaGreatDoorPure10b
namespace Go.Proofs.YtgickfllblmhpaaGreatDoor
set_option linter.unusedSimpArgs false
set_option linter.unusedVariables false
set_option linter.unusedSectionVars false
def thrO (all : List Nat) (s : Nat) : Nat := (lst s).foldl (fun t k => t ||| all.getD k 0) 0
def redO (ds all : List Nat) : List (List Nat) := ds.map fun d => lst (sub d (thrO all d))
def outR (b : List Nat) (s : Nat) : Nat := (lst s).foldl (fun d k => sub d (b.getD k 0)) s
def redR (b : List Nat) : List (List Nat) := b.map fun s => lst (outR b s)
theorem foldOr_bit (all : List Nat) (j : Nat) : ∀ (L : List Nat) (t : Nat), (L.foldl (fun t k => t ||| all.getD k 0) t).testBit j = true ↔ t.testBit j = true ∨ ∃ k, k ∈ L ∧ bit all k j
  | [], t => by simp
  | k :: r, t => by
    simp only [List.foldl_cons, foldOr_bit all j r, Nat.testBit_or, Bool.or_eq_true, List.mem_cons]
    constructor
    · rintro ((h | h) | ⟨x, h1, h2⟩)
      · exact .inl h
      · exact .inr ⟨k, .inl rfl, h⟩
      · exact .inr ⟨x, .inr h1, h2⟩
    · rintro (h | ⟨x, rfl | h1, h2⟩)
      · exact .inl (.inl h)
      · exact .inl (.inr h2)
      · exact .inr ⟨x, h1, h2⟩
theorem foldSub_bit (b : List Nat) (j : Nat) : ∀ (L : List Nat) (t : Nat), (L.foldl (fun d k => sub d (b.getD k 0)) t).testBit j = true ↔ t.testBit j = true ∧ ∀ k, k ∈ L → ¬ bit b k j
  | [], t => by simp
  | k :: r, t => by
    simp only [List.foldl_cons, foldSub_bit b j r, testBit_sub, Bool.and_eq_true, List.mem_cons, Bool.not_eq_true', forall_eq_or_imp, bit, Bool.not_eq_true]
    constructor
    · rintro ⟨⟨h1, h2⟩, h3⟩
      exact ⟨h1, h2, h3⟩
    · rintro ⟨h1, h2, h3⟩
      exact ⟨⟨h1, h2⟩, h3⟩
theorem lst_congr {a b : Nat} (h : ∀ j, a.testBit j = true ↔ b.testBit j = true) : lst a = lst b := by
  have : a = b := Nat.eq_of_testBit_eq fun j => by rw [Bool.eq_iff_iff]; exact h j
  rw [this]
theorem bef_lt {ls : List (List Nat)} (hc : NoCyc ls) (hr : ∀ i k, k ∈ ls.getD i [] → k < ls.length) (h12 : ls.length ≤ 12) (i : Nat) : (bef ls).getD i 0 < 4096 := by
  refine Nat.lt_of_lt_of_le (Nat.lt_pow_two_of_testBit _ fun j hj => ?_) (pow12 (k := 12) (Nat.le_refl _))
  cases hb : ((bef ls).getD i 0).testBit j with
  | false => rfl
  | true =>
    exfalso
    obtain ⟨m, h1, h2⟩ := (bef_iff hc i j).1 hb
    have : ∀ m i, 1 ≤ m → Wk ls m i j → j < ls.length := by
      intro m
      induction m with
      | zero => intro i h; omega
      | succ m ih =>
        rintro i _ ⟨k, hk, hw⟩
        rcases Nat.eq_zero_or_pos m with rfl | hm
        · obtain rfl : k = j := hw
          exact hr i k hk
        · exact ih k hm hw
    have := this m i h1 h2
    omega
theorem Bef.lt {ls : List (List Nat)} (hr : ∀ i k, k ∈ ls.getD i [] → k < ls.length) {i j : Nat} (h : Bef ls i j) : i < ls.length ∧ j < ls.length := by
  obtain ⟨m, h1, h2⟩ := h
  constructor
  · match m, h2 with
    | m + 1, ⟨k, hk, _⟩ => exact mem_lt hk
  · induction m generalizing i with
    | zero => omega
    | succ m ih =>
      obtain ⟨k, hk, hw⟩ := h2
      rcases Nat.eq_zero_or_pos m with rfl | hm
      · obtain rfl : k = j := hw
        exact hr i k hk
      · exact ih hm hw
/-- An edge that nothing lies between. -/
def Dir (ls : List (List Nat)) (i j : Nat) : Prop := Bef ls i j ∧ ∀ k, Bef ls i k → ¬ Bef ls k j
theorem dir_mem {ls : List (List Nat)} {i j : Nat} (h : Dir ls i j) : j ∈ ls.getD i [] := by
  rcases Bef.step.1 h.1 with h1 | ⟨k, hk, h1⟩
  · exact h1
  · exact absurd h1 (h.2 k (Bef.step.2 (.inl hk)))
theorem dir_iff {ls : List (List Nat)} {i j : Nat} : Dir ls i j ↔ j ∈ ls.getD i [] ∧ ∀ k, k ∈ ls.getD i [] → ¬ Bef ls k j := by
  refine ⟨fun h => ⟨dir_mem h, fun k hk => h.2 k (Bef.step.2 (.inl hk))⟩, fun ⟨h1, h2⟩ => ⟨Bef.step.2 (.inl h1), fun k hk hkj => ?_⟩⟩
  rcases Bef.step.1 hk with h3 | ⟨y, hy, h3⟩
  · exact h2 k h3 hkj
  · exact h2 y hy (h3.trans hkj)
theorem redR_get {ls : List (List Nat)} (hc : NoCyc ls) (hr : ∀ i k, k ∈ ls.getD i [] → k < ls.length) (h12 : ls.length ≤ 12) (i j : Nat) : j ∈ (redR (bef ls)).getD i [] ↔ Dir ls i j := by
  have hl : (bef ls).length = ls.length := befN_len ls _
  by_cases hi : i < ls.length
  · have e : (redR (bef ls)).getD i [] = lst (outR (bef ls) ((bef ls).getD i 0)) := by
      rw [List.getD_eq_getElem?_getD, redR, List.getElem?_map, List.getElem?_eq_getElem (by omega), List.getD_eq_getElem?_getD, List.getElem?_eq_getElem (by omega)]; rfl
    rw [e]
    have hlt := bef_lt hc hr h12 i
    have hout : ∀ x, (outR (bef ls) ((bef ls).getD i 0)).testBit x = true ↔ Dir ls i x := fun x => by
      rw [outR, foldSub_bit]
      refine and_congr (bef_iff hc i x) (forall_congr' fun k => ?_)
      rw [mem_lst' hlt]
      refine imp_congr (bef_iff hc i k) (not_congr (bef_iff hc k x))
    rw [mem_lst' ?_, hout]
    refine Nat.lt_of_lt_of_le (Nat.lt_pow_two_of_testBit _ fun x hx => ?_) (pow12 (k := 12) (Nat.le_refl _))
    cases hb : (outR (bef ls) ((bef ls).getD i 0)).testBit x with
    | false => rfl
    | true => have := (((hout x).1 hb).1.lt hr).2; omega
  · have e : (redR (bef ls)).getD i [] = [] := by rw [List.getD_eq_getElem?_getD, redR, List.getElem?_map, List.getElem?_eq_none (by omega)]; rfl
    rw [e]
    refine ⟨fun h => absurd h (by simp), fun h => absurd (h.1.lt hr).1 hi⟩
/-- A greatest one of what is bounded. -/
theorem greatest {p : Nat → Prop} {n : Nat} (hb : ∀ m, p m → m ≤ n) : ∀ (d a : Nat), n - a ≤ d → p a → ∃ m, p m ∧ ∀ m', p m' → m' ≤ m
  | 0, a, h, ha => ⟨a, ha, fun m' hm' => by have := hb m' hm'; omega⟩
  | d + 1, a, h, ha => by
    by_cases hx : ∃ m', p m' ∧ a < m'
    · obtain ⟨m', h1, h2⟩ := hx
      have := hb m' h1
      exact greatest hb d m' (by omega) h1
    · exact ⟨a, ha, fun m' hm' => Nat.le_of_not_lt fun h => hx ⟨m', hm', h⟩⟩
theorem red_walk {ls bs : List (List Nat)} (hc : NoCyc ls) (hD : ∀ i j, Dir ls i j → j ∈ bs.getD i []) {i k : Nat} (h : Bef ls i k) : Bef bs i k := by
  obtain ⟨a, ha, hw⟩ := h
  obtain ⟨m, hm, hg⟩ := greatest (p := fun m => Wk ls m i k) (fun m h => walk_short hc h) _ a (Nat.le_refl _) hw
  have hma := hg a hw
  obtain ⟨f, f0, f1, fs⟩ := hm.nodes
  have fs' : ∀ t, t < m → f (t + 1) ∈ bs.getD (f t) [] := fun t ht => by
    refine hD _ _ ⟨Bef.step.2 (.inl (fs t ht)), fun y h1 h2 => ?_⟩
    obtain ⟨p, hp, hw1⟩ := h1
    obtain ⟨q, hq, hw2⟩ := h2
    have w1 : Wk ls t i (f t) := by
      have := walk_of (ls := ls) (f := f) (d := t) (a := 0) fun x _ hx => fs x (by omega)
      rwa [f0, Nat.zero_add] at this
    have w3 : Wk ls (m - (t + 1)) (f (t + 1)) k := by
      have := walk_of (ls := ls) (f := f) (d := m - (t + 1)) (a := t + 1) fun x h1 hx => fs x (by omega)
      rwa [show t + 1 + (m - (t + 1)) = m by omega, f1] at this
    have := hg _ (((w1.append hw1).append hw2).append w3)
    omega
  have w := walk_of (ls := bs) (f := f) (d := m) (a := 0) fun x _ hx => fs' x (by omega)
  rw [f0, Nat.zero_add, f1] at w
  exact ⟨m, by omega, w⟩
theorem sub_lt' {d t : Nat} (h : d < 4096) : sub d t < 4096 := by
  refine Nat.lt_of_lt_of_le (Nat.lt_pow_two_of_testBit _ fun x hx => ?_) (pow12 (k := 12) (Nat.le_refl _))
  rw [testBit_sub, Nat.testBit_lt_two_pow (Nat.lt_of_lt_of_le h (by have := Nat.pow_le_pow_right (n := 2) (by decide) hx; simpa using this)), Bool.false_and]
theorem red_eq {after : List (List Int)} (h : (ofS after).1 = 0) : redO (ofS after).2.1 (ofS after).2.2 = redR (bef (natA after)) := by
  obtain ⟨ds, hd, h12, hn, he⟩ := clos_eq h
  obtain ⟨hS, hr, _⟩ := dirs_sets hd
  rw [he]
  have hr' : ∀ i k, k ∈ (natA after).getD i [] → k < (natA after).length := fun i k hk => by rw [natA_len]; exact (hr i k hk).1
  refine List.ext_getElem (by simp [redO, redR, hS.1, bef, befN_len]) fun i h1 h2 => ?_
  have hids : i < ds.length := by simpa [redO] using h1
  have hib : i < (bef (natA after)).length := by simpa [redR] using h2
  simp only [redO, redR, List.getElem_map]
  refine lst_congr fun j => ?_
  have e1 : ds[i] = ds.getD i 0 := by simp [List.getD_eq_getElem?_getD, List.getElem?_eq_getElem hids]
  have e2 : (bef (natA after))[i] = (bef (natA after)).getD i 0 := by simp [List.getD_eq_getElem?_getD, List.getElem?_eq_getElem hib]
  rw [e1, e2, testBit_sub, Bool.and_eq_true, Bool.not_eq_true', ← Bool.not_eq_true, thrO, foldOr_bit, outR, foldSub_bit]
  have hb : ∀ i j, ((bef (natA after)).getD i 0).testBit j = true ↔ Bef (natA after) i j := fun i j => bef_iff hn i j
  have hlt := bef_lt hn hr' (by rw [natA_len]; exact h12)
  have L : (ds.getD i 0).testBit j = true ∧ ¬ (Nat.testBit 0 j = true ∨ ∃ k, k ∈ lst (ds.getD i 0) ∧ bit (bef (natA after)) k j) ↔ Dir (natA after) i j := by
    rw [dir_iff]
    refine and_congr (hS.2 i j) ?_
    simp only [Nat.zero_testBit, Bool.false_eq_true, false_or, not_exists, not_and]
    refine forall_congr' fun k => ?_
    rw [mem_lst' (dirs_lt hd h12 i)]
    exact imp_congr (hS.2 i k) (not_congr (hb k j))
  have R : ((bef (natA after)).getD i 0).testBit j = true ∧ (∀ k, k ∈ lst ((bef (natA after)).getD i 0) → ¬ bit (bef (natA after)) k j) ↔ Dir (natA after) i j := by
    refine and_congr (hb i j) (forall_congr' fun k => ?_)
    rw [mem_lst' (hlt i)]
    exact imp_congr (hb i k) (not_congr (hb k j))
  rw [L, R]
def intL (l : List Nat) : List Int := l.map fun n : Nat => (n : Int)
def redA (after : List (List Int)) : List (List Int) := (redR (bef (natA after))).map intL
theorem natA_red (after : List (List Int)) : natA (redA after) = redR (bef (natA after)) := by
  simp only [natA, redA, List.map_map]
  refine (List.map_congr_left fun l _ => ?_).trans (List.map_id _)
  simp [intL, Function.comp_def]
theorem redA_len (after : List (List Int)) : (redA after).length = after.length := by simp [redA, redR, bef, befN_len, natA]
theorem asc_pair : ∀ {l : List Int} {p : Int}, List.Pairwise (· < ·) (p :: l) → ascP p l = true
  | [], _, _ => rfl
  | a :: r, p, h => by
    simp only [ascP, Bool.and_eq_true, decide_eq_true_eq]
    have h1 := List.pairwise_cons.1 h
    exact ⟨h1.1 a (List.mem_cons_self ..), asc_pair h1.2⟩
theorem asc_lst (s : Nat) : ascL (intL (lst s)) = true := by
  have hp : List.Pairwise (· < ·) (intL (lst s)) := by
    rw [intL, List.pairwise_map]
    refine List.Pairwise.imp (fun h => by omega) (List.Pairwise.filter _ List.pairwise_lt_range)
  cases h : intL (lst s) with
  | nil => rfl
  | cons a r => rw [h] at hp; exact asc_pair hp
theorem red_ok {after : List (List Int)} (h : (ofS after).1 = 0) : (ofS (redA after)).1 = 0 := by
  obtain ⟨ds, hd, h12, hn, he⟩ := clos_eq h
  obtain ⟨hS, hr, _⟩ := dirs_sets hd
  have hr' : ∀ i k, k ∈ (natA after).getD i [] → k < (natA after).length := fun i k hk => by rw [natA_len]; exact (hr i k hk).1
  have hg := redR_get hn hr' (by rw [natA_len]; exact h12)
  have hsub : ∀ i k, k ∈ (natA (redA after)).getD i [] → k ∈ (natA after).getD i [] := fun i k hk => by
    rw [natA_red] at hk
    exact dir_mem ((hg i k).1 hk)
  rw [← refErr_eq, refErr, redA_len, if_neg (by omega), if_neg, if_neg, if_neg]
  · rw [cycB_iff]
    intro hc
    refine hc fun i m h1 h2 => hn i m h1 ?_
    have : ∀ m i j, Wk (natA (redA after)) m i j → Wk (natA after) m i j := by
      intro m
      induction m with
      | zero => exact fun i j h => h
      | succ m ih => exact fun i j ⟨k, hk, hw⟩ => ⟨k, hsub i k hk, ih k j hw⟩
    exact this m i i h2
  · rw [Bool.not_eq_true]
    have key : ∀ (ll : List (List Int)) (i : Nat), (∀ j (hj : j < ll.length), ∀ k ∈ ll[j], 0 ≤ k ∧ k < after.length ∧ k ≠ ((i + j : Nat) : Int)) → badB after.length i ll = false := by
      intro ll
      induction ll with
      | nil => intro i _; rfl
      | cons l r ih =>
        intro i hh
        simp only [badB, Bool.or_eq_false_iff]
        refine ⟨?_, ih (i + 1) fun j hj k hk => ?_⟩
        · rw [List.any_eq_false]
          intro k hk
          have := hh 0 (by simp) k hk
          simp [offB]
          omega
        · have := hh (j + 1) (by simpa using hj) k hk
          rw [show i + 1 + j = i + (j + 1) by omega]
          exact this
    refine key _ 0 fun j hj k hk => ?_
    rw [redA_len] at hj
    have h1 : k.toNat ∈ (natA (redA after)).getD j [] := by
      rw [natA_get (by rw [redA_len]; exact hj)]
      exact List.mem_map.2 ⟨k, hk, rfl⟩
    have h2 := hr j k.toNat (hsub j _ h1)
    have h0 : 0 ≤ k := by
      simp only [redA, List.getElem_map, intL] at hk
      obtain ⟨n, _, rfl⟩ := List.mem_map.1 hk
      omega
    rw [Nat.zero_add]
    omega
  · simp only [Bool.not_eq_true', Bool.not_eq_false, List.all_eq_true]
    intro l hl
    simp only [redA, redR, List.map_map, List.mem_map] at hl
    obtain ⟨s, _, rfl⟩ := hl
    exact asc_lst _
theorem red_bef {after : List (List Int)} (h : (ofS after).1 = 0) {i k : Nat} (hb : Bef (natA after) i k) : Bef (natA (redA after)) i k := by
  obtain ⟨ds, hd, h12, hn, he⟩ := clos_eq h
  obtain ⟨hS, hr, _⟩ := dirs_sets hd
  have hr' : ∀ i k, k ∈ (natA after).getD i [] → k < (natA after).length := fun i k hk => by rw [natA_len]; exact (hr i k hk).1
  have hg := redR_get hn hr' (by rw [natA_len]; exact h12)
  rw [natA_red]
  exact red_walk hn (fun i j hd => (hg i j).2 hd) hb
theorem red_sub {after : List (List Int)} (h : (ofS after).1 = 0) {i k : Nat} (hk : k ∈ (natA (redA after)).getD i []) : k ∈ (natA after).getD i [] := by
  obtain ⟨ds, hd, h12, hn, he⟩ := clos_eq h
  obtain ⟨hS, hr, _⟩ := dirs_sets hd
  have hr' : ∀ i k, k ∈ (natA after).getD i [] → k < (natA after).length := fun i k hk => by rw [natA_len]; exact (hr i k hk).1
  rw [natA_red] at hk
  exact dir_mem ((redR_get hn hr' (by rw [natA_len]; exact h12) i k).1 hk)
/-- A set closed under the reduced order is closed under the order. -/
theorem red_closed {after : List (List Int)} (h : (ofS after).1 = 0) (S : Nat → Prop) : (∀ i, S i → ∀ k, k ∈ (natA (redA after)).getD i [] → S k) ↔ ∀ i, S i → ∀ k, k ∈ (natA after).getD i [] → S k := by
  constructor
  · intro hS i hi k hk
    have hw : ∀ m i j, S i → Wk (natA (redA after)) m i j → S j := by
      intro m
      induction m with
      | zero => intro i j hi e; exact (show i = j from e) ▸ hi
      | succ m ih => exact fun i j hi ⟨x, hx, hw⟩ => ih x j (hS i hi x hx) hw
    obtain ⟨m, _, hw2⟩ := red_bef h (Bef.step.2 (.inl hk))
    exact hw m i k hi hw2
  · intro hS i hi k hk
    exact hS i hi k (red_sub h hk)
end Go.Proofs.YtgickfllblmhpaaGreatDoor
