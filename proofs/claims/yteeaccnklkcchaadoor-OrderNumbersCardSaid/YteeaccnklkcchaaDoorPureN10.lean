
/- Lines and their numbers: no program is walked here. -/
import Derived.Test.YteeaccnklkcchaaDoorPureB10
import Derived.Test.YteeaccnklkcchaaDoorPureMd10
import Derived.Test.YteeaccnklkcchaaDoorRefN10
namespace Go.Proofs.YteeaccnklkcchaaDoor
set_option linter.unusedSimpArgs false
set_option linter.unusedVariables false
open Go Go.RowKit
set_option maxRecDepth 100000
set_option linter.unusedSectionVars false
theorem lst_sorted (s : Nat) : (lst s).Pairwise (· < ·) := List.pairwise_lt_range.filter _
theorem pick_sum {c : Nat → Nat} : ∀ {L : List Nat} {k i k' : Nat}, L.Pairwise (· < ·) → pickN c L k = some (i, k') → k = ((L.filter fun j => decide (j < i)).map c).sum + k'
  | [], _, _, _, _, h => by cases h
  | a :: r, k, i, k', hp, h => by
    obtain ⟨h1, h2⟩ := List.pairwise_cons.1 hp
    rw [pickN] at h
    split at h
    · obtain ⟨rfl, rfl⟩ := Prod.mk.inj (Option.some.inj h)
      have : (a :: r).filter (fun j => decide (j < a)) = [] := by
        rw [List.filter_eq_nil_iff]
        intro x hx
        rcases List.mem_cons.1 hx with rfl | hx
        · simp
        · have := h1 x hx
          simp; omega
      rw [this]
      simp
    · have hi := h1 i (pick_memB h)
      have h3 := pick_sum h2 h
      have : (a :: r).filter (fun j => decide (j < i)) = a :: r.filter (fun j => decide (j < i)) := by
        rw [List.filter_cons, if_pos (by simpa using hi)]
      rw [this, List.map_cons, List.sum_cons]
      omega
theorem pick_lt {c : Nat → Nat} : ∀ {L : List Nat} {k1 k2 a b x y : Nat}, L.Pairwise (· < ·) → pickN c L k1 = some (a, x) → pickN c L k2 = some (b, y) → k1 < k2 → a < b ∨ (a = b ∧ x < y)
  | [], _, _, _, _, _, _, _, h, _, _ => by cases h
  | z :: r, k1, k2, a, b, x, y, hp, ha, hb, hk => by
    obtain ⟨h1, h2⟩ := List.pairwise_cons.1 hp
    rw [pickN] at ha hb
    split at ha
    · obtain ⟨rfl, rfl⟩ := Prod.mk.inj (Option.some.inj ha)
      split at hb
      · obtain ⟨rfl, rfl⟩ := Prod.mk.inj (Option.some.inj hb)
        exact .inr ⟨rfl, hk⟩
      · exact .inl (h1 _ (pick_memB hb))
    · rw [if_neg (by omega)] at hb
      exact pick_lt h2 ha hb (by omega)
def lexI : List Int → List Int → Int
  | [], [] => 0
  | [], _ :: _ => -1
  | _ :: _, [] => 1
  | a :: r, b :: s => if a < b then -1 else if b < a then 1 else lexI r s
theorem lexI_self : ∀ l, lexI l l = 0
  | [] => rfl
  | a :: r => by rw [lexI, if_neg (Int.lt_irrefl _), if_neg (Int.lt_irrefl _)]; exact lexI_self r
section
variable {A : List (List Int)}
theorem rank_nth (h0 : (ofS A).1 = 0) : ∀ (f s k : Nat), card s + f = A.length → s < 2 ^ A.length → k < wayS (ofS A).2.1 s → rankS (ofS A).2.1 s (intL (nthS (ofS A).2.1 f s k)) = some k
  | 0, s, k, hc, hs, hk => by
    obtain ⟨h12, hS, hdn, _⟩ := ord_ok h0
    obtain rfl := (card_full hs h12).1 (by omega)
    have hf := wayS_full (ds := (ofS A).2.1) (by omega)
    rw [hdn] at hf
    rw [hf] at hk
    obtain rfl : k = 0 := by omega
    rfl
  | f + 1, s, k, hc, hs, hk => by
    obtain ⟨h12, hS, hdn, _⟩ := ord_ok h0
    obtain ⟨i0, k0, hp, hi0, hb0, hk0, _, hc0, hs0, hnx⟩ := nth_step (ds := (ofS A).2.1) (j := card s) (s := s) (k := k) (by omega) (by omega) rfl (by rw [hdn]; exact hs) hk
    rw [hdn] at hnx hs0 hi0
    rw [show A.length - card s = f + 1 by omega, show A.length - (card s + 1) = f by omega] at hnx
    have hrl := rdyF_lt s (ofS A).2.1 0
    rw [Nat.zero_add, hdn] at hrl
    have h4 := two_pow_le h12
    have hbit : (rdyF s 0 (ofS A).2.1).testBit i0 = true := (mem_lst' (by omega)).1 (pick_memB hp)
    rw [hnx, intL, List.map_cons, rankS, Int.toNat_natCast, hdn, if_neg (by rw [hbit]; simp; omega)]
    have ih := rank_nth h0 f (s ||| 2 ^ i0) k0 (by omega) hs0 hk0
    rw [intL] at ih
    rw [ih, Option.map_some]
    have := pick_sum (lst_sorted _) hp
    rw [lessS, lst_below (by omega)]
    congr 1
    omega
theorem lex_nth (h0 : (ofS A).1 = 0) : ∀ (f s k1 k2 : Nat), card s + f = A.length → s < 2 ^ A.length → k1 < k2 → k2 < wayS (ofS A).2.1 s → lexI (intL (nthS (ofS A).2.1 f s k1)) (intL (nthS (ofS A).2.1 f s k2)) = -1 ∧ lexI (intL (nthS (ofS A).2.1 f s k2)) (intL (nthS (ofS A).2.1 f s k1)) = 1
  | 0, s, k1, k2, hc, hs, hk, hk2 => by
    obtain ⟨h12, hS, hdn, _⟩ := ord_ok h0
    obtain rfl := (card_full hs h12).1 (by omega)
    have hf := wayS_full (ds := (ofS A).2.1) (by omega)
    rw [hdn] at hf
    omega
  | f + 1, s, k1, k2, hc, hs, hk, hk2 => by
    obtain ⟨h12, hS, hdn, _⟩ := ord_ok h0
    obtain ⟨i1, x1, hp1, _, _, hx1, _, hc1, hs1, hn1⟩ := nth_step (ds := (ofS A).2.1) (j := card s) (s := s) (k := k1) (by omega) (by omega) rfl (by rw [hdn]; exact hs) (by omega)
    obtain ⟨i2, x2, hp2, _, _, hx2, _, hc2, hs2, hn2⟩ := nth_step (ds := (ofS A).2.1) (j := card s) (s := s) (k := k2) (by omega) (by omega) rfl (by rw [hdn]; exact hs) hk2
    rw [hdn] at hn1 hn2 hs1 hs2
    rw [show A.length - card s = f + 1 by omega, show A.length - (card s + 1) = f by omega] at hn1 hn2
    rw [hn1, hn2]
    simp only [intL, List.map_cons, lexI]
    rcases pick_lt (lst_sorted _) hp1 hp2 hk with h | ⟨rfl, h⟩
    · have h1 : (i1 : Int) < (i2 : Int) := by omega
      have h2 : ¬ (i2 : Int) < (i1 : Int) := by omega
      rw [if_pos h1, if_neg h2, if_pos h1]
      exact ⟨rfl, rfl⟩
    · have h1 : ¬ (i1 : Int) < (i1 : Int) := by omega
      rw [if_neg h1, if_neg h1, if_neg h1, if_neg h1]
      exact lex_nth h0 f (s ||| 2 ^ i1) x1 x2 (by omega) hs1 h hx2
/-- Compare and Equal tell the numbers. -/
theorem nth_cmp (h0 : (ofS A).1 = 0) {i j : Nat} (hi : i < wayS (ofS A).2.1 0) (hj : j < wayS (ofS A).2.1 0) : (decide (lexI (intL (nthS (ofS A).2.1 A.length 0 i)) (intL (nthS (ofS A).2.1 A.length 0 j)) < 0) = decide ((i : Int) < (j : Int))) ∧ (decide (intL (nthS (ofS A).2.1 A.length 0 i) = intL (nthS (ofS A).2.1 A.length 0 j)) = decide ((i : Int) = (j : Int))) := by
  have hp := Nat.pow_pos (n := A.length) (show 0 < 2 by decide)
  have hc : card 0 + A.length = A.length := by rw [card_zero]; omega
  rcases Nat.lt_trichotomy i j with h | rfl | h
  · obtain ⟨h1, h2⟩ := lex_nth h0 A.length 0 i j hc hp h hj
    have hne : intL (nthS (ofS A).2.1 A.length 0 i) ≠ intL (nthS (ofS A).2.1 A.length 0 j) := fun e => by rw [e, lexI_self] at h1; cases h1
    have h3 : ((i : Int) < (j : Int)) := by omega
    have h4 : ¬ ((i : Int) = (j : Int)) := by omega
    rw [h1]
    exact ⟨by simp [h3], by simp [hne, h4]⟩
  · rw [lexI_self]
    exact ⟨by simp, by simp⟩
  · obtain ⟨h1, h2⟩ := lex_nth h0 A.length 0 j i hc hp h hi
    have hne : intL (nthS (ofS A).2.1 A.length 0 i) ≠ intL (nthS (ofS A).2.1 A.length 0 j) := fun e => by rw [e, lexI_self] at h1; cases h1
    have h3 : ¬ ((i : Int) < (j : Int)) := by omega
    have h4 : ¬ ((i : Int) = (j : Int)) := by omega
    rw [h2]
    exact ⟨by simp [h3], by simp [hne, h4]⟩
/-- A line's elements. -/
theorem nth_nm (h0 : (ofS A).1 = 0) : ∀ (f s k : Nat), card s + f = A.length → s < 2 ^ A.length → k < wayS (ofS A).2.1 s → (nthS (ofS A).2.1 f s k).length = f ∧ (nthS (ofS A).2.1 f s k).Nodup ∧ ∀ x ∈ nthS (ofS A).2.1 f s k, x < A.length ∧ s.testBit x = false
  | 0, s, k, _, _, _ => ⟨rfl, List.nodup_nil, fun x h => by cases h⟩
  | f + 1, s, k, hc, hs, hk => by
    obtain ⟨h12, hS, hdn, _⟩ := ord_ok h0
    obtain ⟨i0, k0, hp, hi0, hb0, hk0, _, hc0, hs0, hnx⟩ := nth_step (ds := (ofS A).2.1) (j := card s) (s := s) (k := k) (by omega) (by omega) rfl (by rw [hdn]; exact hs) hk
    rw [hdn] at hnx hs0 hi0
    rw [show A.length - card s = f + 1 by omega, show A.length - (card s + 1) = f by omega] at hnx
    obtain ⟨h1, h2, h3⟩ := nth_nm h0 f (s ||| 2 ^ i0) k0 (by omega) hs0 hk0
    rw [hnx]
    refine ⟨by rw [List.length_cons, h1], List.nodup_cons.2 ⟨fun hm => ?_, h2⟩, fun x hx => ?_⟩
    · have := (h3 i0 hm).2
      rw [testBit_or2] at this
      simp at this
    · rcases List.mem_cons.1 hx with rfl | hx
      · exact ⟨hi0, hb0⟩
      · obtain ⟨h4, h5⟩ := h3 x hx
        rw [testBit_or2, Bool.or_eq_false_iff] at h5
        exact ⟨h4, h5.1⟩
theorem rank_some (h0 : (ofS A).1 = 0) : ∀ (l : List Nat) (s : Nat), l.Nodup → (∀ x ∈ l, x < A.length ∧ s.testBit x = false) → ((rankS (ofS A).2.1 s (intL l)).isSome = true ↔ ∀ q (h : q < l.length), ∀ k, k ∈ (natA A).getD l[q] [] → s.testBit k = true ∨ k ∈ l.take q)
  | [], s, _, _ => by simp [intL, rankS]
  | x :: r, s, hn, hl => by
    obtain ⟨h12, hS, hdn, _⟩ := ord_ok h0
    obtain ⟨hx1, hx2⟩ := hl x (List.mem_cons_self ..)
    obtain ⟨n1, n2⟩ := List.nodup_cons.1 hn
    have ih := rank_some h0 r (s ||| 2 ^ x) n2 fun y hy => by
      obtain ⟨h1, h2⟩ := hl y (List.mem_cons_of_mem _ hy)
      refine ⟨h1, ?_⟩
      rw [testBit_or2, h2, Bool.false_or]
      have : x ≠ y := fun e => n1 (e ▸ hy)
      simpa using this
    have hr := rdy_iff hS (s := s) (i := x)
    rw [natA_len] at hr
    simp only [intL, List.map_cons, rankS, Int.toNat_natCast, hdn]
    by_cases hb : (rdyF s 0 (ofS A).2.1).testBit x = true
    · rw [if_neg (by rw [hb]; simp; omega), Option.isSome_map]
      simp only [intL] at ih
      rw [ih]
      have hp := (hr.1 hb).2.2
      constructor
      · intro h q hq k hk
        cases q with
        | zero => exact .inl (hp k hk)
        | succ q =>
          have := h q (by simpa using hq) k (by simpa using hk)
          rw [testBit_or2, Bool.or_eq_true, decide_eq_true_eq] at this
          rw [List.take_succ_cons, List.mem_cons]
          rcases this with (h | rfl) | h
          · exact .inl h
          · exact .inr (.inl rfl)
          · exact .inr (.inr h)
      · intro h q hq k hk
        have := h (q + 1) (by simpa using hq) k (by simpa using hk)
        rw [List.take_succ_cons, List.mem_cons] at this
        rw [testBit_or2, Bool.or_eq_true, decide_eq_true_eq]
        rcases this with h | rfl | h
        · exact .inl (.inl h)
        · exact .inl (.inr rfl)
        · exact .inr h
    · rw [if_pos (.inr (.inr (by simpa using hb)))]
      constructor
      · intro h; cases h
      · intro h
        exfalso
        refine hb (hr.2 ⟨hx1, hx2, fun k hk => ?_⟩)
        have := h 0 (by simp) k (by simpa using hk)
        simpa using this
end
end Go.Proofs.YteeaccnklkcchaaDoor
