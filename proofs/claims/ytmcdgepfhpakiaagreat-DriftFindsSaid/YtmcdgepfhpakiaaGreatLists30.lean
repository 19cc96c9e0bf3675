/- Rows of whole numbers, and rows of such rows, that a call makes. -/
import Derived.Test.YtmcdgepfhpakiaaGreatCut
import Derived.Test.YtmcdgepfhpakiaaGreatPure13
namespace Go.Proofs.YtmcdgepfhpakiaaGreat
set_option linter.unusedSimpArgs false
set_option linter.unusedVariables false
open Go Go.RowKit
set_option maxRecDepth 100000
set_option linter.unusedSectionVars false
set_option maxHeartbeats 2000000
def nC (n : Nat) : List Value := [.int .i64 n]
theorem nC_one (n : Nat) : ∀ v ∈ nC n, v.oneCell' = true := by simp [nC, Value.oneCell']
abbrev OwnN (w : World) (B : Nat) (v : Value) (l : List Nat) : Prop := Own w B 3 1 v (l.map nC)
/-- A row of the call's own whose elements are rows of its own. -/
def OwnLN (w : World) (B : Nat) (v : Value) (ll : List (List Nat)) : Prop := ∃ us : List Value, us.length = ll.length ∧ Own w B 40 1 v (us.map fun u => [u]) ∧ ∀ i (h : i < us.length), Own w B 3 1 us[i] ((ll.getD i []).map nC)
section
variable {w w' : World} {B B' b : Nat} {v : Value} {ll : List (List Nat)}
theorem OwnLN.nil (w : World) (B : Nat) : OwnLN w B (.slice none 0 0) [] := ⟨[], rfl, Own.nil _ _ _ _, fun i h => absurd h (by simp)⟩
theorem OwnLN.ext (h : OwnLN w B v ll) (hx : Ext w w') : OwnLN w' B v ll := by
  obtain ⟨us, h1, h2, h3⟩ := h
  exact ⟨us, h1, h2.ext hx, fun i hi => (h3 i hi).ext hx⟩
theorem OwnLN.more (h : OwnLN w B v ll) (hB : B' ≤ B) : OwnLN w B' v ll := by
  obtain ⟨us, h1, h2, h3⟩ := h
  exact ⟨us, h1, h2.more hB, fun i hi => (h3 i hi).more hB⟩
theorem OwnLN.one (h : OwnLN w B v ll) : v.oneCell' = true := by
  obtain ⟨us, h1, h2, h3⟩ := h
  exact h2.one
theorem appLN2 {cp : Nat} {s u : Value} {l : List Nat} {k : Value → World → Prop} (hown : OwnLN w B s ll) (hu : Own w B 3 1 u (l.map nC)) (hb : Blk w b 40 [u]) (hbound : ll.length < 1000000000000) (hB : B ≤ w.heap.size)
    (h : ∀ v' w', Now w' → Sa B w w' → (∀ c, c < w.heap.size → ¬ s.ownBlock = some c → w'.heap[c]? = w.heap[c]?) → (∀ b, v'.ownBlock = some b → s.ownBlock = some b ∨ w.heap.size ≤ b) → OwnLN w' B v' (ll ++ [l]) → k v' w') : appX Tryz.prog 72 72 72 s (.slice (some ⟨b, 0, none⟩) 1 cp) w k := by
  obtain ⟨us, h1, h2, h3⟩ := hown
  refine append_row (e := 40) (sz := 1) (by_ := 24) (z := .slice none 0 0) (ns := [[u]]) KR KR rfl (by decide) h2 (by simpa using hb) (by simp) (by simp [hu.one]) rfl ?_ hB fun v' w' ho hg hbl hd => ?_
  · simp only [List.length_map, List.length_cons, List.length_nil, Nat.zero_add]
    have : (us.length + 1) * (24 + 1) ≤ 1000000000000 * 25 := Nat.mul_le_mul (by omega) (Nat.le_refl _)
    omega
  · have keep : ∀ {x : Value} {cs : List (List Value)}, Own w B 3 1 x cs → Own w' B 3 1 x cs := fun {x cs} hx => hx.keep fun c hc => hg.block c (hx.lt c hc).2 fun e => by
      rcases h2.1.2 with ⟨rfl, _⟩ | ⟨g, cap, cur, rfl, hbg, hgc, _⟩
      · simp [Value.ownBlock] at e
      · have hcg : c = g := by simpa [Value.ownBlock] using e
        subst hcg
        rcases hx.1.2 with ⟨rfl, _⟩ | ⟨g', cap', cur', rfl, _, hgc', _⟩
        · simp [Value.ownBlock] at hc
        · obtain rfl : g' = c := Option.some.inj hc
          have := hgc.symm.trans hgc'
          simp at this
    refine h v' w' trivial (sa_of hbl) (fun c hc hn => hg.block c hc fun e => hn e.symm) (fun b hb => by rcases hd with e | e <;> rw [e] at hb; exact .inl hb; exact .inr (by obtain rfl := Option.some.inj hb; exact Nat.le_refl _)) ⟨us ++ [u], by simp [h1], by simpa using ho, fun i hi => ?_⟩
    by_cases hlt : i < us.length
    · rw [List.getElem_append_left hlt]
      have hil : i < ll.length := by omega
      have := keep (h3 i hlt)
      simpa [List.getD_eq_getElem?_getD, List.getElem?_append_left hil] using this
    · have hie : i = us.length := by simp at hi; omega
      subst hie
      rw [List.getElem_append_right (Nat.le_refl _)]
      have := keep hu
      simpa [List.getD_eq_getElem?_getD, h1] using this
/-- Behind a row of one's own: all of another row. -/
theorem appN {B' : Nat} {s u : Value} {l r : List Nat} {k : Value → World → Prop} (hown : OwnN w B s l) (hu : OwnN w B' u r) (hbound : l.length + r.length < 1000000000000) (hB : B ≤ w.heap.size)
    (h : ∀ v' w', Now w' → Sa B w w' → OwnN w' B v' (l ++ r) → k v' w') : appX Tryz.prog 40 40 40 s u w k :=
  appendAll_k (e := 3) (sz := 1) (by_ := 8) (z := .int .i64 0) (c := nC) KR KR rfl (by decide) (by decide) hown (hu.slN (f := nC)) (fun _ => rfl) nC_one hbound hB h
end
end Go.Proofs.YtmcdgepfhpakiaaGreat
/- The plain laws of layer 30: the first set of steps that explains a world. -/
namespace Go.Proofs.YtmcdgepfhpakiaaGreat
set_option linter.unusedSimpArgs false
set_option linter.unusedVariables false
open Go Go.RowKit
set_option linter.unusedSectionVars false
set_option maxHeartbeats 1000000
section
variable (ap : WorldD → Nat → Option WorldD) (seen : WorldD) (n : Nat)
/-- The first places, from a place on and so many, that lead to the world that was seen. -/
def tryS : Nat → WorldD → Nat → Option (List Nat)
  | 0, x, _ => if x = seen then some [] else none
  | m + 1, x, f => (List.range' f (n - m - f)).findSome? fun i => (ap x i).bind fun y => (tryS m y (i + 1)).map (i :: ·)
def setsL : Nat → Nat → List (List Nat)
  | 0, _ => [[]]
  | m + 1, f => (List.range' f (n - f)).flatMap fun i => (setsL m (i + 1)).map (i :: ·)
def explB : WorldD → List Nat → Bool
  | x, [] => decide (x = seen)
  | x, i :: r => match ap x i with
    | some y => explB y r
    | none => false
/-- The first set of places, of those with fewer places first. -/
def explS (x : WorldD) : Option (List Nat) := (List.range (n + 1)).findSome? fun m => tryS ap seen n m x 0
end
section
variable {ap : WorldD → Nat → Option WorldD} {seen : WorldD} {n : Nat}
theorem setsL_nil : ∀ (m f : Nat), n - f < m → setsL n m f = []
  | 0, f, h => absurd h (by omega)
  | m + 1, f, h => by
    unfold setsL
    rw [List.flatMap_eq_nil_iff]
    intro i hi
    have h1 := List.mem_range'_1.1 hi
    rw [setsL_nil m (i + 1) (by omega), List.map_nil]
theorem sets_try : ∀ (m : Nat) (x : WorldD) (f : Nat), (setsL n m f).find? (explB ap seen x) = tryS ap seen n m x f
  | 0, x, f => by
    unfold setsL tryS
    by_cases h : x = seen <;> simp [explB, h]
  | m + 1, x, f => by
    have key : ∀ i, ((setsL n m (i + 1)).map (i :: ·)).find? (explB ap seen x) = (ap x i).bind fun y => (tryS ap seen n m y (i + 1)).map (i :: ·) := by
      intro i
      rw [List.find?_map]
      cases h : ap x i with
      | none =>
        have : (explB ap seen x ∘ (i :: ·)) = fun _ => false := by funext r; simp [explB, h]
        rw [this]
        simp
      | some y =>
        have : (explB ap seen x ∘ (i :: ·)) = explB ap seen y := by funext r; simp [explB, h]
        rw [this, sets_try m y (i + 1)]
        rfl
    unfold setsL tryS
    rw [List.find?_flatMap]
    have hr : List.range' f (n - f) = List.range' f (n - m - f) ++ List.range' (f + (n - m - f)) (n - f - (n - m - f)) := by
      rw [List.range'_append_1]
      congr 1
      omega
    rw [hr, List.findSome?_append]
    have h2 : (List.range' (f + (n - m - f)) (n - f - (n - m - f))).findSome? (fun i => ((setsL n m (i + 1)).map (i :: ·)).find? (explB ap seen x)) = none := by
      rw [List.findSome?_eq_none_iff]
      intro i hi
      have h1 := List.mem_range'_1.1 hi
      rw [setsL_nil m (i + 1) (by omega)]
      rfl
    rw [h2, Option.or_none]
    congr 1
    funext i
    exact key i
theorem sets_part (m f : Nat) (hm : ∀ i, (setsL n m i).length ≤ 2 ^ (n - i)) : ∀ c, f + c ≤ n → ((List.range' f c).flatMap fun i => (setsL n m (i + 1)).map (i :: ·)).length + 2 ^ (n - f - c) ≤ 2 ^ (n - f)
  | 0, h => by simp
  | c + 1, h => by
    have ih := sets_part m f hm c (by omega)
    rw [List.range'_concat, List.flatMap_append, List.length_append]
    have h1 := hm (f + 1 * c + 1)
    simp only [List.flatMap_cons, List.flatMap_nil, List.append_nil, List.length_map]
    have e1 : n - f - c = (n - f - (c + 1)) + 1 := by omega
    have e2 : n - (f + 1 * c + 1) = n - f - (c + 1) := by omega
    rw [e1, Nat.pow_succ] at ih
    rw [e2] at h1
    omega
theorem sets_len : ∀ (m f : Nat), (setsL n m f).length ≤ 2 ^ (n - f)
  | 0, f => by simp [setsL, Nat.one_le_two_pow]
  | m + 1, f => by
    unfold setsL
    by_cases h : f ≤ n
    · exact Nat.le_trans (Nat.le_add_right _ _) (sets_part (n := n) m f (fun i => sets_len m i) (n - f) (by omega))
    · rw [show n - f = 0 by omega]
      simp
theorem sets_each : ∀ (m f : Nat), ∀ p ∈ setsL n m f, p.length = m ∧ (∀ q ∈ p, f ≤ q ∧ q < n) ∧ p.Pairwise (· < ·)
  | 0, f, p, h => by
    unfold setsL at h
    obtain rfl := List.mem_singleton.1 h
    simp
  | m + 1, f, p, h => by
    unfold setsL at h
    obtain ⟨i, hi, h1⟩ := List.mem_flatMap.1 h
    obtain ⟨r, hr, rfl⟩ := List.mem_map.1 h1
    have hi' := List.mem_range'_1.1 hi
    obtain ⟨e1, e2, e3⟩ := sets_each m (i + 1) r hr
    refine ⟨by rw [List.length_cons, e1], fun q hq => ?_, List.pairwise_cons.2 ⟨fun q hq => ?_, e3⟩⟩
    · rcases List.mem_cons.1 hq with rfl | hq
      · omega
      · have := e2 q hq; omega
    · have := e2 q hq; omega
theorem sets_mem : ∀ (p : List Nat) (f : Nat), (∀ q ∈ p, f ≤ q ∧ q < n) → p.Pairwise (· < ·) → p ∈ setsL n p.length f
  | [], f, _, _ => by simp [setsL]
  | i :: r, f, h, hp => by
    rw [List.length_cons]
    unfold setsL
    obtain ⟨h1, h2⟩ := List.pairwise_cons.1 hp
    have hi := h i (List.mem_cons_self ..)
    refine List.mem_flatMap.2 ⟨i, List.mem_range'_1.2 (by omega), List.mem_map.2 ⟨r, sets_mem r (i + 1) (fun q hq => ?_) h2, rfl⟩⟩
    have a := h1 q hq
    have b := h q (List.mem_cons_of_mem _ hq)
    omega
theorem expl_snocs {seen x y z : WorldD} {P : List Nat} {i : Nat} (h : ∀ r, explB ap seen x (P ++ r) = explB ap seen y r) (ha : ap y i = some z) : ∀ r, explB ap seen x ((P ++ [i]) ++ r) = explB ap seen z r := by
  intro r
  rw [List.append_assoc, h]
  show explB ap seen y (i :: r) = _
  rw [explB, ha]
theorem least_nat {p : Nat → Prop} : ∀ N, p N → ∃ K, K ≤ N ∧ p K ∧ ∀ j, j < K → ¬ p j := by
  intro N
  induction N using Nat.strongRecOn with
  | _ N ih =>
    intro h
    by_cases h2 : ∃ j, j < N ∧ p j
    · obtain ⟨j, hj, hpj⟩ := h2
      obtain ⟨K, h3, h4, h5⟩ := ih j hj hpj
      exact ⟨K, by omega, h4, h5⟩
    · exact ⟨N, Nat.le_refl _, h, fun j hj hpj => h2 ⟨j, hj, hpj⟩⟩
/-- There is a first set that explains, and it is no larger than any other. -/
theorem expl_min {x : WorldD} {P : List Nat} (hP : ∀ q ∈ P, q < n) (hp : P.Pairwise (· < ·)) (hl : P.length ≤ n) (he : explB ap seen x P = true) : ∃ r, explS ap seen n x = some r ∧ r.length ≤ P.length ∧ (∀ q ∈ r, q < n) ∧ r.Pairwise (· < ·) ∧ explB ap seen x r = true := by
  have h1 : P ∈ setsL n P.length 0 := sets_mem P 0 (fun q hq => ⟨Nat.zero_le _, hP q hq⟩) hp
  have h2 : tryS ap seen n P.length x 0 ≠ none := by
    rw [← sets_try]
    intro h
    have := List.find?_eq_none.1 h P h1
    exact this he
  obtain ⟨K, hK, hk, hmin⟩ := least_nat (p := fun m => tryS ap seen n m x 0 ≠ none) P.length h2
  cases ht : tryS ap seen n K x 0 with
  | none => exact absurd ht hk
  | some r =>
    rw [← sets_try] at ht
    have hm := List.mem_of_find?_eq_some ht
    have he2 := List.find?_some ht
    obtain ⟨e1, e2, e3⟩ := sets_each K 0 r hm
    refine ⟨r, ?_, by omega, fun q hq => (e2 q hq).2, e3, he2⟩
    rw [sets_try] at ht
    unfold explS
    have e : List.range (n + 1) = List.range K ++ (K :: List.range' (K + 1) (n - K)) := by
      have h9 := List.range'_append (s := 0) (m := K) (n := n - K + 1) (step := 1)
      rw [List.range_eq_range', List.range_eq_range']
      rw [show 0 + 1 * K = K by omega, List.range'_succ] at h9
      rw [h9]
      congr 1
      omega
    rw [e, List.findSome?_append]
    have hno : (List.range K).findSome? (fun m => tryS ap seen n m x 0) = none := by
      rw [List.findSome?_eq_none_iff]
      intro j hj
      exact Classical.byContradiction fun h => hmin j (List.mem_range.1 hj) h
    rw [hno, Option.none_or, List.findSome?_cons, ht]
end
end Go.Proofs.YtmcdgepfhpakiaaGreat
