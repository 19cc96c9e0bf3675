/- Regions of drawn order: each operation's yield told by a relation, over a relation of worlds of one's own. -/
import Derived.Test.YtopfddchckdhgaaGreatRel
namespace Go.Proofs.YtopfddchckdhgaaGreat
set_option linter.unusedSimpArgs false
set_option linter.unusedVariables false
open Go Go.RowKit
set_option linter.unusedSectionVars false
set_option maxRecDepth 100000
section
variable {P : Program} {n m : Nat} {ops : Array Oper} {K : Fr → World → Prop}
theorem head_runE {E : World → World → Prop} (hEt : ∀ {a b c}, E a b → E b c → E a c) (hops : ∀ o ∈ ops.toList, dstOk n o = true) (hB : relB ops m = true) {g0 : Fr} {w0 : World} (R : Nat → Value → World → Prop) (hst : ∀ i v w w', R i v w → E w w' → R i v w')
    (hob : ∀ i o, i < m → ops[i]? = some o → ∀ g w, E w0 w → (∀ e ∈ o.after, Region.binds .any e = true → ∀ p d, ops[e.on]? = some p → p.dst = some d → R e.on (g d) w) → Agree ops m g0 g → relStep P ops o g w fun v w' => E w w' ∧ R i v w')
    (hend : ∀ g w, E w0 w → (∀ i p d, i < m → ops[i]? = some p → p.dst = some d → R i (g d) w) → Agree ops m g0 g → wpl P ops (ops.toList.drop m) g w K) :
    ∀ (f : Nat) (listed : Array Bool) (a : Act) (g : Fr) (w : World), cnt listed m = f → HeadInv .any ops m listed → Agr n a g → E w0 w → (∀ i p d, i < m → listed.getD i false = true → ops[i]? = some p → p.dst = some d → R i (g d) w) → Agree ops m g0 g →
    wpAny P .any ops (liftQ n (onNormal K)) (f + (ops.size - m)) listed a w := by
  simp only [relB, Bool.and_eq_true, decide_eq_true_eq] at hB
  obtain ⟨⟨⟨⟨hm, hs⟩, hc⟩, hb⟩, hdist⟩ := hB
  intro f
  induction f with
  | zero =>
    intro listed a g w hcnt inv ha hx hR hag
    have hall := cnt_zero hcnt
    rw [Nat.zero_add]
    exact tail_run hops hc hb _ m listed a g w rfl (Nat.le_refl _) (Nat.le_of_lt hm) inv.size hall (fun j h1 h2 => inv.tail j h1 h2) ha (hend g w hx (fun i p d hi ho hd => hR i p d hi (hall i hi) ho hd) hag)
  | succ f ih =>
    intro listed a g w hcnt inv ha hx hR hag
    obtain ⟨i0, hi0, hu0, hbelow⟩ := cnt_pos (by omega : 0 < cnt listed m)
    obtain ⟨o0, ho0⟩ : ∃ o, ops[i0]? = some o := ⟨ops[i0]'(by omega), by simp⟩
    have hr0 : i0 ∈ Region.ready .any ops listed := mem_ready.2 ⟨getD_in (by rw [inv.size]; omega) hu0, o0, ho0, fun e he hbd => hbelow _ (back_spec hb ho0 e he hbd)⟩
    rw [show f + 1 + (ops.size - m) = (f + (ops.size - m)) + 1 by omega]
    refine ⟨fun h0 => (by rw [h0] at hr0; cases hr0), fun i hi => ?_⟩
    have him : i < m := Nat.lt_of_not_le fun h => tail_waits hs hc hm inv _ i0 rfl hi0 (getD_in (by rw [inv.size]; omega) hu0) i h hi
    obtain ⟨hu, o, ho, hall⟩ := mem_ready.1 hi
    have his : i < listed.size := by rw [inv.size]; omega
    have hod : dstOk n o = true := hops o (by
      obtain ⟨hlt, rfl⟩ := Array.getElem?_eq_some_iff.1 ho
      simp)
    have hcnt' : cnt (listed.setIfInBounds i true) m = f := by
      have := (cnt_set his (getD_both hu) (m := m)).2 him
      omega
    have after : ∀ (v : Value) (w' : World) (a' : Act), Agr n a' (upo g o.dst v) → E w w' ∧ R i v w' → wpAny P .any ops (liftQ n (onNormal K)) (f + (ops.size - m)) (listed.setIfInBounds i true) a' w' := by
      rintro v w' a' ha' ⟨hx', hRi⟩
      refine ih _ a' (upo g o.dst v) w' hcnt' (inv.set hi him) ha' (hEt hx hx') (fun j p d hj hl hp hd => ?_) (fun d hd => ?_)
      · by_cases e : i = j
        · subst e
          obtain rfl : o = p := Option.some.inj (ho.symm.trans hp)
          rw [hd]
          simpa [upo, up] using hRi
        · rw [getD_set_ne false e] at hl
          have h1 := hst _ _ _ _ (hR j p d hj hl hp hd) hx'
          cases hod' : o.dst with
          | none => simpa [upo] using h1
          | some d' =>
            have hne : ¬ d = d' := by
              rintro rfl
              exact e (dist_spec hdist him hj ho hp hod' hd)
            simpa [upo, up, hne] using h1
      · rw [← hag d hd]
        cases hod' : o.dst with
        | none => rfl
        | some d' =>
          have hne : ¬ d = d' := by
            rintro rfl
            exact hd i o him ho hod'
          simp [upo, up, hne]
    have step := hob i o him ho g w hx (fun e he hbd p d hp hd => hR e.on p d (by have := back_spec hb ho e he hbd; omega) (hall e he hbd) hp hd) hag
    unfold wpOp
    simp only [ho]
    rw [wanted_eq ha ops hops o]
    unfold relStep at step
    split at step
    · rename_i hg
      rw [if_pos hg]
      exact .inl (Oper_wp_of_wp1 hod ha (opX_sound step) fun v w' a' ha' hk' => after v w' a' ha' hk')
    · rename_i hg
      rw [if_neg hg]
      exact after undef w _ (ha.put _ _ (dstOk_lt hod)) step
theorem wpd_relE {E : World → World → Prop} (hEr : ∀ {a b : World}, Ext a b → E a b) (hEt : ∀ {a b c}, E a b → E b c → E a c) {id : Nat} {l : List Oper} {g0 : Fr} {w0 : World} (m : Nat) (R : Nat → Value → World → Prop) (hm : P.follows .mixedOrders = true) (hB : relB l.toArray m = true) (hd : l.all (dstOk n) = true) (hst : ∀ i v w w', R i v w → E w w' → R i v w')
    (hob : ∀ i o, i < m → l[i]? = some o → ∀ g w, E w0 w → (∀ e ∈ o.after, Region.binds .any e = true → ∀ p d, l[e.on]? = some p → p.dst = some d → R e.on (g d) w) → Agree l.toArray m g0 g → relStep P l.toArray o g w fun v w' => E w w' ∧ R i v w')
    (hend : ∀ g w, E w0 w → (∀ i p d, i < m → l[i]? = some p → p.dst = some d → R i (g d) w) → Agree l.toArray m g0 g → wpl P l.toArray (l.drop m) g w K) : wpd P n id l.toArray g0 w0 K := by
  intro a ha
  rw [List.all_eq_true] at hd
  have hB' := hB
  simp only [relB, Bool.and_eq_true, decide_eq_true_eq] at hB'
  have hsz : m < l.length := by simpa using hB'.1.1.1.1
  refine wp_region_any hm ?_
  have hall : ∀ k, k ≤ m → cnt (Array.replicate l.toArray.size false) k = k := by
    intro k
    induction k with
    | zero => intro _; rfl
    | succ k ih => intro hk; simp only [cnt, ih (by omega), getD_replicate_false]; simp
  have H := head_runE (E := E) hEt (P := P) (n := n) (K := K) (ops := l.toArray) (g0 := g0) (w0 := w0) (by simpa using hd) hB R hst (by simpa using hob) (by simpa using hend) m (Array.replicate l.toArray.size false) a g0 { w0 with drawn := w0.drawn + 1 } (hall m (Nat.le_refl _))
    ⟨by simp, fun j oj _ hl => (by rw [getD_replicate_false] at hl; cases hl), fun t _ ht => getD_in (by simpa using ht) (getD_replicate_false _ _)⟩ ha (hEr (Ext.drawn w0 _)) (fun i p d _ hl => (by rw [getD_replicate_false] at hl; cases hl)) (fun d _ => rfl)
  rw [show m + (l.toArray.size - m) = l.toArray.size by simp; omega] at H
  exact H
end
end Go.Proofs.YtopfddchckdhgaaGreat
/- Regions of drawn order with one operation that turns what was there: each operation's yield told by a relation. -/
namespace Go.Proofs.YtopfddchckdhgaaGreat
set_option linter.unusedSimpArgs false
set_option linter.unusedVariables false
open Go Go.RowKit
set_option linter.unusedSectionVars false
set_option maxRecDepth 100000
section
variable {P : Program} {n m : Nat} {ops : Array Oper} {K : Fr → World → Prop}
theorem head_runI (k0 : Nat) (hk0 : k0 < m) (I : Bool → World → Prop) (hI : ∀ d w w', I d w → Ext w w' → I d w') (hops : ∀ o ∈ ops.toList, dstOk n o = true) (hB : relB ops m = true) {g0 : Fr} (R : Nat → Value → World → Prop) (hst : ∀ i v w w', R i v w → Ext w w' → R i v w')
    (hob : ∀ i o, i < m → ops[i]? = some o → ∀ q g w, I q w → (i = k0 → q = false) → (∀ e ∈ o.after, Region.binds .any e = true → ∀ p d, ops[e.on]? = some p → p.dst = some d → R e.on (g d) w) → Agree ops m g0 g → (¬ i = k0 → relStep P ops o g w fun v w' => Ext w w' ∧ R i v w') ∧ (i = k0 → relStep P ops o g w fun v w' => I true w' ∧ R i v w' ∧ ∀ j u, ¬ j = k0 → R j u w → R j u w'))
    (hend : ∀ g w, I true w → (∀ i p d, i < m → ops[i]? = some p → p.dst = some d → R i (g d) w) → Agree ops m g0 g → wpl P ops (ops.toList.drop m) g w K) :
    ∀ (f : Nat) (listed : Array Bool) (a : Act) (g : Fr) (w : World), cnt listed m = f → HeadInv .any ops m listed → Agr n a g → I (listed.getD k0 false) w → (∀ i p d, i < m → listed.getD i false = true → ops[i]? = some p → p.dst = some d → R i (g d) w) → Agree ops m g0 g →
    wpAny P .any ops (liftQ n (onNormal K)) (f + (ops.size - m)) listed a w := by
  simp only [relB, Bool.and_eq_true, decide_eq_true_eq] at hB
  obtain ⟨⟨⟨⟨hm, hs⟩, hc⟩, hb⟩, hdist⟩ := hB
  intro f
  induction f with
  | zero =>
    intro listed a g w hcnt inv ha hx hR hag
    have hall := cnt_zero hcnt
    rw [Nat.zero_add]
    rw [hall k0 hk0] at hx
    exact tail_run hops hc hb _ m listed a g w rfl (Nat.le_refl _) (Nat.le_of_lt hm) inv.size hall (fun j h1 h2 => inv.tail j h1 h2) ha (hend g w hx (fun i p d hi ho hd => hR i p d hi (hall i hi) ho hd) hag)
  | succ f ih =>
    intro listed a g w hcnt inv ha hx hR hag
    obtain ⟨i0, hi0, hu0, hbelow⟩ := cnt_pos (by omega : 0 < cnt listed m)
    obtain ⟨o0, ho0⟩ : ∃ o, ops[i0]? = some o := ⟨ops[i0]'(by omega), by simp⟩
    have hr0 : i0 ∈ Region.ready .any ops listed := mem_ready.2 ⟨getD_in (by rw [inv.size]; omega) hu0, o0, ho0, fun e he hbd => hbelow _ (back_spec hb ho0 e he hbd)⟩
    rw [show f + 1 + (ops.size - m) = (f + (ops.size - m)) + 1 by omega]
    refine ⟨fun h0 => (by rw [h0] at hr0; cases hr0), fun i hi => ?_⟩
    have him : i < m := Nat.lt_of_not_le fun h => tail_waits hs hc hm inv _ i0 rfl hi0 (getD_in (by rw [inv.size]; omega) hu0) i h hi
    obtain ⟨hu, o, ho, hall⟩ := mem_ready.1 hi
    have his : i < listed.size := by rw [inv.size]; omega
    have hod : dstOk n o = true := hops o (by
      obtain ⟨hlt, rfl⟩ := Array.getElem?_eq_some_iff.1 ho
      simp)
    have hcnt' : cnt (listed.setIfInBounds i true) m = f := by
      have := (cnt_set his (getD_both hu) (m := m)).2 him
      omega
    have after : ∀ (v : Value) (w' : World) (a' : Act), Agr n a' (upo g o.dst v) → ((¬ i = k0 → Ext w w' ∧ R i v w') ∧ (i = k0 → I true w' ∧ R i v w' ∧ ∀ j u, ¬ j = k0 → R j u w → R j u w')) → wpAny P .any ops (liftQ n (onNormal K)) (f + (ops.size - m)) (listed.setIfInBounds i true) a' w' := by
      rintro v w' a' ha' ⟨hA, hK⟩
      have hRi : R i v w' := by
        by_cases e : i = k0
        · exact (hK e).2.1
        · exact (hA e).2
      have hRj : ∀ j u, ¬ j = i → R j u w → R j u w' := fun j u hj hr => by
        by_cases e : i = k0
        · exact (hK e).2.2 j u (fun h => hj (h.trans e.symm)) hr
        · exact hst _ _ _ _ hr (hA e).1
      have hI' : I ((listed.setIfInBounds i true).getD k0 false) w' := by
        by_cases e : i = k0
        · have : (listed.setIfInBounds i true).getD k0 false = true := by rw [← e]; simp [his]
          rw [this]
          exact (hK e).1
        · rw [getD_set_ne false e]
          exact hI _ _ _ hx (hA e).1
      refine ih _ a' (upo g o.dst v) w' hcnt' (inv.set hi him) ha' hI' (fun j p d hj hl hp hd => ?_) (fun d hd => ?_)
      · by_cases e : i = j
        · subst e
          obtain rfl : o = p := Option.some.inj (ho.symm.trans hp)
          rw [hd]
          simpa [upo, up] using hRi
        · rw [getD_set_ne false e] at hl
          have h1 := hRj _ _ (fun h => e h.symm) (hR j p d hj hl hp hd)
          cases hod' : o.dst with
          | none => simpa [upo] using h1
          | some d' =>
            have hne : ¬ d = d' := by
              rintro rfl
              exact e (dist_spec hdist him hj ho hp hod' hd)
            simpa [upo, up, hne] using h1
      · rw [← hag d hd]
        cases hod' : o.dst with
        | none => rfl
        | some d' =>
          have hne : ¬ d = d' := by
            rintro rfl
            exact hd i o him ho hod'
          simp [upo, up, hne]
    have step := hob i o him ho _ g w hx (fun h => by rw [← h]; exact getD_both hu) (fun e he hbd p d hp hd => hR e.on p d (by have := back_spec hb ho e he hbd; omega) (hall e he hbd) hp hd) hag
    unfold wpOp
    simp only [ho]
    rw [wanted_eq ha ops hops o]
    by_cases e : i = k0
    · have st := step.2 e
      unfold relStep at st
      split at st
      · rename_i hg
        rw [if_pos hg]
        exact .inl (Oper_wp_of_wp1 hod ha (opX_sound st) fun v w' a' ha' hk' => after _ _ _ ha' ⟨fun h => absurd e h, fun _ => hk'⟩)
      · rename_i hg
        rw [if_neg hg]
        exact after undef w _ (ha.put _ _ (dstOk_lt hod)) ⟨fun h => absurd e h, fun _ => st⟩
    · have st := step.1 e
      unfold relStep at st
      split at st
      · rename_i hg
        rw [if_pos hg]
        exact .inl (Oper_wp_of_wp1 hod ha (opX_sound st) fun v w' a' ha' hk' => after _ _ _ ha' ⟨fun _ => hk', fun h => absurd h e⟩)
      · rename_i hg
        rw [if_neg hg]
        exact after undef w _ (ha.put _ _ (dstOk_lt hod)) ⟨fun _ => st, fun h => absurd h e⟩
theorem wpd_relI {id : Nat} {l : List Oper} {g0 : Fr} {w0 : World} (k0 m : Nat) (I : Bool → World → Prop) (hk0 : k0 < m) (hI0 : ∀ w, Ext w0 w → I false w) (hI : ∀ d w w', I d w → Ext w w' → I d w') (R : Nat → Value → World → Prop) (hm : P.follows .mixedOrders = true) (hB : relB l.toArray m = true) (hd : l.all (dstOk n) = true) (hst : ∀ i v w w', R i v w → Ext w w' → R i v w')
    (hob : ∀ i o, i < m → l[i]? = some o → ∀ q g w, I q w → (i = k0 → q = false) → (∀ e ∈ o.after, Region.binds .any e = true → ∀ p d, l[e.on]? = some p → p.dst = some d → R e.on (g d) w) → Agree l.toArray m g0 g → (¬ i = k0 → relStep P l.toArray o g w fun v w' => Ext w w' ∧ R i v w') ∧ (i = k0 → relStep P l.toArray o g w fun v w' => I true w' ∧ R i v w' ∧ ∀ j u, ¬ j = k0 → R j u w → R j u w'))
    (hend : ∀ g w, I true w → (∀ i p d, i < m → l[i]? = some p → p.dst = some d → R i (g d) w) → Agree l.toArray m g0 g → wpl P l.toArray (l.drop m) g w K) : wpd P n id l.toArray g0 w0 K := by
  intro a ha
  rw [List.all_eq_true] at hd
  have hB' := hB
  simp only [relB, Bool.and_eq_true, decide_eq_true_eq] at hB'
  have hsz : m < l.length := by simpa using hB'.1.1.1.1
  refine wp_region_any hm ?_
  have hall : ∀ k, k ≤ m → cnt (Array.replicate l.toArray.size false) k = k := by
    intro k
    induction k with
    | zero => intro _; rfl
    | succ k ih => intro hk; simp only [cnt, ih (by omega), getD_replicate_false]; simp
  have H := head_runI (P := P) (n := n) (K := K) (ops := l.toArray) (g0 := g0) k0 hk0 I hI (by simpa using hd) hB R hst (by simpa using hob) (by simpa using hend) m (Array.replicate l.toArray.size false) a g0 { w0 with drawn := w0.drawn + 1 } (hall m (Nat.le_refl _))
    ⟨by simp, fun j oj _ hl => (by rw [getD_replicate_false] at hl; cases hl), fun t _ ht => getD_in (by simpa using ht) (getD_replicate_false _ _)⟩ ha (by rw [getD_replicate_false]; exact hI0 _ (Ext.drawn w0 _)) (fun i p d _ hl => (by rw [getD_replicate_false] at hl; cases hl)) (fun d _ => rfl)
  rw [show m + (l.toArray.size - m) = l.toArray.size by simp; omega] at H
  exact H
end
end Go.Proofs.YtopfddchckdhgaaGreat
