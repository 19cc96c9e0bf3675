/- Regions whose order is drawn, some of whose first operations make memory of their own: it lies apart. -/
import Derived.Test.YtbfmabkdggllhaaRel
namespace Go.Proofs.Ytbfmabkdggllhaa
set_option linter.unusedSimpArgs false
set_option linter.unusedVariables false
open Go Go.RowKit
set_option linter.unusedSectionVars false
section
variable {P : Program} {n m : Nat} {ops : Array Oper} {K : Fr → World → Prop}
theorem head_run2 (hops : ∀ o ∈ ops.toList, dstOk n o = true) (hB : relB ops m = true) {g0 : Fr} {w0 : World} (R : Nat → Value → World → Prop) (fs : Nat → Bool) (hlt : ∀ i v w, fs i = true → R i v w → ∀ b, blockOf v = some b → b < w.heap.size) (hst : ∀ i v w w', R i v w → Ext w w' → R i v w')
    (hob : ∀ i o, i < m → ops[i]? = some o → ∀ g w, Ext w0 w → (∀ e ∈ o.after, Region.binds .any e = true → ∀ p d, ops[e.on]? = some p → p.dst = some d → R e.on (g d) w) → Agree ops m g0 g → (fs i = false → relStep P ops o g w fun v w' => Ext w w' ∧ R i v w') ∧ (fs i = true → relStep P ops o g w fun v w' => Ext w w' ∧ R i v w' ∧ ∀ b, blockOf v = some b → w.heap.size ≤ b))
    (hend : ∀ g w, Ext w0 w → (∀ i p d, i < m → ops[i]? = some p → p.dst = some d → R i (g d) w) → (∀ i j p q d e, i < m → j < m → i ≠ j → fs i = true → fs j = true → ops[i]? = some p → ops[j]? = some q → p.dst = some d → q.dst = some e → ∀ b, blockOf (g d) = some b → ¬ blockOf (g e) = some b) → Agree ops m g0 g → wpl P ops (ops.toList.drop m) g w K) :
    ∀ (f : Nat) (listed : Array Bool) (a : Act) (g : Fr) (w : World), cnt listed m = f → HeadInv .any ops m listed → Agr n a g → Ext w0 w → (∀ i p d, i < m → listed.getD i false = true → ops[i]? = some p → p.dst = some d → R i (g d) w) → (∀ i j p q d e, i < m → j < m → i ≠ j → fs i = true → fs j = true → listed.getD i false = true → listed.getD j false = true → ops[i]? = some p → ops[j]? = some q → p.dst = some d → q.dst = some e → ∀ b, blockOf (g d) = some b → ¬ blockOf (g e) = some b) → Agree ops m g0 g →
    wpAny P .any ops (liftQ n (onNormal K)) (f + (ops.size - m)) listed a w := by
  simp only [relB, Bool.and_eq_true, decide_eq_true_eq] at hB
  obtain ⟨⟨⟨⟨hm, hs⟩, hc⟩, hb⟩, hdist⟩ := hB
  intro f
  induction f with
  | zero =>
    intro listed a g w hcnt inv ha hx hR hD hag
    have hall := cnt_zero hcnt
    rw [Nat.zero_add]
    exact tail_run hops hc hb _ m listed a g w rfl (Nat.le_refl _) (Nat.le_of_lt hm) inv.size hall (fun j h1 h2 => inv.tail j h1 h2) ha (hend g w hx (fun i p d hi ho hd => hR i p d hi (hall i hi) ho hd) (fun i j p q d e hi hj hne h1 h2 h3 h4 h5 h6 => hD i j p q d e hi hj hne h1 h2 (hall i hi) (hall j hj) h3 h4 h5 h6) hag)
  | succ f ih =>
    intro listed a g w hcnt inv ha hx hR hD hag
    obtain ⟨i0, hi0, hu0, hbelow⟩ := cnt_pos (by omega : 0 < cnt listed m)
    obtain ⟨o0, ho0⟩ : ∃ o, ops[i0]? = some o := ⟨ops[i0]'(by omega), by simp⟩
    have hr0 : i0 ∈ Region.ready .any ops listed := mem_ready.2 ⟨getD_in (by rw [inv.size]; omega) hu0, o0, ho0, fun e he _ => hbelow _ (back_spec hb ho0 e he)⟩
    rw [show f + 1 + (ops.size - m) = (f + (ops.size - m)) + 1 by omega]
    refine ⟨fun h0 => (by rw [h0] at hr0; cases hr0), fun i hi => ?_⟩
    have him : i < m := Nat.lt_of_not_le fun h => tail_waits hs hc hm inv _ i0 rfl hi0 (getD_in (by rw [inv.size]; omega) hu0) i h hi
    obtain ⟨hu, o, ho, hall⟩ := mem_ready.1 hi
    have his : i < listed.size := by rw [inv.size]; omega
    have hod : dstOk n o = true := hops o (by
      obtain ⟨hlt, rfl⟩ := Array.getElem?_eq_some_iff.1 ho
      simp)
    have hcnt' : cnt (listed.setIfInBounds i true) m = f := by
      have := (cnt_set his (getD_both hu) (m := m)).2 him
      omega
    have after : ∀ (v : Value) (w' : World) (a' : Act), Agr n a' (upo g o.dst v) → Ext w w' ∧ R i v w' ∧ (fs i = true → ∀ b, blockOf v = some b → w.heap.size ≤ b) → wpAny P .any ops (liftQ n (onNormal K)) (f + (ops.size - m)) (listed.setIfInBounds i true) a' w' := by
      rintro v w' a' ha' ⟨hx', hRi, hFi⟩
      refine ih _ a' (upo g o.dst v) w' hcnt' (inv.set hi him) ha' (hx.trans hx') (fun j p d hj hl hp hd => ?_) (fun j1 j2 p q d e hj1 hj2 hne hf1 hf2 hl1 hl2 hp hq hd he => ?_) (fun d hd => ?_)
      · by_cases e : i = j
        · subst e
          obtain rfl : o = p := Option.some.inj (ho.symm.trans hp)
          rw [hd]
          simpa [upo, up] using hRi
        · rw [getD_set_ne false e] at hl
          have h1 := hst _ _ _ _ (hR j p d hj hl hp hd) hx'
          cases hod' : o.dst with
          | none => simpa [upo] using h1
          | some d' =>
            have hne : ¬ d = d' := by
              rintro rfl
              exact e (dist_spec hdist him hj ho hp hod' hd)
            simpa [upo, up, hne] using h1
      · have other : ∀ j p d, j < m → ¬ i = j → ops[j]? = some p → p.dst = some d → upo g o.dst v d = g d := by
          intro j p d hj hne hp hd
          cases hod' : o.dst with
          | none => rfl
          | some d' =>
            have hne' : ¬ d = d' := by
              rintro rfl
              exact hne (dist_spec hdist him hj ho hp hod' hd)
            simp [upo, up, hne']
        have mine : ∀ p d, ops[i]? = some p → p.dst = some d → upo g o.dst v d = v := by
          intro p d hp hd
          obtain rfl : o = p := Option.some.inj (ho.symm.trans hp)
          rw [hd]
          simp [upo, up]
        intro b
        by_cases e1 : i = j1
        · subst e1
          rw [getD_set_ne false hne] at hl2
          rw [mine p d hp hd, other j2 q e hj2 hne hq he]
          intro h1 h2
          have h3 := hFi hf1 b h1
          have h4 := hlt j2 _ _ hf2 (hR j2 q e hj2 hl2 hq he) b h2
          omega
        · rw [getD_set_ne false e1] at hl1
          rw [other j1 p d hj1 e1 hp hd]
          by_cases e2 : i = j2
          · subst e2
            rw [mine q e hq he]
            intro h1 h2
            have h3 := hFi hf2 b h2
            have h4 := hlt j1 _ _ hf1 (hR j1 p d hj1 hl1 hp hd) b h1
            omega
          · rw [getD_set_ne false e2] at hl2
            rw [other j2 q e hj2 e2 hq he]
            exact hD j1 j2 p q d e hj1 hj2 hne hf1 hf2 hl1 hl2 hp hq hd he b
      · rw [← hag d hd]
        cases hod' : o.dst with
        | none => rfl
        | some d' =>
          have hne : ¬ d = d' := by
            rintro rfl
            exact hd i o him ho hod'
          simp [upo, up, hne]
    have step := hob i o him ho g w hx (fun e he hbd p d hp hd => hR e.on p d (by have := back_spec hb ho e he; omega) (hall e he hbd) hp hd) hag
    unfold wpOp
    simp only [ho]
    rw [wanted_eq ha ops hops o]
    cases hf : fs i with
    | false =>
      have step := step.1 hf
      have nf : ∀ v : Value, fs i = true → ∀ b, blockOf v = some b → w.heap.size ≤ b := fun v h => by rw [hf] at h; cases h
      unfold relStep at step
      split at step
      · rename_i hg
        rw [if_pos hg]
        exact .inl (Oper_wp_of_wp1 hod ha (opX_sound step) fun v w' a' ha' hk' => after v w' a' ha' ⟨hk'.1, hk'.2, nf v⟩)
      · rename_i hg
        rw [if_neg hg]
        exact after undef w _ (ha.put _ _ (dstOk_lt hod)) ⟨step.1, step.2, nf _⟩
    | true =>
      have step := step.2 hf
      unfold relStep at step
      split at step
      · rename_i hg
        rw [if_pos hg]
        exact .inl (Oper_wp_of_wp1 hod ha (opX_sound step) fun v w' a' ha' hk' => after v w' a' ha' ⟨hk'.1, hk'.2.1, fun _ => hk'.2.2⟩)
      · rename_i hg
        rw [if_neg hg]
        exact after undef w _ (ha.put _ _ (dstOk_lt hod)) ⟨step.1, step.2.1, fun _ => step.2.2⟩
theorem wpd_rel2 {id : Nat} {l : List Oper} {g0 : Fr} {w0 : World} (m : Nat) (R : Nat → Value → World → Prop) (fs : Nat → Bool) (hlt : ∀ i v w, fs i = true → R i v w → ∀ b, blockOf v = some b → b < w.heap.size) (hm : P.follows .mixedOrders = true) (hB : relB l.toArray m = true) (hd : l.all (dstOk n) = true) (hst : ∀ i v w w', R i v w → Ext w w' → R i v w')
    (hob : ∀ i o, i < m → l[i]? = some o → ∀ g w, Ext w0 w → (∀ e ∈ o.after, Region.binds .any e = true → ∀ p d, l[e.on]? = some p → p.dst = some d → R e.on (g d) w) → Agree l.toArray m g0 g → (fs i = false → relStep P l.toArray o g w fun v w' => Ext w w' ∧ R i v w') ∧ (fs i = true → relStep P l.toArray o g w fun v w' => Ext w w' ∧ R i v w' ∧ ∀ b, blockOf v = some b → w.heap.size ≤ b))
    (hend : ∀ g w, Ext w0 w → (∀ i p d, i < m → l[i]? = some p → p.dst = some d → R i (g d) w) → (∀ i j p q d e, i < m → j < m → i ≠ j → fs i = true → fs j = true → l[i]? = some p → l[j]? = some q → p.dst = some d → q.dst = some e → ∀ b, blockOf (g d) = some b → ¬ blockOf (g e) = some b) → Agree l.toArray m g0 g → wpl P l.toArray (l.drop m) g w K) : wpd P n id l.toArray g0 w0 K := by
  intro a ha
  rw [List.all_eq_true] at hd
  have hB' := hB
  simp only [relB, Bool.and_eq_true, decide_eq_true_eq] at hB'
  have hsz : m < l.length := by simpa using hB'.1.1.1.1
  refine wp_region_any hm ?_
  have hall : ∀ k, k ≤ m → cnt (Array.replicate l.toArray.size false) k = k := by
    intro k
    induction k with
    | zero => intro _; rfl
    | succ k ih => intro hk; simp only [cnt, ih (by omega), getD_replicate_false]; simp
  have H := head_run2 (P := P) (n := n) (K := K) (ops := l.toArray) (g0 := g0) (w0 := w0) (by simpa using hd) hB R fs hlt hst (by simpa using hob) (by simpa using hend) m (Array.replicate l.toArray.size false) a g0 { w0 with drawn := w0.drawn + 1 } (hall m (Nat.le_refl _))
    ⟨by simp, fun j oj _ hl => (by rw [getD_replicate_false] at hl; cases hl), fun t _ ht => getD_in (by simpa using ht) (getD_replicate_false _ _)⟩ ha (Ext.drawn w0 _) (fun i p d _ hl => (by rw [getD_replicate_false] at hl; cases hl)) (fun i j p q d e _ _ _ _ _ hl => (by rw [getD_replicate_false] at hl; cases hl)) (fun d _ => rfl)
  rw [show m + (l.toArray.size - m) = l.toArray.size by simp; omega] at H
  exact H
end
end Go.Proofs.Ytbfmabkdggllhaa
