
/- Regions of drawn order whose last operations are listed in each order that the edges leave open. -/
import Derived.Test.YtcdeeoakoljlpaaGreatRel3
namespace Go.Proofs.YtcdeeoakoljlpaaGreat
set_option linter.unusedSimpArgs false
set_option linter.unusedVariables false
open Go Go.RowKit
set_option linter.unusedSectionVars false
/-- From i, over what it waits for: is j reached? -/
def reachB (ops : Array Oper) : Nat → Nat → Nat → Bool
  | 0, _, _ => false
  | f + 1, i, j => match ops[i]? with
    | some o => o.after.any fun e => Region.binds .any e && (e.on == j || reachB ops f e.on j)
    | none => false
def coverB (ops : Array Oper) (m : Nat) : Bool := (List.range ops.size).all fun t => decide (t < m) || (List.range m).all fun i => reachB ops 7 t i
def relAB (ops : Array Oper) (m : Nat) : Bool := decide (m < ops.size) && coverB ops m && backB ops && distB ops m
theorem reach_listed {ops : Array Oper} {listed : Array Bool} (hc : ∀ j oj, ops[j]? = some oj → listed.getD j false = true → ∀ e ∈ oj.after, Region.binds .any e = true → listed.getD e.on false = true) :
    ∀ (f i j : Nat), (∀ o, ops[i]? = some o → ∀ e ∈ o.after, Region.binds .any e = true → listed.getD e.on false = true) → reachB ops f i j = true → listed.getD j false = true
  | 0, _, _, _, h => by cases h
  | f + 1, i, j, hi, h => by
    unfold reachB at h
    split at h
    · rename_i o ho
      obtain ⟨k, hk, hq⟩ := Array.any_eq_true.1 h
      simp only [Bool.and_eq_true, Bool.or_eq_true, beq_iff_eq] at hq
      have hl := hi o ho _ (Array.getElem_mem hk) hq.1
      rcases hq.2 with e | hr
      · rw [← e]; exact hl
      · exact reach_listed hc f _ j (fun o' ho' e he hb => hc _ o' ho' hl e he hb) hr
    · cases h
section
variable {P : Program} {n m : Nat} {ops : Array Oper} {K : Fr → World → Prop}
/-- The rest of a region, some of it listed. -/
def anyX (P : Program) (n : Nat) (ops : Array Oper) (listed : Array Bool) (f : Nat) (g : Fr) (w : World) (K : Fr → World → Prop) : Prop := ∀ a, Agr n a g → wpAny P .any ops (liftQ n (onNormal K)) f listed a w
theorem anyX_end {listed : Array Bool} {g : Fr} {w : World} (hr : Region.ready .any ops listed = []) (h : K g w) : anyX P n ops listed 0 g w K := fun _ ha => ⟨hr, g, ha, h⟩
theorem anyX_step {l : List Oper} {listed : Array Bool} {f : Nat} {g : Fr} {w : World} (hd : l.all (dstOk n) = true) (r : List Nat) (hr : Region.ready .any l.toArray listed = r) (hne : r ≠ []) (h : ∀ i ∈ r, ∀ o, l[i]? = some o → relStep P l.toArray o g w fun v w' => anyX P n l.toArray (listed.setIfInBounds i true) f (upo g o.dst v) w' K) : anyX P n l.toArray listed (f + 1) g w K := by
  intro a ha
  rw [List.all_eq_true] at hd
  refine ⟨fun h0 => absurd (hr.symm.trans h0) hne, fun i hi => ?_⟩
  obtain ⟨_, o, ho, _⟩ := mem_ready.1 hi
  have hod : dstOk n o = true := hd o (by
    obtain ⟨hlt, rfl⟩ := Array.getElem?_eq_some_iff.1 ho
    simp)
  rw [hr] at hi
  have step := h i hi o (by simpa using ho)
  unfold wpOp
  simp only [ho]
  rw [wanted_eq ha l.toArray (by simpa using hd) o]
  unfold relStep at step
  split at step
  · rename_i hg
    rw [if_pos hg]
    exact .inl (Oper_wp_of_wp1 hod ha (opX_sound step) fun v w' a' ha' hk' => hk' a' ha')
  · rename_i hg
    rw [if_neg hg]
    exact step _ (ha.put _ _ (dstOk_lt hod))
theorem anyX_one {l : List Oper} {listed : Array Bool} {f i : Nat} {o : Oper} {g : Fr} {w : World} (hd : l.all (dstOk n) = true) (hr : Region.ready .any l.toArray listed = [i]) (ho : l[i]? = some o)
    (h : relStep P l.toArray o g w fun v w' => anyX P n l.toArray (listed.setIfInBounds i true) f (upo g o.dst v) w' K) : anyX P n l.toArray listed (f + 1) g w K :=
  anyX_step hd [i] hr (by simp) fun j hj p hp => by
    obtain rfl : j = i := by simpa using hj
    obtain rfl := Option.some.inj (ho.symm.trans hp)
    exact h
theorem anyX_two {l : List Oper} {listed : Array Bool} {f i j : Nat} {o p : Oper} {g : Fr} {w : World} (hd : l.all (dstOk n) = true) (hr : Region.ready .any l.toArray listed = [i, j]) (ho : l[i]? = some o) (hp : l[j]? = some p)
    (h : relStep P l.toArray o g w fun v w' => anyX P n l.toArray (listed.setIfInBounds i true) f (upo g o.dst v) w' K) (h' : relStep P l.toArray p g w fun v w' => anyX P n l.toArray (listed.setIfInBounds j true) f (upo g p.dst v) w' K) : anyX P n l.toArray listed (f + 1) g w K :=
  anyX_step hd [i, j] hr (by simp) fun k hk q hq => by
    simp only [List.mem_cons, List.not_mem_nil, or_false] at hk
    rcases hk with rfl | rfl
    · obtain rfl := Option.some.inj (ho.symm.trans hq)
      exact h
    · obtain rfl := Option.some.inj (hp.symm.trans hq)
      exact h'
def firstB (s m : Nat) : Array Bool := ((List.range s).map fun j => decide (j < m)).toArray
theorem head_runA (hops : ∀ o ∈ ops.toList, dstOk n o = true) (hB : relAB ops m = true) {g0 : Fr} {w0 : World} (R : Nat → Value → World → Prop) (hst : ∀ i v w w', R i v w → Ext w w' → R i v w')
    (hob : ∀ i o, i < m → ops[i]? = some o → ∀ g w, Ext w0 w → (∀ e ∈ o.after, Region.binds .any e = true → ∀ p d, ops[e.on]? = some p → p.dst = some d → R e.on (g d) w) → Agree ops m g0 g → relStep P ops o g w fun v w' => Ext w w' ∧ R i v w')
    (hend : ∀ g w, Ext w0 w → (∀ i p d, i < m → ops[i]? = some p → p.dst = some d → R i (g d) w) → Agree ops m g0 g → anyX P n ops (firstB ops.size m) (ops.size - m) g w K) :
    ∀ (f : Nat) (listed : Array Bool) (a : Act) (g : Fr) (w : World), cnt listed m = f → HeadInv .any ops m listed → Agr n a g → Ext w0 w → (∀ i p d, i < m → listed.getD i false = true → ops[i]? = some p → p.dst = some d → R i (g d) w) → Agree ops m g0 g →
    wpAny P .any ops (liftQ n (onNormal K)) (f + (ops.size - m)) listed a w := by
  simp only [relAB, Bool.and_eq_true, decide_eq_true_eq] at hB
  obtain ⟨⟨⟨hm, hcov⟩, hb⟩, hdist⟩ := hB
  intro f
  induction f with
  | zero =>
    intro listed a g w hcnt inv ha hx hR hag
    have hall := cnt_zero hcnt
    have he : listed = firstB ops.size m := by
      apply Array.ext
      · rw [inv.size]; simp [firstB]
      · intro j h1 h2
        have h3 : (firstB ops.size m)[j] = decide (j < m) := by simp [firstB]
        rw [h3]
        by_cases hj : j < m
        · have := hall j hj
          simp only [hj, decide_true]
          simpa [h1] using this
        · have := inv.tail j (by omega) (by rw [← inv.size]; exact h1)
          simp only [hj, decide_false]
          simpa [h1] using this
    rw [Nat.zero_add, he]
    exact hend g w hx (fun i p d hi ho hd => hR i p d hi (hall i hi) ho hd) hag a ha
  | succ f ih =>
    intro listed a g w hcnt inv ha hx hR hag
    obtain ⟨i0, hi0, hu0, hbelow⟩ := cnt_pos (by omega : 0 < cnt listed m)
    obtain ⟨o0, ho0⟩ : ∃ o, ops[i0]? = some o := ⟨ops[i0]'(by omega), by simp⟩
    have hr0 : i0 ∈ Region.ready .any ops listed := mem_ready.2 ⟨getD_in (by rw [inv.size]; omega) hu0, o0, ho0, fun e he hbd => hbelow _ (back_spec hb ho0 e he hbd)⟩
    rw [show f + 1 + (ops.size - m) = (f + (ops.size - m)) + 1 by omega]
    refine ⟨fun h0 => (by rw [h0] at hr0; cases hr0), fun i hi => ?_⟩
    obtain ⟨hu, o, ho, hall⟩ := mem_ready.1 hi
    have him : i < m := Nat.lt_of_not_le fun h => by
      have h1 := List.all_eq_true.1 hcov i (List.mem_range.2 (Array.getElem?_eq_some_iff.1 ho).1)
      rw [decide_eq_false (by omega), Bool.false_or] at h1
      have h2 := List.all_eq_true.1 h1 i0 (List.mem_range.2 hi0)
      have h3 := reach_listed inv.closed 7 i i0 (fun o' ho' e he hbd => by
        obtain rfl := Option.some.inj (ho.symm.trans ho')
        exact hall e he hbd) h2
      rw [h3] at hu0
      cases hu0
    have his : i < listed.size := by rw [inv.size]; omega
    have hod : dstOk n o = true := hops o (by
      obtain ⟨hlt, rfl⟩ := Array.getElem?_eq_some_iff.1 ho
      simp)
    have hcnt' : cnt (listed.setIfInBounds i true) m = f := by
      have := (cnt_set his (getD_both hu) (m := m)).2 him
      omega
    have after : ∀ (v : Value) (w' : World) (a' : Act), Agr n a' (upo g o.dst v) → Ext w w' ∧ R i v w' → wpAny P .any ops (liftQ n (onNormal K)) (f + (ops.size - m)) (listed.setIfInBounds i true) a' w' := by
      rintro v w' a' ha' ⟨hx', hRi⟩
      refine ih _ a' (upo g o.dst v) w' hcnt' (inv.set hi him) ha' (hx.trans hx') (fun j p d hj hl hp hd => ?_) (fun d hd => ?_)
      · by_cases e : i = j
        · subst e
          obtain rfl : o = p := Option.some.inj (ho.symm.trans hp)
          rw [hd]
          simpa [upo, up] using hRi
        · rw [getD_set_ne false e] at hl
          have h1 := hst _ _ _ _ (hR j p d hj hl hp hd) hx'
          cases hod' : o.dst with
          | none => simpa [upo] using h1
          | some d' =>
            have hne : ¬ d = d' := by
              rintro rfl
              exact e (dist_spec hdist him hj ho hp hod' hd)
            simpa [upo, up, hne] using h1
      · rw [← hag d hd]
        cases hod' : o.dst with
        | none => rfl
        | some d' =>
          have hne : ¬ d = d' := by
            rintro rfl
            exact hd i o him ho hod'
          simp [upo, up, hne]
    have step := hob i o him ho g w hx (fun e he hbd p d hp hd => hR e.on p d (by have := back_spec hb ho e he hbd; omega) (hall e he hbd) hp hd) hag
    unfold wpOp
    simp only [ho]
    rw [wanted_eq ha ops hops o]
    unfold relStep at step
    split at step
    · rename_i hg
      rw [if_pos hg]
      exact .inl (Oper_wp_of_wp1 hod ha (opX_sound step) fun v w' a' ha' hk' => after v w' a' ha' hk')
    · rename_i hg
      rw [if_neg hg]
      exact after undef w _ (ha.put _ _ (dstOk_lt hod)) step
theorem wpd_relA {id : Nat} {l : List Oper} {g0 : Fr} {w0 : World} (m : Nat) (R : Nat → Value → World → Prop) (hm : P.follows .mixedOrders = true) (hB : relAB l.toArray m = true) (hd : l.all (dstOk n) = true) (hst : ∀ i v w w', R i v w → Ext w w' → R i v w')
    (hob : ∀ i o, i < m → l[i]? = some o → ∀ g w, Ext w0 w → (∀ e ∈ o.after, Region.binds .any e = true → ∀ p d, l[e.on]? = some p → p.dst = some d → R e.on (g d) w) → Agree l.toArray m g0 g → relStep P l.toArray o g w fun v w' => Ext w w' ∧ R i v w')
    (hend : ∀ g w, Ext w0 w → (∀ i p d, i < m → l[i]? = some p → p.dst = some d → R i (g d) w) → Agree l.toArray m g0 g → anyX P n l.toArray (firstB l.toArray.size m) (l.toArray.size - m) g w K) : wpd P n id l.toArray g0 w0 K := by
  intro a ha
  have hd0 := hd
  rw [List.all_eq_true] at hd
  have hB' := hB
  simp only [relAB, Bool.and_eq_true, decide_eq_true_eq] at hB'
  have hsz : m < l.length := by simpa using hB'.1.1.1
  refine wp_region_any hm ?_
  have hall : ∀ k, k ≤ m → cnt (Array.replicate l.toArray.size false) k = k := by
    intro k
    induction k with
    | zero => intro _; rfl
    | succ k ih => intro hk; simp only [cnt, ih (by omega), getD_replicate_false]; simp
  have H := head_runA (P := P) (n := n) (K := K) (ops := l.toArray) (g0 := g0) (w0 := w0) (by simpa using hd) hB R hst (by simpa using hob) (by simpa using hend) m (Array.replicate l.toArray.size false) a g0 { w0 with drawn := w0.drawn + 1 } (hall m (Nat.le_refl _))
    ⟨by simp, fun j oj _ hl => (by rw [getD_replicate_false] at hl; cases hl), fun t _ ht => getD_in (by simpa using ht) (getD_replicate_false _ _)⟩ ha (Ext.drawn w0 _) (fun i p d _ hl => (by rw [getD_replicate_false] at hl; cases hl)) (fun d _ => rfl)
  rw [show m + (l.toArray.size - m) = l.toArray.size by simp; omega] at H
  exact H
end
end Go.Proofs.YtcdeeoakoljlpaaGreat
