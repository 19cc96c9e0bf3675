/- Regions whose order is drawn: looks, then one operation of whatever kind, then looks. -/
import Derived.Test.YtgickfllblmhpaaDoorAuto
import Derived.StillTail
namespace Go.Proofs.YtgickfllblmhpaaDoor
set_option linter.unusedSimpArgs false
set_option linter.unusedVariables false
open Go Go.RowKit
section
variable {P : Program} {ops : Array Oper} {md : Region.Mode} {w : World}
/-- Each operation behind n waits for one from n on. -/
def behindB (md : Region.Mode) (ops : Array Oper) (n : Nat) : Bool := (List.range ops.size).all fun t => decide (t ≤ n) || (List.range t).any fun s => decide (n ≤ s) && Region.waitsFor md ops t s
theorem none_behind {n : Nat} {listed : Array Bool} (hs : Region.sinkB md ops n = true) (hb : behindB md ops n = true) (hn : n < ops.size) (inv : HeadInv md ops n listed) {i : Nat} (hi : i < n) (hun : listed.getD i true = false) : ∀ t, n ≤ t → t ∉ Region.ready md ops listed := by
  -- the operation n itself: among the head's that are not listed take the last
  have first : n ∉ Region.ready md ops listed := by
    intro hr
    obtain ⟨_, on, hon, hall⟩ := mem_ready.1 hr
    have key : ∀ d i, n - i = d → i < n → listed.getD i true = false → False := by
      intro d
      induction d using Nat.strongRecOn with
      | _ d ih =>
        intro i hd hi hun
        obtain ⟨j, hj, hj2⟩ := List.any_eq_true.1 (List.all_eq_true.1 hs i (List.mem_range.2 hi))
        simp only [Bool.and_eq_true, decide_eq_true_eq] at hj2
        obtain ⟨oj, hoj, e, he, heb, hon'⟩ := Region.waitsFor_spec hj2.2
        have hjn := List.mem_range.1 hj
        by_cases e1 : j = n
        · subst e1
          obtain rfl : oj = on := Option.some.inj (hoj.symm.trans hon)
          have h2 := hall e he heb
          rw [hon', getD_both hun] at h2
          cases h2
        · cases hl : listed.getD j false with
          | true =>
            have h2 := inv.closed j oj hoj hl e he heb
            rw [hon', getD_both hun] at h2
            cases h2
          | false => exact ih (n - j) (by omega) j rfl (by omega) (getD_in (by rw [inv.size]; omega) hl)
    exact key _ i rfl hi hun
  intro t ht hr
  by_cases e1 : t = n
  · subst e1; exact first hr
  · obtain ⟨_, ot, hot, hall⟩ := mem_ready.1 hr
    have htl : t < ops.size := (Array.getElem?_eq_some_iff.1 hot).1
    have h1 := List.all_eq_true.1 hb t (List.mem_range.2 htl)
    simp only [Bool.or_eq_true, decide_eq_true_eq] at h1
    rcases h1 with h1 | h1
    · omega
    · obtain ⟨s, hs1, hs2⟩ := List.any_eq_true.1 h1
      simp only [Bool.and_eq_true, decide_eq_true_eq] at hs2
      obtain ⟨o', ho', e, he, heb, hon'⟩ := Region.waitsFor_spec hs2.2
      obtain rfl : o' = ot := Option.some.inj (ho'.symm.trans hot)
      have h2 := hall e he heb
      have hsl := List.mem_range.1 hs1
      rw [hon', getD_both (inv.tail s hs2.1 (by omega))] at h2
      cases h2
theorem head_first {n i : Nat} {oi : Oper} {v : Value} {L : Array Bool → Act → Prop} (hi : ops[i]? = some oi) (hsel : ∀ (j : Nat) (o : Oper) cs b, ops[j]? = some o → o.op ≠ .select cs b)
    (hs : Region.sinkB md ops n = true) (hb : behindB md ops n = true) (hn : n < ops.size) (hin : i < n) (hdone : ∀ listed a, L listed a → ∀ j ∈ Region.ready md ops listed, n ≤ j) :
    ∀ (f : Nat) (listed : Array Bool) (a : Act), HeadInv md ops n listed → (∀ j oj, ops[j]? = some oj → j ≠ i → listed.getD j true = false → (∀ e ∈ oj.after, Region.binds md e = true → e.on ≠ i) → oi.apart ops oj = true) →
      i ∈ Region.ready md ops listed → YieldsAt P ops w oi v a → wpAnyL P md ops w n L f (listed.setIfInBounds i true) (a.put oi.dst v) → wpAnyL P md ops w n L (f + 1) listed a := by
  intro f
  induction f with
  | zero =>
    intro listed a inv _ hr hy H
    have hun := (mem_ready.1 hr).1
    refine ⟨fun h => (by rw [h] at hr; cases hr), fun j hj => ?_⟩
    have hjn : j < n := Nat.lt_of_not_le fun h => none_behind hs hb hn inv hin hun j h hj
    refine ⟨hjn, ?_⟩
    by_cases hji : j = i
    · subst hji; exact hy.stOp hi H
    · exact absurd (hdone _ _ H j (ready_mono hj hji)) (by omega)
  | succ f ih =>
    intro listed a inv hfree hr hy H
    have hun := (mem_ready.1 hr).1
    refine ⟨fun h => (by rw [h] at hr; cases hr), fun j hj => ?_⟩
    have hjn : j < n := Nat.lt_of_not_le fun h => none_behind hs hb hn inv hin hun j h hj
    refine ⟨hjn, ?_⟩
    by_cases hji : j = i
    · subst hji; exact hy.stOp hi H
    · obtain ⟨hjun, oj, hoj, hall⟩ := mem_ready.1 hj
      have hnot : ∀ e ∈ oj.after, Region.binds md e = true → e.on ≠ i := fun e he heb heq => by
        have h1 := hall e he heb
        rw [heq, getD_both hun] at h1
        cases h1
      refine stOp_mono (fun a' h3 => ih (listed.setIfInBounds j true) a' (inv.set hj hjn) (fun k ok hk hki hkun hno => hfree k ok hk hki ?_ hno) (ready_mono hr (Ne.symm hji)) h3.1 ?_)
        (stOp_put hoj (hfree j oj hoj hji hjun hnot) (fun cs b => hsel i oi cs b hi) (fun cs b => hsel j oj cs b hoj) hy (H.2 j (ready_mono hj hji)).2)
      · by_cases hjk : j = k
        · subst hjk; exact hjun
        · rw [getD_set_ne true hjk] at hkun; exact hkun
      · rw [Array.setIfInBounds_comm _ _ hji]
        exact h3.2
/-- The head in the text's order; then R holds of what is listed. -/
def headLex (md : Region.Mode) (ops : Array Oper) (R : Array Bool → Bool) : Nat → Nat → Array Bool → Bool
  | 0, _, listed => R listed
  | f + 1, k, listed => (Region.ready md ops listed).contains k && Region.free md ops listed k && headLex md ops R f (k + 1) (listed.setIfInBounds k true)
theorem head_lex {n : Nat} {R : Array Bool → Bool} {Lq : Act → Prop} (hsel : Region.noSelect ops = true) (hs : Region.sinkB md ops n = true) (hb : behindB md ops n = true) (hn : n < ops.size) (hR : ∀ listed, R listed = true → ∀ j ∈ Region.ready md ops listed, n ≤ j) :
    ∀ (l : List Oper) (k : Nat) (listed : Array Bool) (a : Act), (∀ j, j < l.length → l[j]? = ops[k + j]?) → k + l.length = n → HeadInv md ops n listed → headLex md ops R l.length k listed = true → wpStill P ops w Lq l a →
    wpAnyL P md ops w n (fun listed' a' => R listed' = true ∧ Lq a') l.length listed a
  | [], k, listed, a, _, _, _, hB, h => ⟨hB, h⟩
  | o :: l, k, listed, a, hl, hk, inv, hB, h => by
    have h0 : ops[k]? = some o := by simpa using (hl 0 (by simp)).symm
    simp only [List.length_cons, headLex, Bool.and_eq_true] at hB
    obtain ⟨⟨hr, hf⟩, hB'⟩ := hB
    have hkn : k < n := by simp only [List.length_cons] at hk; omega
    have hr' : k ∈ Region.ready md ops listed := by simpa using hr
    have hst : stOp P ops w k (wpStill P ops w Lq l) a := by unfold stOp; simp only [h0]; exact h
    obtain ⟨v, hy, hK⟩ := yieldsAt_of_stOp h0 hst
    exact head_first h0 (Region.noSelect_spec hsel) hs hb hn hkn (fun listed' a' hL => hR _ hL.1) l.length listed a inv (Region.free_spec h0 hf) hr' hy
      (head_lex hsel hs hb hn hR l (k + 1) _ _ (fun j hj => by have := hl (j + 1) (by simp; omega); simpa [Nat.add_assoc, Nat.add_comm 1 j] using this) (by simp only [List.length_cons] at hk; omega) (inv.set hr' hkn) hB' hK)
/-- Behind the head: n alone is next, and then what is left in the text's order. -/
def midNext (md : Region.Mode) (ops : Array Oper) (n : Nat) (listed : Array Bool) : Bool := decide (Region.ready md ops listed = [n]) && Region.lexFrom md ops (ops.size - (n + 1)) (n + 1) (listed.setIfInBounds n true)
def midB (md : Region.Mode) (ops : Array Oper) (n : Nat) : Bool := Region.noSelect ops && decide (n < ops.size) && Region.sinkB md ops n && behindB md ops n && headLex md ops (midNext md ops n) n 0 (Array.replicate ops.size false)
/-- The head's operations alone come up, each quiet in the class. -/
def wpAnyC (P : Program) (md : Region.Mode) (ops : Array Oper) (C : World → Prop) (n : Nat) (L : Array Bool → Act → Prop) : Nat → Array Bool → Act → Prop
  | 0, listed, a => L listed a
  | f + 1, listed, a => Region.ready md ops listed ≠ [] ∧ ∀ i ∈ Region.ready md ops listed, i < n ∧ qOp P ops C i (wpAnyC P md ops C n L f (listed.setIfInBounds i true)) a
theorem qOp_mono' {C : World → Prop} {i : Nat} {a : Act} {K K' : Act → Prop} (h : ∀ a, K a → K' a) (hh : qOp P ops C i K a) : qOp P ops C i K' a := by
  unfold qOp at *
  split
  · rename_i ho; simp only [ho] at hh; exact h _ hh
  · rename_i o ho
    simp only [ho] at hh
    split
    · rename_i hw
      simp only [hw, if_true] at hh
      obtain ⟨v, h1, h2⟩ := hh
      exact ⟨v, h1, h _ h2⟩
    · rename_i hw; simp only [hw] at hh; exact h _ hh
theorem wpAny_of_chead {C : World → Prop} {n g : Nat} {L : Array Bool → Act → Prop} {Q' : Exit → Act → World → Prop} (hL : ∀ listed a w, C w → L listed a → wpAny P md ops Q' g listed a w) :
    ∀ (f : Nat) (listed : Array Bool) (a : Act) (w : World), C w → wpAnyC P md ops C n L f listed a → wpAny P md ops Q' (f + g) listed a w
  | 0, listed, a, w, hw, h => by rw [Nat.zero_add]; exact hL _ _ _ hw h
  | f + 1, listed, a, w, hw, h => by
    rw [show f + 1 + g = (f + g) + 1 by omega]
    exact ⟨fun h0 => absurd h0 h.1, fun i hi => wpOp_of_qOp hw (fun a' w' hw' h' => wpAny_of_chead hL f _ a' w' hw' h') (h.2 i hi).2⟩
theorem chead_first {C : World → Prop} {n i : Nat} {oi : Oper} {v : Value} {L : Array Bool → Act → Prop} (hi : ops[i]? = some oi) (hsel : ∀ (j : Nat) (o : Oper) cs b, ops[j]? = some o → o.op ≠ .select cs b)
    (hs : Region.sinkB md ops n = true) (hb : behindB md ops n = true) (hn : n < ops.size) (hin : i < n) (hdone : ∀ listed a, L listed a → ∀ j ∈ Region.ready md ops listed, n ≤ j) :
    ∀ (f : Nat) (listed : Array Bool) (a : Act), HeadInv md ops n listed → (∀ j oj, ops[j]? = some oj → j ≠ i → listed.getD j true = false → (∀ e ∈ oj.after, Region.binds md e = true → e.on ≠ i) → oi.apart ops oj = true) →
      i ∈ Region.ready md ops listed → YieldsIn P ops C oi v a → wpAnyC P md ops C n L f (listed.setIfInBounds i true) (a.put oi.dst v) → wpAnyC P md ops C n L (f + 1) listed a := by
  intro f
  induction f with
  | zero =>
    intro listed a inv _ hr hy H
    have hun := (mem_ready.1 hr).1
    refine ⟨fun h => (by rw [h] at hr; cases hr), fun j hj => ?_⟩
    have hjn : j < n := Nat.lt_of_not_le fun h => none_behind hs hb hn inv hin hun j h hj
    refine ⟨hjn, ?_⟩
    by_cases hji : j = i
    · subst hji; exact hy.qOp hi H
    · exact absurd (hdone _ _ H j (ready_mono hj hji)) (by omega)
  | succ f ih =>
    intro listed a inv hfree hr hy H
    have hun := (mem_ready.1 hr).1
    refine ⟨fun h => (by rw [h] at hr; cases hr), fun j hj => ?_⟩
    have hjn : j < n := Nat.lt_of_not_le fun h => none_behind hs hb hn inv hin hun j h hj
    refine ⟨hjn, ?_⟩
    by_cases hji : j = i
    · subst hji; exact hy.qOp hi H
    · obtain ⟨hjun, oj, hoj, hall⟩ := mem_ready.1 hj
      have hnot : ∀ e ∈ oj.after, Region.binds md e = true → e.on ≠ i := fun e he heb heq => by
        have h1 := hall e he heb
        rw [heq, getD_both hun] at h1
        cases h1
      refine qOp_mono' (fun a' h3 => ih (listed.setIfInBounds j true) a' (inv.set hj hjn) (fun k ok hk hki hkun hno => hfree k ok hk hki ?_ hno) (ready_mono hr (Ne.symm hji)) h3.1 ?_)
        (qOp_put hoj (hfree j oj hoj hji hjun hnot) (fun cs b => hsel i oi cs b hi) (fun cs b => hsel j oj cs b hoj) hy (H.2 j (ready_mono hj hji)).2)
      · by_cases hjk : j = k
        · subst hjk; exact hjun
        · rw [getD_set_ne true hjk] at hkun; exact hkun
      · rw [Array.setIfInBounds_comm _ _ hji]
        exact h3.2
theorem chead_lex {C : World → Prop} {n : Nat} {R : Array Bool → Bool} {Lq : Act → Prop} (hsel : Region.noSelect ops = true) (hs : Region.sinkB md ops n = true) (hb : behindB md ops n = true) (hn : n < ops.size) (hR : ∀ listed, R listed = true → ∀ j ∈ Region.ready md ops listed, n ≤ j) :
    ∀ (l : List Oper) (k : Nat) (listed : Array Bool) (a : Act), (∀ j, j < l.length → l[j]? = ops[k + j]?) → k + l.length = n → HeadInv md ops n listed → headLex md ops R l.length k listed = true → wpQuiet P ops C Lq l a →
    wpAnyC P md ops C n (fun listed' a' => R listed' = true ∧ Lq a') l.length listed a
  | [], k, listed, a, _, _, _, hB, h => ⟨hB, h⟩
  | o :: l, k, listed, a, hl, hk, inv, hB, h => by
    have h0 : ops[k]? = some o := by simpa using (hl 0 (by simp)).symm
    simp only [List.length_cons, headLex, Bool.and_eq_true] at hB
    obtain ⟨⟨hr, hf⟩, hB'⟩ := hB
    have hkn : k < n := by simp only [List.length_cons] at hk; omega
    have hr' : k ∈ Region.ready md ops listed := by simpa using hr
    have hst : qOp P ops C k (wpQuiet P ops C Lq l) a := by unfold qOp; simp only [h0]; exact h
    obtain ⟨v, hy, hK⟩ := yieldsIn_of_qOp h0 hst
    exact chead_first h0 (Region.noSelect_spec hsel) hs hb hn hkn (fun listed' a' hL => hR _ hL.1) l.length listed a inv (Region.free_spec h0 hf) hr' hy
      (chead_lex hsel hs hb hn hR l (k + 1) _ _ (fun j hj => by have := hl (j + 1) (by simp; omega); simpa [Nat.add_assoc, Nat.add_comm 1 j] using this) (by simp only [List.length_cons] at hk; omega) (inv.set hr' hkn) hB' hK)
end
section
variable {P : Program} {w : World}
/-- One operation, and what follows in each world. -/
def midOp (P : Program) (ops : Array Oper) (o : Oper) (g : Fr) (w : World) (K : Fr → World → Prop) : Prop := if guardOn ops g o then opX P o.op o.type g w fun v w' => K (upo g o.dst v) w' else K (upo g o.dst undef) w
theorem wpd_mid {n id m : Nat} {l : List Oper} {o : Oper} {g : Fr} {K : Fr → World → Prop} (hm : P.follows .mixedOrders = true) (hB : midB .any l.toArray m = true) (hd : l.all (dstOk n) = true) (ho : l[m]? = some o)
    (h : wq P false l.toArray (l.take m) g w fun g' w => ∀ w', Ext w w' → w'.heap = w.heap → midOp P l.toArray o g' w' fun g'' w'' => wq P true l.toArray (l.drop (m + 1)) g'' w'' fun g3 w3 => ∀ w4, Ext w3 w4 → K g3 w4) : wpd P n id l.toArray g w K := by
  intro a ha
  rw [List.all_eq_true] at hd
  simp only [midB, Bool.and_eq_true, decide_eq_true_eq] at hB
  obtain ⟨⟨⟨⟨hsel, hn⟩, hs⟩, hb⟩, hlex⟩ := hB
  have hn' : m < l.length := by simpa using hn
  have htl : (l.take m).length = m := by simp; omega
  have inv0 : HeadInv .any l.toArray m (Array.replicate l.toArray.size false) :=
    ⟨by simp, fun j oj _ hl => (by rw [getD_replicate_false] at hl; cases hl), fun t _ ht => getD_in (by simpa using ht) (getD_replicate_false _ _)⟩
  have hops : ∀ o ∈ l.toArray.toList, dstOk n o = true := by simpa using hd
  generalize hw0 : { w with drawn := w.drawn + 1 } = w0
  have hx0 : Ext w w0 := by rw [← hw0]; exact Ext.drawn w _
  have hh0 : w0.heap = w.heap := by rw [← hw0]
  have hSt := wpStill_of_wq (P := P) (w := w) (w' := w0) hx0 hops (Q := fun a' => ∃ g', Agr n a' g' ∧ midOp P l.toArray o g' w0 fun g'' w'' => wq P true l.toArray (l.drop (m + 1)) g'' w'' fun g3 w3 => ∀ w4, Ext w3 w4 → K g3 w4) (l.take m) g a _
    (fun o ho => hd o (List.mem_of_mem_take ho)) ha h (fun a' g' ha' hk => ⟨g', ha', hk w0 hx0 hh0⟩)
  have H := head_lex (md := .any) (R := midNext .any l.toArray m) hsel hs hb hn (fun listed hR j hj => by
    simp only [midNext, Bool.and_eq_true, decide_eq_true_eq] at hR
    rw [hR.1] at hj
    have : j = m := by simpa using hj
    omega) (l.take m) 0 _ a (fun j hj => by
      have hj' : j < m := by rw [htl] at hj; exact hj
      simp [hj']) (by simpa using htl) inv0 (by rw [htl]; exact hlex) hSt
  refine wp_region_any hm ?_
  rw [hw0]
  have := wpAny_of_head (Q' := liftQ n (onNormal K)) (g := l.toArray.size - m) (fun listed a' hL => ?_) _ _ _ H
  · rw [htl, show m + (l.toArray.size - m) = l.toArray.size by omega] at this
    exact this
  · obtain ⟨hR, g', ha', hmid⟩ := hL
    simp only [midNext, Bool.and_eq_true, decide_eq_true_eq] at hR
    rw [show l.toArray.size - m = (l.toArray.size - (m + 1)) + 1 by omega]
    refine ⟨fun h0 => (by rw [hR.1] at h0; cases h0), fun i hi => ?_⟩
    rw [hR.1] at hi
    obtain rfl : i = m := by simpa using hi
    have hoi : l.toArray[i]? = some o := by simpa using ho
    have hod : dstOk n o = true := hd o (List.mem_of_getElem? ho)
    -- what follows in each world
    have after : ∀ (g'' : Fr) (w'' : World) (a'' : Act), Agr n a'' g'' → (wq P true l.toArray (l.drop (i + 1)) g'' w'' fun g3 w3 => ∀ w4, Ext w3 w4 → K g3 w4) → wpAny P .any l.toArray (liftQ n (onNormal K)) (l.toArray.size - (i + 1)) (listed.setIfInBounds i true) a'' w'' := by
      intro g'' w'' a'' ha'' hwq
      have hq := wpQuiet_of_wq (P := P) (w := w'') hops (Q := fun a3 => ∀ w4, Ext w'' w4 → liftQ n (onNormal K) .normal a3 w4) (l.drop (i + 1)) g'' a'' _ (fun o ho => hd o (List.mem_of_mem_drop ho)) ha'' hwq (fun a3 g3 ha3 hk w4 hx4 => ⟨g3, ha3, hk w4 hx4⟩)
      refine wpAny_of_quiet (C := Ext w'') (Q := fun a3 => ∀ w4, Ext w'' w4 → liftQ n (onNormal K) .normal a3 w4) (fun a3 w4 hx4 hk => hk w4 hx4) _ _ _ _ (Ext.refl w'') ?_
      have hlen : (l.drop (i + 1)).length = l.toArray.size - (i + 1) := by simp
      have := wpAnyQ_lex (C := Ext w'') (md := .any) hsel (l.drop (i + 1)) (i + 1) (listed.setIfInBounds i true) a'' (fun j => by simp [List.getElem?_drop]) (by rw [hlen]; exact hR.2) hq
      rwa [hlen] at this
    unfold wpOp
    simp only [hoi]
    rw [wanted_eq ha' l.toArray hops o]
    unfold midOp at hmid
    split at hmid
    · rename_i hg
      rw [if_pos hg]
      exact .inl (Oper_wp_of_wp1 hod ha' (opX_sound hmid) fun v w'' a'' ha'' hk => after _ _ _ ha'' hk)
    · rename_i hg
      rw [if_neg hg]
      exact after _ _ _ (ha'.put _ _ (dstOk_lt hod)) hmid
theorem wpd_cmid {n id m : Nat} {l : List Oper} {o : Oper} {g : Fr} {K : Fr → World → Prop} (hm : P.follows .mixedOrders = true) (hB : midB .any l.toArray m = true) (hd : l.all (dstOk n) = true) (ho : l[m]? = some o)
    (h : wq P true l.toArray (l.take m) g w fun g' w => ∀ w', Ext w w' → midOp P l.toArray o g' w' fun g'' w'' => wq P true l.toArray (l.drop (m + 1)) g'' w'' fun g3 w3 => ∀ w4, Ext w3 w4 → K g3 w4) : wpd P n id l.toArray g w K := by
  intro a ha
  rw [List.all_eq_true] at hd
  simp only [midB, Bool.and_eq_true, decide_eq_true_eq] at hB
  obtain ⟨⟨⟨⟨hsel, hn⟩, hs⟩, hb⟩, hlex⟩ := hB
  have hn' : m < l.length := by simpa using hn
  have htl : (l.take m).length = m := by simp; omega
  have inv0 : HeadInv .any l.toArray m (Array.replicate l.toArray.size false) :=
    ⟨by simp, fun j oj _ hl => (by rw [getD_replicate_false] at hl; cases hl), fun t _ ht => getD_in (by simpa using ht) (getD_replicate_false _ _)⟩
  have hops : ∀ o ∈ l.toArray.toList, dstOk n o = true := by simpa using hd
  have hSt := wpQuiet_of_wq (P := P) (w := w) hops (Q := fun a' => ∃ g', Agr n a' g' ∧ ∀ w', Ext w w' → midOp P l.toArray o g' w' fun g'' w'' => wq P true l.toArray (l.drop (m + 1)) g'' w'' fun g3 w3 => ∀ w4, Ext w3 w4 → K g3 w4) (l.take m) g a _
    (fun o ho => hd o (List.mem_of_mem_take ho)) ha h (fun a' g' ha' hk => ⟨g', ha', hk⟩)
  have H := chead_lex (C := Ext w) (md := .any) (R := midNext .any l.toArray m) hsel hs hb hn (fun listed hR j hj => by
    simp only [midNext, Bool.and_eq_true, decide_eq_true_eq] at hR
    rw [hR.1] at hj
    have : j = m := by simpa using hj
    omega) (l.take m) 0 _ a (fun j hj => by
      have hj' : j < m := by rw [htl] at hj; exact hj
      simp [hj']) (by simpa using htl) inv0 (by rw [htl]; exact hlex) hSt
  refine wp_region_any hm ?_
  have := wpAny_of_chead (Q' := liftQ n (onNormal K)) (g := l.toArray.size - m) (fun listed a' w0 hw0 hL => ?_) _ _ _ { w with drawn := w.drawn + 1 } (Ext.drawn w _) H
  · rw [htl, show m + (l.toArray.size - m) = l.toArray.size by omega] at this
    exact this
  · obtain ⟨hR, g', ha', hmid'⟩ := hL
    have hmid := hmid' w0 hw0
    simp only [midNext, Bool.and_eq_true, decide_eq_true_eq] at hR
    rw [show l.toArray.size - m = (l.toArray.size - (m + 1)) + 1 by omega]
    refine ⟨fun h0 => (by rw [hR.1] at h0; cases h0), fun i hi => ?_⟩
    rw [hR.1] at hi
    obtain rfl : i = m := by simpa using hi
    have hoi : l.toArray[i]? = some o := by simpa using ho
    have hod : dstOk n o = true := hd o (List.mem_of_getElem? ho)
    -- what follows in each world
    have after : ∀ (g'' : Fr) (w'' : World) (a'' : Act), Agr n a'' g'' → (wq P true l.toArray (l.drop (i + 1)) g'' w'' fun g3 w3 => ∀ w4, Ext w3 w4 → K g3 w4) → wpAny P .any l.toArray (liftQ n (onNormal K)) (l.toArray.size - (i + 1)) (listed.setIfInBounds i true) a'' w'' := by
      intro g'' w'' a'' ha'' hwq
      have hq := wpQuiet_of_wq (P := P) (w := w'') hops (Q := fun a3 => ∀ w4, Ext w'' w4 → liftQ n (onNormal K) .normal a3 w4) (l.drop (i + 1)) g'' a'' _ (fun o ho => hd o (List.mem_of_mem_drop ho)) ha'' hwq (fun a3 g3 ha3 hk w4 hx4 => ⟨g3, ha3, hk w4 hx4⟩)
      refine wpAny_of_quiet (C := Ext w'') (Q := fun a3 => ∀ w4, Ext w'' w4 → liftQ n (onNormal K) .normal a3 w4) (fun a3 w4 hx4 hk => hk w4 hx4) _ _ _ _ (Ext.refl w'') ?_
      have hlen : (l.drop (i + 1)).length = l.toArray.size - (i + 1) := by simp
      have := wpAnyQ_lex (C := Ext w'') (md := .any) hsel (l.drop (i + 1)) (i + 1) (listed.setIfInBounds i true) a'' (fun j => by simp [List.getElem?_drop]) (by rw [hlen]; exact hR.2) hq
      rwa [hlen] at this
    unfold wpOp
    simp only [hoi]
    rw [wanted_eq ha' l.toArray hops o]
    unfold midOp at hmid
    split at hmid
    · rename_i hg
      rw [if_pos hg]
      exact .inl (Oper_wp_of_wp1 hod ha' (opX_sound hmid) fun v w'' a'' ha'' hk => after _ _ _ ha'' hk)
    · rename_i hg
      rw [if_neg hg]
      exact after _ _ _ (ha'.put _ _ (dstOk_lt hod)) hmid
theorem mid_none {ops : Array Oper} {d : Option Tmp} {op : Op} {ty : TypeId} {pos : String} {af : Array Edge} {g : Fr} {K : Fr → World → Prop} :
    midOp P ops ⟨d, op, ty, pos, af, none⟩ g w K = opX P op ty g w fun v w' => K (upo g d v) w' := by simp [midOp, guardOn]
theorem mid_some {ops : Array Oper} {d : Option Tmp} {op : Op} {ty : TypeId} {pos : String} {af : Array Edge} {j : Nat} {want : Bool} {g : Fr} {K : Fr → World → Prop} :
    midOp P ops ⟨d, op, ty, pos, af, some (j, want)⟩ g w K = guardX (guardTmp ops j) g want w (fun w => opX P op ty g w fun v w' => K (upo g d v) w') (fun w => K (upo g d undef) w) := by
  have h : guardOn ops g ⟨d, op, ty, pos, af, some (j, want)⟩ = gOn (guardTmp ops j) g want := rfl
  unfold midOp
  rw [h]
  generalize guardTmp ops j = x
  cases x with
  | none => rfl
  | some t => simp [gOn, guardX]
end
end Go.Proofs.YtgickfllblmhpaaDoor
