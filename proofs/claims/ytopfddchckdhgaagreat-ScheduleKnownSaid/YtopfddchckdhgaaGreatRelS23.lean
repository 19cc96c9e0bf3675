
/- Regions of drawn order with stores into blocks that the region itself allocates: each operation's yield told by a relation, with a mark whether its block is filled. -/
import Derived.Test.YtopfddchckdhgaaGreatRelT
namespace Go.Proofs.YtopfddchckdhgaaGreat
set_option linter.unusedSimpArgs false
set_option linter.unusedVariables false
open Go Go.RowKit
set_option linter.unusedSectionVars false
set_option maxRecDepth 100000
/-- SL: pairs (store, the alloc whose block it fills). -/
def alL : List (Nat × Nat) → Nat → Option Nat
  | [], _ => none
  | (j, a) :: r, i => if i = j then some a else alL r i
def stL : List (Nat × Nat) → Nat → Option Nat
  | [], _ => none
  | (j, a) :: r, i => if i = a then some j else stL r i
def stoB (ops : Array Oper) (m : Nat) (SL : List (Nat × Nat)) : Bool := SL.all fun x => decide (x.1 < m) && decide (stL SL x.2 = some x.1) && decide (alL SL x.1 = some x.2) && match ops[x.1]?, ops[x.2]? with
  | some o, some p => o.dst.isNone && p.dst.isSome && o.after.any fun e => Region.binds .any e && decide (e.on = x.2)
  | _, _ => false
theorem alL_mem : ∀ {SL : List (Nat × Nat)} {i a : Nat}, alL SL i = some a → (i, a) ∈ SL
  | [], _, _, h => by cases h
  | (j, c) :: r, i, a, h => by
    unfold alL at h
    split at h
    · obtain rfl := Option.some.inj h; subst_vars; exact List.mem_cons_self ..
    · exact List.mem_cons_of_mem _ (alL_mem h)
theorem stL_mem : ∀ {SL : List (Nat × Nat)} {a j : Nat}, stL SL a = some j → (j, a) ∈ SL
  | [], _, _, h => by cases h
  | (k, c) :: r, a, j, h => by
    unfold stL at h
    split at h
    · obtain rfl := Option.some.inj h; subst_vars; exact List.mem_cons_self ..
    · exact List.mem_cons_of_mem _ (stL_mem h)
theorem sto_spec {ops : Array Oper} {m : Nat} {SL : List (Nat × Nat)} (h : stoB ops m SL = true) {j a : Nat} (hm : (j, a) ∈ SL) : j < m ∧ stL SL a = some j ∧ alL SL j = some a ∧ ∃ o p d e, ops[j]? = some o ∧ ops[a]? = some p ∧ o.dst = none ∧ p.dst = some d ∧ e ∈ o.after ∧ Region.binds .any e = true ∧ e.on = a := by
  have h1 := List.all_eq_true.1 h _ hm
  simp only [Bool.and_eq_true, decide_eq_true_eq] at h1
  obtain ⟨⟨⟨h2, h3⟩, h4⟩, h5⟩ := h1
  refine ⟨h2, h3, h4, ?_⟩
  split at h5
  · rename_i o p ho hp
    simp only [Bool.and_eq_true, Option.isNone_iff_eq_none, Option.isSome_iff_exists] at h5
    obtain ⟨⟨h6, d, h7⟩, h8⟩ := h5
    obtain ⟨e, he, h9⟩ := Array.any_eq_true'.1 h8
    simp only [Bool.and_eq_true, decide_eq_true_eq] at h9
    exact ⟨o, p, d, e, ho, hp, h6, h7, he, h9.1, h9.2⟩
  · cases h5
def stbL (SL : List (Nat × Nat)) (listed : Array Bool) (i : Nat) : Bool := match stL SL i with
  | some j => listed.getD j false
  | none => false
section
variable {P : Program} {n m : Nat} {ops : Array Oper} {K : Fr → World → Prop}
theorem head_runS (hops : ∀ o ∈ ops.toList, dstOk n o = true) (hB : relTB ops m = true) {g0 : Fr} {w0 : World} (SL : List (Nat × Nat)) (hSL : stoB ops m SL = true) (R : Nat → Bool → Value → World → Prop)
    (hst : ∀ i s v w w', R i s v w → Ext w w' → R i s v w')
    (hob : ∀ i o, i < m → ops[i]? = some o → ∀ g w (S : Nat → Bool), Ext w0 w → (∀ e ∈ o.after, Region.binds .any e = true → ∀ p d, ops[e.on]? = some p → p.dst = some d → R e.on (S e.on) (g d) w) → Agree ops m g0 g →
      (alL SL i = none → relStep P ops o g w fun v w' => Ext w w' ∧ R i false v w') ∧ (∀ a pa da, alL SL i = some a → S a = false → ops[a]? = some pa → pa.dst = some da → relStep P ops o g w fun v w' => ∃ b, Chg w w' b ∧ w0.heap.size ≤ b ∧ R a true (g da) w' ∧ ∀ k s v, k ≠ a → R k s v w → R k s v w'))
    (hend : ∀ g w, Ext w0 w → (∀ i p d, i < m → ops[i]? = some p → p.dst = some d → R i (stL SL i).isSome (g d) w) → Agree ops m g0 g → wpl P ops (ops.toList.drop m) g w K) :
    ∀ (f : Nat) (listed : Array Bool) (a : Act) (g : Fr) (w : World), cnt listed m = f → HeadInv .any ops m listed → Agr n a g → Ext w0 w → (∀ i p d, i < m → listed.getD i false = true → ops[i]? = some p → p.dst = some d → R i (stbL SL listed i) (g d) w) → (∀ j c, (j, c) ∈ SL → listed.getD j false = true → listed.getD c false = true) →
    Agree ops m g0 g → wpAny P .any ops (liftQ n (onNormal K)) (f + (ops.size - m)) listed a w := by
  simp only [relTB, Bool.and_eq_true, decide_eq_true_eq] at hB
  obtain ⟨⟨⟨⟨hm, hs⟩, hc⟩, hb⟩, hdist⟩ := hB
  intro f
  induction f with
  | zero =>
    intro listed a g w hcnt inv ha hx hR hinv hag
    have hall := cnt_zero hcnt
    rw [Nat.zero_add]
    refine tail_run hops hc hb _ m listed a g w rfl (Nat.le_refl _) (Nat.le_of_lt hm) inv.size hall (fun j h1 h2 => inv.tail j h1 h2) ha (hend g w hx (fun i p d hi ho hd => ?_) hag)
    have h1 := hR i p d hi (hall i hi) ho hd
    have e : stbL SL listed i = (stL SL i).isSome := by
      unfold stbL
      cases hs : stL SL i with
      | none => rfl
      | some j => exact hall j (sto_spec hSL (stL_mem hs)).1
    rwa [e] at h1
  | succ f ih =>
    intro listed a g w hcnt inv ha hx hR hinv hag
    obtain ⟨i0, hi0, hu0, hbelow⟩ := cnt_pos (by omega : 0 < cnt listed m)
    obtain ⟨o0, ho0⟩ : ∃ o, ops[i0]? = some o := ⟨ops[i0]'(by omega), by simp⟩
    have hr0 : i0 ∈ Region.ready .any ops listed := mem_ready.2 ⟨getD_in (by rw [inv.size]; omega) hu0, o0, ho0, fun e he hbd => hbelow _ (back_spec hb ho0 e he hbd)⟩
    rw [show f + 1 + (ops.size - m) = (f + (ops.size - m)) + 1 by omega]
    refine ⟨fun h0 => (by rw [h0] at hr0; cases hr0), fun i hi => ?_⟩
    have him : i < m := Nat.lt_of_not_le fun h => tail_waits hs hc hm inv _ i0 rfl hi0 (getD_in (by rw [inv.size]; omega) hu0) i h hi
    obtain ⟨hu, o, ho, hall⟩ := mem_ready.1 hi
    have hu' : listed.getD i false = false := getD_both hu
    have his : i < listed.size := by rw [inv.size]; omega
    have hod : dstOk n o = true := hops o (by
      obtain ⟨hlt, rfl⟩ := Array.getElem?_eq_some_iff.1 ho
      simp)
    have hcnt' : cnt (listed.setIfInBounds i true) m = f := by
      have := (cnt_set his hu' (m := m)).2 him
      omega
    have after : ∀ (v : Value) (w' : World) (a' : Act), Agr n a' (upo g o.dst v) → Ext w0 w' → (∀ j p d, j ≠ i → j < m → listed.getD j false = true → ops[j]? = some p → p.dst = some d → R j (stbL SL (listed.setIfInBounds i true) j) (g d) w') → (∀ d, o.dst = some d → R i (stbL SL (listed.setIfInBounds i true) i) v w') → wpAny P .any ops (liftQ n (onNormal K)) (f + (ops.size - m)) (listed.setIfInBounds i true) a' w' := by
      intro v w' a' ha' hx' hRj hRi
      refine ih _ a' (upo g o.dst v) w' hcnt' (inv.set hi him) ha' hx' (fun j p d hj hl hp hd => ?_) (fun j c hm' hl => ?_) (fun d hd => ?_)
      · by_cases e : i = j
        · subst e
          obtain rfl : o = p := Option.some.inj (ho.symm.trans hp)
          rw [hd]
          simpa [upo, up] using hRi d hd
        · rw [getD_set_ne false e] at hl
          have h1 := hRj j p d (fun h => e h.symm) hj hl hp hd
          cases hod' : o.dst with
          | none => simpa [upo] using h1
          | some d' =>
            have hne : ¬ d = d' := by
              rintro rfl
              exact e (dist_spec hdist him hj ho hp hod' hd)
            simpa [upo, up, hne] using h1
      · by_cases e : i = j
        · subst e
          obtain ⟨_, _, _, o', p', d', e', ho', hp', _, _, he', hb', hon⟩ := sto_spec hSL hm'
          obtain rfl : o = o' := Option.some.inj (ho.symm.trans ho')
          have := hall e' he' hb'
          rw [hon] at this
          exact getD_set_true this
        · rw [getD_set_ne false e] at hl
          exact getD_set_true (hinv j c hm' hl)
      · rw [← hag d hd]
        cases hod' : o.dst with
        | none => rfl
        | some d' =>
          have hne : ¬ d = d' := by
            rintro rfl
            exact hd i o him ho hod'
          simp [upo, up, hne]
    have step := hob i o him ho g w (stbL SL listed) hx (fun e he hbd p d hp hd => hR e.on p d (by have := back_spec hb ho e he hbd; omega) (hall e he hbd) hp hd) hag
    unfold wpOp
    simp only [ho]
    rw [wanted_eq ha ops hops o]
    cases hki : alL SL i with
    | none =>
      have keep : ∀ j, j ≠ i → stbL SL (listed.setIfInBounds i true) j = stbL SL listed j := by
        intro j _
        unfold stbL
        cases hsj : stL SL j with
        | none => rfl
        | some k =>
          have hk := sto_spec hSL (stL_mem hsj)
          have hne : i ≠ k := by rintro rfl; rw [hki] at hk; cases hk.2.2.1
          exact getD_set_ne false hne
      have self : stbL SL (listed.setIfInBounds i true) i = false := by
        unfold stbL
        cases hsj : stL SL i with
        | none => rfl
        | some k =>
          have hk := sto_spec hSL (stL_mem hsj)
          have hne : i ≠ k := by rintro rfl; rw [hki] at hk; cases hk.2.2.1
          show (listed.setIfInBounds i true).getD k false = false
          rw [getD_set_ne false hne]
          cases hlk : listed.getD k false with
          | false => rfl
          | true =>
            have := hinv k i (stL_mem hsj) hlk
            rw [hu'] at this
            cases this
      have go : ∀ (v : Value) (w' : World) (a' : Act), Agr n a' (upo g o.dst v) → Ext w w' ∧ R i false v w' → wpAny P .any ops (liftQ n (onNormal K)) (f + (ops.size - m)) (listed.setIfInBounds i true) a' w' := fun v w' a' ha' ⟨h1, h2⟩ =>
        after v w' a' ha' (hx.trans h1) (fun j p d hj hjm hl hp hd => by rw [keep j hj]; exact hst _ _ _ _ _ (hR j p d hjm hl hp hd) h1) (fun d _ => by rw [self]; exact h2)
      have st1 := step.1 hki
      unfold relStep at st1
      split at st1
      · rename_i hg
        rw [if_pos hg]
        exact .inl (Oper_wp_of_wp1 hod ha (opX_sound st1) fun v w' a' ha' hk' => go v w' a' ha' hk')
      · rename_i hg
        rw [if_neg hg]
        exact go undef w _ (ha.put _ _ (dstOk_lt hod)) st1
    | some c =>
      obtain ⟨_, hsc, _, o', pc, dc, e', ho', hpc, hod', hdc, he', hbd', hon⟩ := sto_spec hSL (alL_mem hki)
      obtain rfl : o = o' := Option.some.inj (ho.symm.trans ho')
      have hlc : listed.getD c false = true := by
        have := hall e' he' hbd'
        rw [hon] at this
        exact this
      have hSc : stbL SL listed c = false := by
        unfold stbL
        rw [hsc]
        exact hu'
      have go : ∀ (v : Value) (w' : World) (a' : Act), Agr n a' (upo g o.dst v) → (∃ b, Chg w w' b ∧ w0.heap.size ≤ b ∧ R c true (g dc) w' ∧ ∀ k s v, k ≠ c → R k s v w → R k s v w') → wpAny P .any ops (liftQ n (onNormal K)) (f + (ops.size - m)) (listed.setIfInBounds i true) a' w' := by
        rintro v w' a' ha' ⟨b, hch, hle, hRc, hk⟩
        refine after v w' a' ha' (hx.trans' (hch.below hle hx.size)) (fun j p d hj hjm hl hp hd => ?_) (fun d hd => by rw [hod'] at hd; cases hd)
        by_cases e : j = c
        · subst e
          obtain rfl : pc = p := Option.some.inj (hpc.symm.trans hp)
          obtain rfl : dc = d := Option.some.inj (hdc.symm.trans hd)
          have : stbL SL (listed.setIfInBounds i true) j = true := by
            unfold stbL
            rw [hsc]
            simp [his]
          rw [this]
          exact hRc
        · have : stbL SL (listed.setIfInBounds i true) j = stbL SL listed j := by
            unfold stbL
            cases hsj : stL SL j with
            | none => rfl
            | some k =>
              have hk' := sto_spec hSL (stL_mem hsj)
              have hne : i ≠ k := by
                rintro rfl
                exact e (Option.some.inj (hk'.2.2.1.symm.trans hki))
              exact getD_set_ne false hne
          rw [this]
          exact hk _ _ _ e (hR j p d hjm hl hp hd)
      have st1 := step.2 c pc dc hki hSc hpc hdc
      unfold relStep at st1
      split at st1
      · rename_i hg
        rw [if_pos hg]
        exact .inl (Oper_wp_of_wp1 hod ha (opX_sound st1) fun v w' a' ha' hk' => go v w' a' ha' hk')
      · rename_i hg
        rw [if_neg hg]
        exact go undef w _ (ha.put _ _ (dstOk_lt hod)) st1
theorem wpd_relS {id : Nat} {l : List Oper} {g0 : Fr} {w0 : World} (m : Nat) (SL : List (Nat × Nat)) (R : Nat → Bool → Value → World → Prop) (hm : P.follows .mixedOrders = true) (hB : relTB l.toArray m = true) (hSL : stoB l.toArray m SL = true) (hd : l.all (dstOk n) = true)
    (hst : ∀ i s v w w', R i s v w → Ext w w' → R i s v w')
    (hob : ∀ i o, i < m → l[i]? = some o → ∀ g w (S : Nat → Bool), Ext w0 w → (∀ e ∈ o.after, Region.binds .any e = true → ∀ p d, l[e.on]? = some p → p.dst = some d → R e.on (S e.on) (g d) w) → Agree l.toArray m g0 g →
      (alL SL i = none → relStep P l.toArray o g w fun v w' => Ext w w' ∧ R i false v w') ∧ (∀ a pa da, alL SL i = some a → S a = false → l[a]? = some pa → pa.dst = some da → relStep P l.toArray o g w fun v w' => ∃ b, Chg w w' b ∧ w0.heap.size ≤ b ∧ R a true (g da) w' ∧ ∀ k s v, k ≠ a → R k s v w → R k s v w'))
    (hend : ∀ g w, Ext w0 w → (∀ i p d, i < m → l[i]? = some p → p.dst = some d → R i (stL SL i).isSome (g d) w) → Agree l.toArray m g0 g → wpl P l.toArray (l.drop m) g w K) : wpd P n id l.toArray g0 w0 K := by
  intro a ha
  rw [List.all_eq_true] at hd
  have hB' := hB
  simp only [relTB, Bool.and_eq_true, decide_eq_true_eq] at hB'
  have hsz : m < l.length := by simpa using hB'.1.1.1.1
  refine wp_region_any hm ?_
  have hall : ∀ k, k ≤ m → cnt (Array.replicate l.toArray.size false) k = k := by
    intro k
    induction k with
    | zero => intro _; rfl
    | succ k ih => intro hk; simp only [cnt, ih (by omega), getD_replicate_false]; simp
  have H := head_runS (P := P) (n := n) (K := K) (ops := l.toArray) (g0 := g0) (w0 := w0) (by simpa using hd) hB SL hSL R hst (by simpa using hob) (by simpa using hend) m (Array.replicate l.toArray.size false) a g0 { w0 with drawn := w0.drawn + 1 } (hall m (Nat.le_refl _))
    ⟨by simp, fun j oj _ hl => (by rw [getD_replicate_false] at hl; cases hl), fun t _ ht => getD_in (by simpa using ht) (getD_replicate_false _ _)⟩ ha (Ext.drawn w0 _) (fun i p d _ hl => (by rw [getD_replicate_false] at hl; cases hl)) (fun j c _ hl => (by rw [getD_replicate_false] at hl; cases hl)) (fun d _ => rfl)
  rw [show m + (l.toArray.size - m) = l.toArray.size by simp; omega] at H
  exact H
/-- An operation that stores nothing. -/
theorem rO {al : List (Nat × Nat)} {i : Nat} {l : List Oper} {o : Oper} {g : Fr} {w : World} {F : Value → World → Prop} {Q : Nat → Oper → Nat → Prop} (h : opX P o.op o.type g w F) (ha : alL al i = none := by simp [alL]) (ho : o.guard = none := by rfl) : (alL al i = none → relStep P l.toArray o g w F) ∧ (∀ a pa da, alL al i = some a → Q a pa da) := ⟨fun _ => relStep_off ho h, fun a pa da h2 => by rw [ha] at h2; cases h2⟩
end
section
variable {w w' : World} {B e sz b b' T T' : Nat} {v : Value} {cs : List (List Value)} {z z' : List Value}
theorem Blk.fr (h : Blk w b' T' z') (hz : Blk w b T z) (hc : Chg w w' b) (hne : T ≠ T' ∨ z' ≠ z) : Blk w' b' T' z' := by
  refine hc.blk h ?_
  rintro rfl
  have e := Option.some.inj (h.symm.trans hz)
  simp only [Obj.cells.injEq] at e
  rcases hne with hne | hne
  · exact hne e.2.1.symm
  · exact hne (by simpa using e.1)
theorem Own.fr (h : Own w B e sz v cs) (hz : Blk w b T z) (hc : Chg w w' b) (hne : T ≠ e ∨ ∃ x y, cs.flatten[0]? = some x ∧ z[0]? = some y ∧ x ≠ y) : Own w' B e sz v cs := by
  refine h.chg hc fun hb => ?_
  rcases hne with hne | ⟨x, y, h1, h2, h3⟩
  · exact h.ne hz hne hb
  · rcases h.1.2 with ⟨rfl, _⟩ | ⟨g, cap, cur, rfl, hbg, hg, hn, hcm, hcs, htake⟩
    · cases hb
    · obtain rfl : g = b := Option.some.inj hb
      have e := Option.some.inj (hg.symm.trans hz)
      simp only [Obj.cells.injEq] at e
      rw [← htake, List.getElem?_take] at h1
      split at h1
      · have h4 : z[0]? = some x := by rw [← h1, e.1]
        exact h3 (Option.some.inj (h4.symm.trans h2))
      · cases h1
end
end Go.Proofs.YtopfddchckdhgaaGreat
