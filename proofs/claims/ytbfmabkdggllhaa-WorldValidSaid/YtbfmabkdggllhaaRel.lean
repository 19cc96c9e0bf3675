/- Regions whose order is drawn, whose first operations may make new memory: what each yields is told by a relation. -/
import Derived.Test.YtbfmabkdggllhaaMid
namespace Go.Proofs.Ytbfmabkdggllhaa
set_option linter.unusedSimpArgs false
set_option linter.unusedVariables false
open Go Go.RowKit
set_option linter.unusedSectionVars false
/-- No operation waits for a later one; the head's slots are distinct. -/
def backB (ops : Array Oper) : Bool := (List.range ops.size).all fun t => match ops[t]? with
  | some o => o.after.all fun e => decide (e.on < t)
  | none => true
def distB (ops : Array Oper) (m : Nat) : Bool := (List.range m).all fun i => (List.range m).all fun j => decide (i = j) || match ops[i]?, ops[j]? with
  | some o, some p => match o.dst with
    | some d => !(p.dst == some d)
    | none => true
  | _, _ => true
def relB (ops : Array Oper) (m : Nat) : Bool := decide (m < ops.size) && Region.sinkB .any ops m && Region.chainB .any ops m && backB ops && distB ops m
def cnt (listed : Array Bool) : Nat → Nat
  | 0 => 0
  | m + 1 => cnt listed m + if listed.getD m false = true then 0 else 1
theorem cnt_zero {listed : Array Bool} : ∀ {m : Nat}, cnt listed m = 0 → ∀ i, i < m → listed.getD i false = true
  | 0, _, i, h => absurd h (by omega)
  | m + 1, h, i, hi => by
    simp only [cnt] at h
    by_cases e : listed.getD m false = true
    · rcases Nat.lt_or_eq_of_le (Nat.le_of_lt_succ hi) with h1 | rfl
      · exact cnt_zero (by omega) i h1
      · exact e
    · rw [if_neg e] at h; omega
theorem cnt_set {listed : Array Bool} {i : Nat} (hs : i < listed.size) (hu : listed.getD i false = false) : ∀ {m : Nat}, (m ≤ i → cnt (listed.setIfInBounds i true) m = cnt listed m) ∧ (i < m → cnt (listed.setIfInBounds i true) m + 1 = cnt listed m)
  | 0 => ⟨fun _ => rfl, fun h => absurd h (by omega)⟩
  | m + 1 => by
    obtain ⟨h1, h2⟩ := cnt_set hs hu (m := m)
    refine ⟨fun h => ?_, fun h => ?_⟩
    · simp only [cnt, h1 (by omega), getD_set_ne false (show i ≠ m by omega)]
    · simp only [cnt]
      by_cases e : i = m
      · subst e
        rw [h1 (Nat.le_refl _), hu]
        simp [hs]
      · rw [getD_set_ne false e]
        have := h2 (by omega)
        omega
theorem cnt_pos {listed : Array Bool} : ∀ {m : Nat}, 0 < cnt listed m → ∃ i, i < m ∧ listed.getD i false = false ∧ ∀ j, j < i → listed.getD j false = true
  | 0, h => absurd h (by simp [cnt])
  | m + 1, h => by
    by_cases e : 0 < cnt listed m
    · obtain ⟨i, h1, h2⟩ := cnt_pos e
      exact ⟨i, by omega, h2⟩
    · have h0 := cnt_zero (Nat.eq_zero_of_not_pos e)
      simp only [cnt] at h
      refine ⟨m, by omega, ?_, h0⟩
      by_cases e2 : listed.getD m false = true
      · rw [if_pos e2] at h; omega
      · simpa using e2
theorem getD_true {listed : Array Bool} {i : Nat} (h : listed.getD i false = true) : listed.getD i true = true := by
  rcases Nat.lt_or_ge i listed.size with h' | h'
  · simp [h'] at h ⊢; exact h
  · simp [Array.getElem?_eq_none h']
theorem back_spec {ops : Array Oper} (h : backB ops = true) {t : Nat} {o : Oper} (ht : ops[t]? = some o) : ∀ e ∈ o.after, e.on < t := by
  have h1 := List.all_eq_true.1 h t (List.mem_range.2 (Array.getElem?_eq_some_iff.1 ht).1)
  simp only [ht] at h1
  intro e he
  simpa using Array.all_eq_true'.1 h1 e he
section
variable {P : Program} {n m : Nat} {ops : Array Oper} {K : Fr → World → Prop}
theorem tail_run (hops : ∀ o ∈ ops.toList, dstOk n o = true) (hc : Region.chainB .any ops m = true) (hb : backB ops = true) : ∀ (d k : Nat) (listed : Array Bool) (a : Act) (g : Fr) (w : World), ops.size - k = d → m ≤ k → k ≤ ops.size → listed.size = ops.size →
    (∀ j, j < k → listed.getD j false = true) → (∀ j, k ≤ j → j < ops.size → listed.getD j true = false) → Agr n a g → wpl P ops (ops.toList.drop k) g w K → wpAny P .any ops (liftQ n (onNormal K)) d listed a w := by
  have only : ∀ (k : Nat) (listed : Array Bool), m ≤ k → (∀ j, j < k → listed.getD j false = true) → (∀ j, k ≤ j → j < ops.size → listed.getD j true = false) → ∀ i ∈ Region.ready .any ops listed, i = k := by
    intro k listed hk h1 h2 i hi
    obtain ⟨hu, o, ho, hall⟩ := mem_ready.1 hi
    have his := (Array.getElem?_eq_some_iff.1 ho).1
    rcases Nat.lt_trichotomy i k with h | h | h
    · rw [getD_true (h1 i h)] at hu; cases hu
    · exact h
    · have h3 := List.all_eq_true.1 hc i (List.mem_range.2 his)
      simp only [Bool.or_eq_true, decide_eq_true_eq] at h3
      rcases h3 with h3 | h3
      · omega
      · obtain ⟨o', ho', e, he, hbd, hon⟩ := Region.waitsFor_spec h3
        obtain rfl : o' = o := Option.some.inj (ho'.symm.trans ho)
        have h4 := hall e he hbd
        rw [hon, getD_both (h2 (i - 1) (by omega) (by omega))] at h4
        cases h4
  intro d
  induction d with
  | zero =>
    intro k listed a g w hd hk hks hsz h1 h2 ha hw
    obtain rfl : k = ops.size := by omega
    refine ⟨?_, g, ha, ?_⟩
    · rw [List.eq_nil_iff_forall_not_mem]
      intro i hi
      have := only _ _ hk h1 h2 i hi
      obtain ⟨_, o, ho, _⟩ := mem_ready.1 hi
      have := (Array.getElem?_eq_some_iff.1 ho).1
      omega
    · rw [List.drop_eq_nil_of_le (by simp)] at hw
      exact hw
  | succ d ih =>
    intro k listed a g w hd hk hks hsz h1 h2 ha hw
    have hks' : k < ops.size := by omega
    obtain ⟨o, ho⟩ : ∃ o, ops[k]? = some o := ⟨ops[k], by simp [hks']⟩
    have hod : dstOk n o = true := hops o (by
      have := Array.getElem?_eq_some_iff.1 ho
      obtain ⟨hlt, rfl⟩ := this
      simp)
    have hr : k ∈ Region.ready .any ops listed := mem_ready.2 ⟨h2 k (Nat.le_refl _) hks', o, ho, fun e he _ => h1 _ (back_spec hb ho e he)⟩
    have hdr : ops.toList.drop k = o :: ops.toList.drop (k + 1) := by
      obtain ⟨hlt, rfl⟩ := Array.getElem?_eq_some_iff.1 ho
      rw [List.drop_eq_getElem_cons (by simpa using hlt)]
      simp
    rw [hdr] at hw
    refine ⟨fun h0 => (by rw [h0] at hr; cases hr), fun i hi => ?_⟩
    obtain rfl := only _ _ hk h1 h2 i hi
    have after : ∀ (g' : Fr) (w' : World) (a' : Act), Agr n a' g' → wpl P ops (ops.toList.drop (i + 1)) g' w' K → wpAny P .any ops (liftQ n (onNormal K)) d (listed.setIfInBounds i true) a' w' := by
      intro g' w' a' ha' hw'
      refine ih (i + 1) _ a' g' w' (by omega) (by omega) (by omega) (by simpa using hsz) (fun j hj => ?_) (fun j hj hjs => ?_) ha' hw'
      · by_cases e : i = j
        · subst e
          simp [hsz, hks']
        · exact getD_set_true (h1 j (by omega))
      · rw [getD_set_ne true (by omega)]
        exact h2 j (by omega) hjs
    unfold wpOp
    simp only [ho]
    rw [wanted_eq ha ops hops o]
    simp only [wpl] at hw
    split at hw
    · rename_i hg
      rw [if_pos hg]
      exact .inl (Oper_wp_of_wp1 hod ha (opX_sound hw) fun v w' a' ha' hk' => after _ _ _ ha' hk')
    · rename_i hg
      rw [if_neg hg]
      exact after _ _ _ (ha.put _ _ (dstOk_lt hod)) hw
/-- One operation of the head: what it yields and the world behind it. -/
def relStep (P : Program) (ops : Array Oper) (o : Oper) (g : Fr) (w : World) (F : Value → World → Prop) : Prop := if guardOn ops g o then opX P o.op o.type g w F else F undef w
/-- The slots that no operation of the head writes are as they were. -/
def Agree (ops : Array Oper) (m : Nat) (g0 g : Fr) : Prop := ∀ d, (∀ i p, i < m → ops[i]? = some p → p.dst ≠ some d) → g d = g0 d
theorem dist_spec (h : distB ops m = true) {i j : Nat} {o p : Oper} {d : Nat} (hi : i < m) (hj : j < m) (ho : ops[i]? = some o) (hp : ops[j]? = some p) (h1 : o.dst = some d) (h2 : p.dst = some d) : i = j := by
  have h3 := List.all_eq_true.1 (List.all_eq_true.1 h i (List.mem_range.2 hi)) j (List.mem_range.2 hj)
  simp only [ho, hp, h1, h2, Bool.or_eq_true, decide_eq_true_eq, beq_self_eq_true, Bool.not_true, Bool.false_eq_true, or_false] at h3
  exact h3
theorem head_run (hops : ∀ o ∈ ops.toList, dstOk n o = true) (hB : relB ops m = true) {g0 : Fr} {w0 : World} (R : Nat → Value → World → Prop) (hst : ∀ i v w w', R i v w → Ext w w' → R i v w')
    (hob : ∀ i o, i < m → ops[i]? = some o → ∀ g w, Ext w0 w → (∀ e ∈ o.after, Region.binds .any e = true → ∀ p d, ops[e.on]? = some p → p.dst = some d → R e.on (g d) w) → Agree ops m g0 g → relStep P ops o g w fun v w' => Ext w w' ∧ R i v w')
    (hend : ∀ g w, Ext w0 w → (∀ i p d, i < m → ops[i]? = some p → p.dst = some d → R i (g d) w) → Agree ops m g0 g → wpl P ops (ops.toList.drop m) g w K) :
    ∀ (f : Nat) (listed : Array Bool) (a : Act) (g : Fr) (w : World), cnt listed m = f → HeadInv .any ops m listed → Agr n a g → Ext w0 w → (∀ i p d, i < m → listed.getD i false = true → ops[i]? = some p → p.dst = some d → R i (g d) w) → Agree ops m g0 g →
    wpAny P .any ops (liftQ n (onNormal K)) (f + (ops.size - m)) listed a w := by
  simp only [relB, Bool.and_eq_true, decide_eq_true_eq] at hB
  obtain ⟨⟨⟨⟨hm, hs⟩, hc⟩, hb⟩, hdist⟩ := hB
  intro f
  induction f with
  | zero =>
    intro listed a g w hcnt inv ha hx hR hag
    have hall := cnt_zero hcnt
    rw [Nat.zero_add]
    exact tail_run hops hc hb _ m listed a g w rfl (Nat.le_refl _) (Nat.le_of_lt hm) inv.size hall (fun j h1 h2 => inv.tail j h1 h2) ha (hend g w hx (fun i p d hi ho hd => hR i p d hi (hall i hi) ho hd) hag)
  | succ f ih =>
    intro listed a g w hcnt inv ha hx hR hag
    obtain ⟨i0, hi0, hu0, hbelow⟩ := cnt_pos (by omega : 0 < cnt listed m)
    obtain ⟨o0, ho0⟩ : ∃ o, ops[i0]? = some o := ⟨ops[i0]'(by omega), by simp⟩
    have hr0 : i0 ∈ Region.ready .any ops listed := mem_ready.2 ⟨getD_in (by rw [inv.size]; omega) hu0, o0, ho0, fun e he _ => hbelow _ (back_spec hb ho0 e he)⟩
    rw [show f + 1 + (ops.size - m) = (f + (ops.size - m)) + 1 by omega]
    refine ⟨fun h0 => (by rw [h0] at hr0; cases hr0), fun i hi => ?_⟩
    have him : i < m := Nat.lt_of_not_le fun h => tail_waits hs hc hm inv _ i0 rfl hi0 (getD_in (by rw [inv.size]; omega) hu0) i h hi
    obtain ⟨hu, o, ho, hall⟩ := mem_ready.1 hi
    have his : i < listed.size := by rw [inv.size]; omega
    have hod : dstOk n o = true := hops o (by
      obtain ⟨hlt, rfl⟩ := Array.getElem?_eq_some_iff.1 ho
      simp)
    have hcnt' : cnt (listed.setIfInBounds i true) m = f := by
      have := (cnt_set his (getD_both hu) (m := m)).2 him
      omega
    have after : ∀ (v : Value) (w' : World) (a' : Act), Agr n a' (upo g o.dst v) → Ext w w' ∧ R i v w' → wpAny P .any ops (liftQ n (onNormal K)) (f + (ops.size - m)) (listed.setIfInBounds i true) a' w' := by
      rintro v w' a' ha' ⟨hx', hRi⟩
      refine ih _ a' (upo g o.dst v) w' hcnt' (inv.set hi him) ha' (hx.trans hx') (fun j p d hj hl hp hd => ?_) (fun d hd => ?_)
      · by_cases e : i = j
        · subst e
          obtain rfl : o = p := Option.some.inj (ho.symm.trans hp)
          rw [hd]
          simpa [upo, up] using hRi
        · rw [getD_set_ne false e] at hl
          have h1 := hst _ _ _ _ (hR j p d hj hl hp hd) hx'
          cases hod' : o.dst with
          | none => simpa [upo] using h1
          | some d' =>
            have hne : ¬ d = d' := by
              rintro rfl
              exact e (dist_spec hdist him hj ho hp hod' hd)
            simpa [upo, up, hne] using h1
      · rw [← hag d hd]
        cases hod' : o.dst with
        | none => rfl
        | some d' =>
          have hne : ¬ d = d' := by
            rintro rfl
            exact hd i o him ho hod'
          simp [upo, up, hne]
    have step := hob i o him ho g w hx (fun e he hbd p d hp hd => hR e.on p d (by have := back_spec hb ho e he; omega) (hall e he hbd) hp hd) hag
    unfold wpOp
    simp only [ho]
    rw [wanted_eq ha ops hops o]
    unfold relStep at step
    split at step
    · rename_i hg
      rw [if_pos hg]
      exact .inl (Oper_wp_of_wp1 hod ha (opX_sound step) fun v w' a' ha' hk' => after v w' a' ha' hk')
    · rename_i hg
      rw [if_neg hg]
      exact after undef w _ (ha.put _ _ (dstOk_lt hod)) step
theorem wpd_rel {id : Nat} {l : List Oper} {g0 : Fr} {w0 : World} (m : Nat) (R : Nat → Value → World → Prop) (hm : P.follows .mixedOrders = true) (hB : relB l.toArray m = true) (hd : l.all (dstOk n) = true) (hst : ∀ i v w w', R i v w → Ext w w' → R i v w')
    (hob : ∀ i o, i < m → l[i]? = some o → ∀ g w, Ext w0 w → (∀ e ∈ o.after, Region.binds .any e = true → ∀ p d, l[e.on]? = some p → p.dst = some d → R e.on (g d) w) → Agree l.toArray m g0 g → relStep P l.toArray o g w fun v w' => Ext w w' ∧ R i v w')
    (hend : ∀ g w, Ext w0 w → (∀ i p d, i < m → l[i]? = some p → p.dst = some d → R i (g d) w) → Agree l.toArray m g0 g → wpl P l.toArray (l.drop m) g w K) : wpd P n id l.toArray g0 w0 K := by
  intro a ha
  rw [List.all_eq_true] at hd
  have hB' := hB
  simp only [relB, Bool.and_eq_true, decide_eq_true_eq] at hB'
  have hsz : m < l.length := by simpa using hB'.1.1.1.1
  refine wp_region_any hm ?_
  have hall : ∀ k, k ≤ m → cnt (Array.replicate l.toArray.size false) k = k := by
    intro k
    induction k with
    | zero => intro _; rfl
    | succ k ih => intro hk; simp only [cnt, ih (by omega), getD_replicate_false]; simp
  have H := head_run (P := P) (n := n) (K := K) (ops := l.toArray) (g0 := g0) (w0 := w0) (by simpa using hd) hB R hst (by simpa using hob) (by simpa using hend) m (Array.replicate l.toArray.size false) a g0 { w0 with drawn := w0.drawn + 1 } (hall m (Nat.le_refl _))
    ⟨by simp, fun j oj _ hl => (by rw [getD_replicate_false] at hl; cases hl), fun t _ ht => getD_in (by simpa using ht) (getD_replicate_false _ _)⟩ ha (Ext.drawn w0 _) (fun i p d _ hl => (by rw [getD_replicate_false] at hl; cases hl)) (fun d _ => rfl)
  rw [show m + (l.toArray.size - m) = l.toArray.size by simp; omega] at H
  exact H
theorem Agree.at {l : List Oper} {g0 g : Fr} (h : Agree l.toArray m g0 g) (d : Nat) (hd : (l.take m).all (fun o => !(o.dst == some d)) = true) : g d = g0 d := by
  refine h d fun i p hi hp he => ?_
  rw [List.all_eq_true] at hd
  have h1 : (l.take m)[i]? = some p := by rw [List.getElem?_take_of_lt hi]; simpa using hp
  have h2 := hd p (List.mem_of_getElem? h1)
  rw [he] at h2
  simp at h2
/-- A region that WALK leaves alone (arm @id !). -/
def wpdH (P : Program) (n id : Nat) (ops : Array Oper) (g : Fr) (w : World) (K : Fr → World → Prop) : Prop := wpd P n id ops g w K
theorem wpd_hold {id : Nat} {g : Fr} {w : World} (h : wpdH P n id ops g w K) : wpd P n id ops g w K := h
end
/-- What a loop owes where it ends: at the exit id, X; elsewhere as before. -/
def cutX (id : Nat) (X : Fr → World → Prop) (Q : Exit → Fr → World → Prop) : Exit → Fr → World → Prop
  | .exit i, g, w => if i = id then X g w else Q (.exit i) g w
  | e, g, w => Q e g w
theorem loop_cut {P : Program} {n : Nat} {c : Code} {Q : Exit → Fr → World → Prop} {g : Fr} {w : World} (id : Nat) (X : Fr → World → Prop) (h : loopX P n c (cutX id X Q) g w) (hx : ∀ g' w', X g' w' → Q (.exit id) g' w') : loopX P n c Q g w := by
  intro a ha
  refine Go.wp_mono (h a ha) fun e a' w' ⟨g', ha', hq⟩ => ⟨g', ha', ?_⟩
  cases e with
  | exit i =>
    simp only [cutX] at hq
    split at hq
    · rename_i e; subst e; exact hx _ _ hq
    · exact hq
  | _ => exact hq
def nextG (N : Nat) (I : Nat → Fr → World → Prop) (m : Nat) (g' : Fr) (w' : World) : Prop := ∃ m', m' < m ∧ ∃ k, k + m' = N ∧ I k g' w'
theorem next_g {N k m : Nat} {I : Nat → Fr → World → Prop} {w' : World} {g' : Fr} (hk : k + m = N) (hlt : k < N) (hI : I (k + 1) g' w') : nextG N I m g' w' := ⟨m - 1, by omega, k + 1, by omega, hI⟩
/-- A loop over 0 .. N-1; what is known of the world stands in what holds. -/
theorem loop_g {P : Program} {n : Nat} {c : Code} {Q : Exit → Fr → World → Prop} {g : Fr} {w : World} (N : Nat) (I : Fr → Nat → Fr → World → Prop) (hd : dstsOk n c = true) (h0 : I g 0 g w)
    (more : ∀ k m g' w', k + m = N → k < N → Now w' → I g k g' w' → wpx P n c (thenX (nextG N (I g) m) Q) g' w')
    (last : ∀ g' w', Now w' → I g N g' w' → wpx P n c (thenX (nextG N (I g) 0) Q) g' w') : loopX P n c Q g w := by
  refine loopX_intro (fun m g' w' => ∃ k, k + m = N ∧ I g k g' w') N hd ⟨0, by omega, h0⟩ ?_
  rintro m g' w' ⟨k, hk, hI⟩
  rcases Nat.lt_or_ge k N with hlt | hge
  · exact more k m g' w' hk hlt trivial hI
  · have : k = N := by omega
    subst this
    obtain rfl : m = 0 := by omega
    exact last g' w' trivial hI
end Go.Proofs.Ytbfmabkdggllhaa
