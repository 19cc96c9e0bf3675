/- Regions of drawn order with stores into blocks of the call's own, loads beside them: each operation's yield told by a relation. -/
import Derived.Test.YtopfddchckdhgaaGreatRel
import Derived.Room.AppendUpon
namespace Go.Proofs.YtopfddchckdhgaaGreat
set_option linter.unusedSimpArgs false
set_option linter.unusedVariables false
open Go Go.RowKit
set_option linter.unusedSectionVars false
set_option maxRecDepth 100000
/-- Only blocks in X may have turned among those that were there. -/
structure TBn (X : Nat → Prop) (w w' : World) : Prop where
  os : w'.os = w.os
  tape : w'.tape = w.tape
  output : w'.output = w.output
  size : w.heap.size ≤ w'.heap.size
  block : ∀ b, b < w.heap.size → ¬ X b → w'.heap[b]? = w.heap[b]?
theorem TBn.refl {X : Nat → Prop} (w : World) : TBn X w w := ⟨rfl, rfl, rfl, Nat.le_refl _, fun _ _ _ => rfl⟩
theorem TBn.trans {X : Nat → Prop} {a b c : World} (h : TBn X a b) (k : TBn X b c) : TBn X a c := ⟨k.os.trans h.os, k.tape.trans h.tape, k.output.trans h.output, Nat.le_trans h.size k.size, fun b hb hn => (k.block b (Nat.lt_of_lt_of_le hb h.size) hn).trans (h.block b hb hn)⟩
theorem TBn.of_ext {X : Nat → Prop} {w w' : World} (h : Ext w w') : TBn X w w' := ⟨h.os, h.tape, h.output, h.size, fun b hb _ => h.block b hb⟩
theorem TBn.of_chg {X : Nat → Prop} {w w' : World} {b : Nat} (h : Chg w w' b) (hb : X b) : TBn X w w' := ⟨h.os, h.tape, h.output, h.size, fun c hc hn => h.block c hc fun e => hn (e ▸ hb)⟩
theorem Own.tb {X : Nat → Prop} {w w' : World} {B e sz : Nat} {v : Value} {cs : List (List Value)} (h : Own w B e sz v cs) (hx : TBn X w w') (hX : ∀ b, X b → b < B) : Own w' B e sz v cs :=
  h.keep fun b hb => hx.block b (h.lt b hb).2 fun hXb => by have := hX b hXb; have := (h.lt b hb).1; omega
theorem Blk.tb {X : Nat → Prop} {w w' : World} {b t : Nat} {cs : List Value} (h : Blk w b t cs) (hx : TBn X w w') (hX : ¬ X b) : Blk w' b t cs := (hx.block b h.lt hX).trans h
abbrev Sb (RB : List Nat) (w w' : World) : Prop := (∀ b a, Kp b a w → (∀ r ∈ RB, ¬ b = r) → Kp b a w') ∧ (∀ B a, Bl B a w → (∀ r ∈ RB, B ≤ r) → Bl B a w') ∧ (∀ a, Ext a w → (∀ r ∈ RB, a.heap.size ≤ r) → Ext a w') ∧ (∀ b, b < w.heap.size → b < w'.heap.size) ∧ (∀ B, B ≤ w.heap.size → B ≤ w'.heap.size) ∧ (∀ v a, Vp v a w → (∀ r ∈ RB, ¬ blockOf v = some r) → Vp v a w') ∧ (∀ v a, Bp v a w → (∀ r ∈ RB, ¬ blockOf v = some r) → Bp v a w')
theorem TBn.sb {RB : List Nat} {w w' : World} (h : TBn (fun b => b ∈ RB) w w') : Sb RB w w' := by
  have below : ∀ B, B ≤ w.heap.size → (∀ r ∈ RB, B ≤ r) → Below B w w' := fun B hB hr => ⟨h.os, h.tape, h.output, h.size, fun b hb => h.block b (by omega) fun hm => by have := hr b hm; omega⟩
  have kp : ∀ b a, Kp b a w → (∀ r ∈ RB, ¬ b = r) → Kp b a w' := fun b a k hr => ⟨k.1, (h.block b k.lt fun hm => hr b hm rfl).trans k.2⟩
  exact ⟨kp, fun B a k hr => ⟨k.1, k.2.trans (below B k.size hr)⟩, fun a k hr => k.trans' (below _ k.size hr), fun _ k => Nat.lt_of_lt_of_le k h.size, fun _ k => Nat.le_trans k h.size,
    fun v a k hr c hc hl => kp c a (k c hc hl) fun r hm e => hr r hm (e ▸ hc), fun v a k hr c hc => kp c a (k c hc) fun r hm e => hr r hm (e ▸ hc)⟩
/-- Operation j waits for operation i. -/
def befB (ops : Array Oper) (j i : Nat) : Bool := match ops[j]? with
  | some o => o.after.any fun e => Region.binds .any e && decide (e.on = i)
  | none => false
def relTB (ops : Array Oper) (m : Nat) : Bool := decide (m < ops.size) && Region.sinkB .any ops m && Region.chainB .any ops m && backB ops && distB ops m
section
variable {P : Program} {n m : Nat} {ops : Array Oper} {K : Fr → World → Prop}
theorem head_runT (hops : ∀ o ∈ ops.toList, dstOk n o = true) (hB : relTB ops m = true) {g0 : Fr} {w0 : World} (RB : List Nat) (bk : Nat → Option Nat) (R : Nat → Value → World → Prop) (hbk : ∀ i b, bk i = some b → b ∈ RB ∧ b < w0.heap.size) (hinj : ∀ i j b, bk i = some b → bk j = some b → i = j)
    (hst : ∀ i v w w', R i v w → TBn (fun b => b ∈ RB ∧ bk i ≠ some b) w w' → R i v w')
    (hob : ∀ i o, i < m → ops[i]? = some o → ∀ g w, TBn (fun b => b ∈ RB) w0 w → (∀ e ∈ o.after, Region.binds .any e = true → ∀ p d, ops[e.on]? = some p → p.dst = some d → R e.on (g d) w) → Agree ops m g0 g → (∀ j b, j < m → bk j = some b → befB ops j i = true → w.heap[b]? = w0.heap[b]?) → (bk i = none → relStep P ops o g w fun v w' => Ext w w' ∧ R i v w') ∧ (∀ b, bk i = some b → w.heap[b]? = w0.heap[b]? → relStep P ops o g w fun v w' => Chg w w' b ∧ R i v w'))
    (hend : ∀ g w, TBn (fun b => b ∈ RB) w0 w → (∀ i p d, i < m → ops[i]? = some p → p.dst = some d → R i (g d) w) → (∀ i b, i < m → bk i = some b → ∃ v, R i v w) → Agree ops m g0 g → wpl P ops (ops.toList.drop m) g w K) :
    ∀ (f : Nat) (listed : Array Bool) (a : Act) (g : Fr) (w : World), cnt listed m = f → HeadInv .any ops m listed → Agr n a g → TBn (fun b => b ∈ RB) w0 w → (∀ i p d, i < m → listed.getD i false = true → ops[i]? = some p → p.dst = some d → R i (g d) w) → (∀ i b, i < m → listed.getD i false = true → bk i = some b → ∃ v, R i v w) →
    (∀ i b, i < m → listed.getD i false = false → bk i = some b → w.heap[b]? = w0.heap[b]?) → Agree ops m g0 g → wpAny P .any ops (liftQ n (onNormal K)) (f + (ops.size - m)) listed a w := by
  simp only [relTB, Bool.and_eq_true, decide_eq_true_eq] at hB
  obtain ⟨⟨⟨⟨hm, hs⟩, hc⟩, hb⟩, hdist⟩ := hB
  intro f
  induction f with
  | zero =>
    intro listed a g w hcnt inv ha hx hR hS hU hag
    have hall := cnt_zero hcnt
    rw [Nat.zero_add]
    exact tail_run hops hc hb _ m listed a g w rfl (Nat.le_refl _) (Nat.le_of_lt hm) inv.size hall (fun j h1 h2 => inv.tail j h1 h2) ha (hend g w hx (fun i p d hi ho hd => hR i p d hi (hall i hi) ho hd) (fun i b hi hk => hS i b hi (hall i hi) hk) hag)
  | succ f ih =>
    intro listed a g w hcnt inv ha hx hR hS hU hag
    obtain ⟨i0, hi0, hu0, hbelow⟩ := cnt_pos (by omega : 0 < cnt listed m)
    obtain ⟨o0, ho0⟩ : ∃ o, ops[i0]? = some o := ⟨ops[i0]'(by omega), by simp⟩
    have hr0 : i0 ∈ Region.ready .any ops listed := mem_ready.2 ⟨getD_in (by rw [inv.size]; omega) hu0, o0, ho0, fun e he hbd => hbelow _ (back_spec hb ho0 e he hbd)⟩
    rw [show f + 1 + (ops.size - m) = (f + (ops.size - m)) + 1 by omega]
    refine ⟨fun h0 => (by rw [h0] at hr0; cases hr0), fun i hi => ?_⟩
    have him : i < m := Nat.lt_of_not_le fun h => tail_waits hs hc hm inv _ i0 rfl hi0 (getD_in (by rw [inv.size]; omega) hu0) i h hi
    obtain ⟨hu, o, ho, hall⟩ := mem_ready.1 hi
    have his : i < listed.size := by rw [inv.size]; omega
    have hod : dstOk n o = true := hops o (by
      obtain ⟨hlt, rfl⟩ := Array.getElem?_eq_some_iff.1 ho
      simp)
    have hcnt' : cnt (listed.setIfInBounds i true) m = f := by
      have := (cnt_set his (getD_both hu) (m := m)).2 him
      omega
    have after : ∀ (v : Value) (w' : World) (a' : Act), Agr n a' (upo g o.dst v) → (∀ j, j ≠ i → TBn (fun b => b ∈ RB ∧ bk j ≠ some b) w w') → TBn (fun b => b ∈ RB) w w' → (∀ j b, j ≠ i → bk j = some b → w'.heap[b]? = w.heap[b]?) → R i v w' → wpAny P .any ops (liftQ n (onNormal K)) (f + (ops.size - m)) (listed.setIfInBounds i true) a' w' := by
      intro v w' a' ha' hT hT0 hK hRi
      refine ih _ a' (upo g o.dst v) w' hcnt' (inv.set hi him) ha' (hx.trans hT0) (fun j p d hj hl hp hd => ?_) (fun j b hj hl hk => ?_) (fun j b hj hl hk => ?_) (fun d hd => ?_)
      · by_cases e : i = j
        · subst e
          obtain rfl : o = p := Option.some.inj (ho.symm.trans hp)
          rw [hd]
          simpa [upo, up] using hRi
        · rw [getD_set_ne false e] at hl
          have h1 := hst _ _ _ _ (hR j p d hj hl hp hd) (hT j fun h => e h.symm)
          cases hod' : o.dst with
          | none => simpa [upo] using h1
          | some d' =>
            have hne : ¬ d = d' := by
              rintro rfl
              exact e (dist_spec hdist him hj ho hp hod' hd)
            simpa [upo, up, hne] using h1
      · by_cases e : i = j
        · subst e
          exact ⟨v, hRi⟩
        · rw [getD_set_ne false e] at hl
          obtain ⟨v', hv'⟩ := hS j b hj hl hk
          exact ⟨v', hst _ _ _ _ hv' (hT j fun h => e h.symm)⟩
      · by_cases e : i = j
        · subst e
          simp [his] at hl
        · rw [getD_set_ne false e] at hl
          exact (hK j b (fun h => e h.symm) hk).trans (hU j b hj hl hk)
      · rw [← hag d hd]
        cases hod' : o.dst with
        | none => rfl
        | some d' =>
          have hne : ¬ d = d' := by
            rintro rfl
            exact hd i o him ho hod'
          simp [upo, up, hne]
    have step := hob i o him ho g w hx (fun e he hbd p d hp hd => hR e.on p d (by have := back_spec hb ho e he hbd; omega) (hall e he hbd) hp hd) hag (fun j b hj hk hbe => hU j b hj (by
      cases hlj : listed.getD j false with
      | false => rfl
      | true =>
        exfalso
        unfold befB at hbe
        split at hbe
        · rename_i oj hoj
          obtain ⟨e, he, h9⟩ := Array.any_eq_true'.1 hbe
          simp only [Bool.and_eq_true, decide_eq_true_eq] at h9
          have := inv.closed j oj hoj hlj e he h9.1
          rw [h9.2, getD_both hu] at this
          cases this
        · cases hbe) hk)
    unfold wpOp
    simp only [ho]
    rw [wanted_eq ha ops hops o]
    cases hki : bk i with
    | none =>
      have go : ∀ (v : Value) (w' : World) (a' : Act), Agr n a' (upo g o.dst v) → Ext w w' ∧ R i v w' → wpAny P .any ops (liftQ n (onNormal K)) (f + (ops.size - m)) (listed.setIfInBounds i true) a' w' := fun v w' a' ha' ⟨h1, h2⟩ =>
        after v w' a' ha' (fun _ _ => TBn.of_ext h1) (TBn.of_ext h1) (fun j b _ hk => h1.block b (Nat.lt_of_lt_of_le (hbk j b hk).2 hx.size)) h2
      have st1 := step.1 hki
      unfold relStep at st1
      split at st1
      · rename_i hg
        rw [if_pos hg]
        exact .inl (Oper_wp_of_wp1 hod ha (opX_sound st1) fun v w' a' ha' hk' => go v w' a' ha' hk')
      · rename_i hg
        rw [if_neg hg]
        exact go undef w _ (ha.put _ _ (dstOk_lt hod)) st1
    | some b =>
      have go : ∀ (v : Value) (w' : World) (a' : Act), Agr n a' (upo g o.dst v) → Chg w w' b ∧ R i v w' → wpAny P .any ops (liftQ n (onNormal K)) (f + (ops.size - m)) (listed.setIfInBounds i true) a' w' := fun v w' a' ha' ⟨h1, h2⟩ =>
        after v w' a' ha' (fun j hj => TBn.of_chg h1 ⟨(hbk i b hki).1, fun e => hj (hinj _ _ _ e hki)⟩) (TBn.of_chg h1 (hbk i b hki).1) (fun j c hj hk => h1.block c (Nat.lt_of_lt_of_le (hbk j c hk).2 hx.size) (fun e => hj (hinj _ _ _ (e ▸ hk) hki))) h2
      have st1 := step.2 b hki (hU i b him (getD_both hu) hki)
      unfold relStep at st1
      split at st1
      · rename_i hg
        rw [if_pos hg]
        exact .inl (Oper_wp_of_wp1 hod ha (opX_sound st1) fun v w' a' ha' hk' => go v w' a' ha' hk')
      · rename_i hg
        rw [if_neg hg]
        exact go undef w _ (ha.put _ _ (dstOk_lt hod)) st1
theorem wpd_relT {id : Nat} {l : List Oper} {g0 : Fr} {w0 : World} (m : Nat) (RB : List Nat) (bk : Nat → Option Nat) (R : Nat → Value → World → Prop) (hm : P.follows .mixedOrders = true) (hB : relTB l.toArray m = true) (hd : l.all (dstOk n) = true) (hbk : ∀ i b, bk i = some b → b ∈ RB ∧ b < w0.heap.size) (hinj : ∀ i j b, bk i = some b → bk j = some b → i = j)
    (hst : ∀ i v w w', R i v w → TBn (fun b => b ∈ RB ∧ bk i ≠ some b) w w' → R i v w')
    (hob : ∀ i o, i < m → l[i]? = some o → ∀ g w, TBn (fun b => b ∈ RB) w0 w → (∀ e ∈ o.after, Region.binds .any e = true → ∀ p d, l[e.on]? = some p → p.dst = some d → R e.on (g d) w) → Agree l.toArray m g0 g → (∀ j b, j < m → bk j = some b → befB l.toArray j i = true → w.heap[b]? = w0.heap[b]?) → (bk i = none → relStep P l.toArray o g w fun v w' => Ext w w' ∧ R i v w') ∧ (∀ b, bk i = some b → w.heap[b]? = w0.heap[b]? → relStep P l.toArray o g w fun v w' => Chg w w' b ∧ R i v w'))
    (hend : ∀ g w, TBn (fun b => b ∈ RB) w0 w → (∀ i p d, i < m → l[i]? = some p → p.dst = some d → R i (g d) w) → (∀ i b, i < m → bk i = some b → ∃ v, R i v w) → Agree l.toArray m g0 g → wpl P l.toArray (l.drop m) g w K) : wpd P n id l.toArray g0 w0 K := by
  intro a ha
  rw [List.all_eq_true] at hd
  have hB' := hB
  simp only [relTB, Bool.and_eq_true, decide_eq_true_eq] at hB'
  have hsz : m < l.length := by simpa using hB'.1.1.1.1
  refine wp_region_any hm ?_
  have hall : ∀ k, k ≤ m → cnt (Array.replicate l.toArray.size false) k = k := by
    intro k
    induction k with
    | zero => intro _; rfl
    | succ k ih => intro hk; simp only [cnt, ih (by omega), getD_replicate_false]; simp
  have H := head_runT (P := P) (n := n) (K := K) (ops := l.toArray) (g0 := g0) (w0 := w0) (by simpa using hd) hB RB bk R hbk hinj hst (by simpa using hob) (by simpa using hend) m (Array.replicate l.toArray.size false) a g0 { w0 with drawn := w0.drawn + 1 } (hall m (Nat.le_refl _))
    ⟨by simp, fun j oj _ hl => (by rw [getD_replicate_false] at hl; cases hl), fun t _ ht => getD_in (by simpa using ht) (getD_replicate_false _ _)⟩ ha (TBn.of_ext (Ext.drawn w0 _)) (fun i p d _ hl => (by rw [getD_replicate_false] at hl; cases hl)) (fun i b _ hl => (by rw [getD_replicate_false] at hl; cases hl)) (fun _ _ _ _ _ => rfl) (fun d _ => rfl)
  rw [show m + (l.toArray.size - m) = l.toArray.size by simp; omega] at H
  exact H
def bkL : List (Nat × Nat) → Nat → Option Nat
  | [], _ => none
  | (j, b) :: r, i => if i = j then some b else bkL r i
theorem bkL_mem : ∀ {L : List (Nat × Nat)} {i b : Nat}, bkL L i = some b → b ∈ L.map (·.2)
  | [], _, _, h => by cases h
  | (j, c) :: r, i, b, h => by
    unfold bkL at h
    split at h
    · obtain rfl := Option.some.inj h; simp
    · exact List.mem_cons_of_mem _ (bkL_mem h)
theorem bkL_inj : ∀ {L : List (Nat × Nat)} {i j b : Nat}, (L.map (·.2)).Nodup → bkL L i = some b → bkL L j = some b → i = j
  | [], _, _, _, _, h, _ => by cases h
  | (k, c) :: r, i, j, b, hn, h1, h2 => by
    simp only [List.map_cons, List.nodup_cons] at hn
    unfold bkL at h1 h2
    split at h1 <;> split at h2
    · omega
    · obtain rfl := Option.some.inj h1
      exact absurd (bkL_mem h2) hn.1
    · obtain rfl := Option.some.inj h2
      exact absurd (bkL_mem h1) hn.1
    · exact bkL_inj hn.2 h1 h2
theorem wpd_relL {id : Nat} {l : List Oper} {g0 : Fr} {w0 : World} (m : Nat) (RB : List Nat) (L : List (Nat × Nat)) (hL : L.map (·.2) = RB) (R : Nat → Value → World → Prop) (hm : P.follows .mixedOrders = true) (hB : relTB l.toArray m = true) (hd : l.all (dstOk n) = true) (hlt : ∀ b ∈ RB, b < w0.heap.size) (hnd : RB.Nodup)
    (hst : ∀ i v w w', R i v w → TBn (fun b => b ∈ RB ∧ bkL L i ≠ some b) w w' → R i v w')
    (hob : ∀ i o, i < m → l[i]? = some o → ∀ g w, TBn (fun b => b ∈ RB) w0 w → (∀ e ∈ o.after, Region.binds .any e = true → ∀ p d, l[e.on]? = some p → p.dst = some d → R e.on (g d) w) → Agree l.toArray m g0 g → (∀ j b, j < m → bkL L j = some b → befB l.toArray j i = true → w.heap[b]? = w0.heap[b]?) → (bkL L i = none → relStep P l.toArray o g w fun v w' => Ext w w' ∧ R i v w') ∧ (∀ b, bkL L i = some b → w.heap[b]? = w0.heap[b]? → relStep P l.toArray o g w fun v w' => Chg w w' b ∧ R i v w'))
    (hend : ∀ g w, TBn (fun b => b ∈ RB) w0 w → (∀ i p d, i < m → l[i]? = some p → p.dst = some d → R i (g d) w) → (∀ i b, i < m → bkL L i = some b → ∃ v, R i v w) → Agree l.toArray m g0 g → wpl P l.toArray (l.drop m) g w K) : wpd P n id l.toArray g0 w0 K := by
  subst hL
  exact wpd_relT m (L.map (·.2)) (bkL L) R hm hB hd (fun i b h => ⟨bkL_mem h, hlt b (bkL_mem h)⟩) (fun i j b h1 h2 => bkL_inj hnd h1 h2) hst hob hend
/-- A store of a whole struct into a block of the call's own, in such a region. -/
theorem stT_agg {b : Nat} {t t' : TypeId} {w w0 : World} {cs vs : List Value} {f : World → Prop} (hb : Blk w0 b t cs) (hU : w.heap[b]? = w0.heap[b]?) (ht : tyK Tryz.prog t' = some (some vs.length)) (hl : cs.length = vs.length) (hv : ∀ v ∈ vs, v.oneCell' = true)
    (h : ∀ w', Blk w' b t vs → Chg w w' b → f w') : storeX Tryz.prog t' (.pointer (some ⟨b, 0, none⟩)) (.agg vs.toArray) w f :=
  storeAgg_intro ht (show Blk w b t cs from hU.trans hb) hl hv h
end
end Go.Proofs.YtopfddchckdhgaaGreat
/- append to a row of the call's own: in place if there is room, else a new row beside all that was there. -/
namespace Go.Proofs.YtopfddchckdhgaaGreat
set_option linter.unusedSimpArgs false
set_option linter.unusedVariables false
open Go Go.RowKit
set_option linter.unusedSectionVars false
set_option maxRecDepth 100000
def full (v : Value) : Prop := v = .slice none 0 0 ∨ ∃ g n, v = .slice (some ⟨g, 0, none⟩) n n
theorem Own.room {w : World} {B e sz : Nat} {v : Value} {cs : List (List Value)} (h : Own w B e sz v cs) : full v ∨ ∃ g cp, v = .slice (some ⟨g, 0, none⟩) cs.length cp ∧ cs.length < cp ∧ B ≤ g ∧ g < w.heap.size := by
  rcases h.1.2 with ⟨rfl, _⟩ | ⟨g, cap, cur, rfl, hb, hg, hn, _⟩
  · exact .inl (.inl rfl)
  · rcases Nat.lt_or_eq_of_le hn with hlt | heq
    · refine .inr ⟨g, cap, rfl, hlt, hb, ?_⟩
      exact (Array.getElem?_eq_some_iff.1 hg).1
    · subst heq
      exact .inl (.inr ⟨g, _, rfl⟩)
theorem full_not {g n cp : Nat} (h : n < cp) : ¬ full (.slice (some ⟨g, 0, none⟩) n cp) := by
  rintro (h' | ⟨g', m, h'⟩)
  · cases h'
  · simp only [Value.slice.injEq] at h'
    omega
theorem Own.tbg {X : Nat → Prop} {w w' : World} {B e sz : Nat} {v : Value} {cs : List (List Value)} (h : Own w B e sz v cs) (hx : TBn X w w') (hX : ∀ b, v.ownBlock = some b → ¬ X b) : Own w' B e sz v cs :=
  h.keep fun b hb => hx.block b (h.lt b hb).2 (hX b hb)
section
variable {α : Type} {w : World} {B b cp e sz by_ t : Nat} {s z : Value} {c : α → List Value} {l : List α} {k : Value → World → Prop}
theorem append_both (x : α) (hsl : slOf Tryz.prog t = some (e, sz, by_)) (hz : zeroElt Tryz.prog t = some z) (hzs : (cellsL z).length = sz) (hsz : 0 < sz) (hby : by_ ≤ 64)
    (hown : Own w B e sz s (l.map c)) (hb : Blk w b e (c x)) (hl : (c x).length = sz) (h1 : ∀ v ∈ c x, v.oneCell' = true) (hbound : l.length < 1000000000000) (hB : B ≤ w.heap.size)
    (hf : ∀ v' w', full s → Ext w w' → Own w' w.heap.size e sz v' ((l ++ [x]).map c) → k v' w')
    (hr : ∀ g cp w', s = .slice (some ⟨g, 0, none⟩) l.length cp → l.length < cp → Chg w w' g → Own w' B e sz (.slice (some ⟨g, 0, none⟩) (l.length + 1) cp) ((l ++ [x]).map c) → k (.slice (some ⟨g, 0, none⟩) (l.length + 1) cp) w') : appX Tryz.prog t t t s (.slice (some ⟨b, 0, none⟩) 1 cp) w k := by
  obtain ⟨i, hu, hi, hs, hbi⟩ := slOf_parts hsl
  have hz' : i.zero = some z := by
    unfold zeroElt at hz
    rw [hsl] at hz
    simpa [zeroOf, hi] using hz
  have hcells : z.cells.size = sz := by rw [← hzs, ← cellsL_eq]; simp
  have hbd : (l.length + 1) * by_ ≤ 140737488355328 := by
    have : (l.length + 1) * by_ ≤ 1000000000000 * 64 := Nat.mul_le_mul (by omega) hby
    omega
  have hnews : ∀ j u, (c x)[j]? = some u → w.cell? ((⟨b, 0, none⟩ : Addr).add j) = some u := fun j u hj => by rw [add_none, hb.cell, Nat.zero_add]; exact hj
  obtain ⟨v', w', hrun, h2, h3, _, h5⟩ := run_append_own_at (P := Tryz.prog) w B t t e i z sz by_ hu hi hz' hs hbi hcells hsz s l.length (l.map c).flatten (by simpa using hown.1) ⟨b, 0, none⟩ 1 cp (c x) (by omega) hnews h1 (by simp only [maxLen]; omega) hbd hB
  have hO : Own w' B e sz v' ((l ++ [x]).map c) := by
    refine ⟨by simpa using h2, fun d hd => ?_, by simp; omega⟩
    rw [List.map_append] at hd
    rcases List.mem_append.1 hd with hd | hd
    · exact hown.each d hd
    · simp only [List.map_cons, List.map_nil, List.mem_cons, List.not_mem_nil, or_false] at hd
      rw [hd]; exact hl
  have hup : v'.ownBlock = some w.heap.size → Own w' w.heap.size e sz v' ((l ++ [x]).map c) := fun hb => by
    refine ⟨⟨hO.1.1, ?_⟩, hO.2, hO.3⟩
    rcases hO.1.2 with ⟨h, _⟩ | ⟨g, cap, cur, rfl, _, r⟩
    · rw [h] at hb; cases hb
    · obtain rfl : g = w.heap.size := Option.some.inj hb
      exact .inr ⟨_, cap, cur, rfl, Nat.le_refl _, r⟩
  refine runsV_ok hrun ?_
  have h1' := hown.1.2
  simp only [List.length_map] at h1'
  rcases h1' with ⟨rfl, h0⟩ | ⟨g, cap, cur, rfl, hbg, hg, hn, hcm, hcs, htake⟩
  · rw [h0] at hbd
    have hrun2 := run_append_nil (P := Tryz.prog) w t t e i z hu hi hz' ⟨b, 0, none⟩ 1 cp (c x) (by omega) hnews (by omega) (by omega) (by rw [hbi]; omega)
    obtain ⟨rfl, rfl⟩ : _ ∧ _ := by simpa using hrun.symm.trans hrun2
    exact hf _ _ (.inl rfl) ((Ext.drew w).trans (Ext.alloc _ _)) (hup rfl)
  · by_cases hroom : l.length + 1 ≤ cap
    · have hv := run_append_cap_room (P := Tryz.prog) w t t t e i hu hi (some ⟨g, 0, none⟩) l.length cap (.slice (some ⟨b, 0, none⟩) 1 cp) 1 (c x) (Src.ofSlice w hu ⟨b, 0, none⟩ 1 cp (c x) (by omega) hnews h1) hroom hrun
      subst hv
      exact hr g cap w' rfl (by omega) ⟨h3.os, h3.tape, h3.output, h3.size, fun b hb hne => h3.block b hb (by simpa [Value.ownBlock] using hne)⟩ hO
    · have hcl : (l.map c).flatten.length = l.length * sz := by rw [hown.1.1, List.length_map]
      have holds : ∀ j u, (l.map c).flatten[j]? = some u → w.cell? ((⟨g, 0, none⟩ : Addr).add j) = some u := by
        intro j u hj
        rw [add_none, Nat.zero_add, (show Blk w g e cur.toList from hg).cell]
        rw [← htake, List.getElem?_take] at hj
        split at hj
        · exact hj
        · cases hj
      have hrun2 := run_append_grow (P := Tryz.prog) w t t e i z hu hi hz' ⟨g, 0, none⟩ l.length cap (l.map c).flatten (by rw [hs]; exact hcl) holds ⟨b, 0, none⟩ 1 cp (c x) (by omega) hnews (by omega) (by omega) (growslice_fits (by omega) (by rw [hbi]; exact hbd))
      obtain ⟨rfl, rfl⟩ : _ ∧ _ := by simpa using hrun.symm.trans hrun2
      exact hf _ _ (.inr ⟨g, _, by rw [show cap = l.length by omega]⟩) ((Ext.drew w).trans (Ext.alloc _ _)) (hup rfl)
end
end Go.Proofs.YtopfddchckdhgaaGreat
