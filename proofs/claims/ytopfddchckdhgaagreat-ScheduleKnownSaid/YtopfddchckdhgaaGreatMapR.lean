
/- Ranges over maps with whole numbers as keys that the call itself has made: whichever entry comes. -/
import Derived.Test.YtopfddchckdhgaaGreatMapI
import Derived.Maps.RangeRun
namespace Go.Proofs.YtopfddchckdhgaaGreat
set_option linter.unusedSimpArgs false
set_option linter.unusedVariables false
open Go Go.RowKit
open Go.Maps (Keyed)
set_option linter.unusedSectionVars false
set_option maxRecDepth 100000
def kvE (e : MapEntry) : Value × Value := (e.key, e.val)
def kvP (q : IntKind) (p : Int × Value) : Value × Value := (Value.int q p.1, p.2)
/-- Entries in the order in which they came, with their stamps. -/
structure Ent (q : IntKind) (es : Array MapEntry) (clock : Nat) (l : List (Int × Value)) : Prop where
  kv : es.toList.map kvE = l.map (kvP q)
  bn : (es.toList.map (·.born)).Nodup
  lt : ∀ x ∈ es.toList, x.born < clock
  nd : (l.map (·.1)).Nodup
  wf : ∀ p ∈ l, (Lit.int q p.1).wf = true
/-- Block b is a map with these entries. -/
def MapS (w : World) (b : Nat) (q : IntKind) (l : List (Int × Value)) : Prop := ∃ es clock, w.heap[b]? = some (.map es clock) ∧ Ent q es clock l
/-- A range over block b under way, its iterator in block r: what is left. -/
def RngS (w : World) (b r : Nat) (q : IntKind) (l left : List (Int × Value)) : Prop := ∃ es clock since seen c0, w.heap[b]? = some (.map es clock) ∧ Ent q es clock l ∧ w.heap[r]? = some (.mapIter (some b) since seen c0) ∧ (∀ x ∈ es.toList, x.born < since) ∧ since ≤ c0 ∧ since ≤ clock ∧ (leftOf es seen).toList.map kvE = left.map (kvP q)
section
variable {w w' : World} {b r k t e : Nat} {q : IntKind} {l left : List (Int × Value)}
theorem MapS.mb (h : MapS w b q l) : MapB w b q l := by
  obtain ⟨es, clock, hb, E⟩ := h
  exact ⟨⟨es, clock, hb, E.kv⟩, E.nd, E.wf⟩
theorem MapS.lt (h : MapS w b q l) : b < w.heap.size := h.mb.lt
theorem MapS.keep (h : MapS w b q l) (hk : w'.heap[b]? = w.heap[b]?) : MapS w' b q l := by
  obtain ⟨es, clock, hb, E⟩ := h
  exact ⟨es, clock, hk.trans hb, E⟩
theorem MapS.kp (h : MapS w b q l) (hk : Kp b w w') : MapS w' b q l := h.keep hk.2
theorem MapS.ext (h : MapS w b q l) (hx : Ext w w') : MapS w' b q l := h.keep (hx.block b h.lt)
theorem MapS.new (w : World) (q : IntKind) : MapS (w.alloc (.map #[] 0)) w.heap.size q [] := ⟨#[], 0, (MapKept.heap_alloc w _).1, ⟨rfl, List.nodup_nil, fun x h => absurd h (by simp), List.nodup_nil, fun _ h => by cases h⟩⟩
theorem RngS.m (h : RngS w b r q l left) : MapS w b q l := by
  obtain ⟨es, clock, since, seen, c0, hb, E, _⟩ := h
  exact ⟨es, clock, hb, E⟩
theorem RngS.lt (h : RngS w b r q l left) : r < w.heap.size := by
  obtain ⟨es, clock, since, seen, c0, _, _, hr, _⟩ := h
  exact (Array.getElem?_eq_some_iff.1 hr).1
theorem RngS.ne (h : RngS w b r q l left) : ¬ r = b := by
  obtain ⟨es, clock, since, seen, c0, hb, _, hr, _⟩ := h
  intro e
  rw [e, hb] at hr
  cases hr
theorem RngS.keep (h : RngS w b r q l left) (hb : w'.heap[b]? = w.heap[b]?) (hr : w'.heap[r]? = w.heap[r]?) : RngS w' b r q l left := by
  obtain ⟨es, clock, since, seen, c0, h1, E, h2, rest⟩ := h
  exact ⟨es, clock, since, seen, c0, hb.trans h1, E, hr.trans h2, rest⟩
theorem RngS.ext (h : RngS w b r q l left) (hx : Ext w w') : RngS w' b r q l left := h.keep (hx.block b h.m.lt) (hx.block r h.lt)
theorem RngS.chg {c : Nat} (h : RngS w b r q l left) (hx : Chg w w' c) (h1 : ¬ b = c) (h2 : ¬ r = c) : RngS w' b r q l left := h.keep (hx.block b h.m.lt h1) (hx.block r h.lt h2)
theorem filter_corr {α β γ : Type} {f : α → γ} {g : β → γ} {p : α → Bool} {q : β → Bool} : ∀ {L : List α} {R : List β}, L.map f = R.map g → (∀ x ∈ L, ∀ y ∈ R, f x = g y → p x = q y) → (L.filter p).map f = (R.filter q).map g
  | [], [], _, _ => rfl
  | [], _ :: _, h, _ => by cases h
  | _ :: _, [], h, _ => by cases h
  | x :: L, y :: R, h, hp => by
    rw [List.map_cons, List.map_cons] at h
    obtain ⟨h1, h2⟩ := List.cons.inj h
    have ih := filter_corr h2 fun a ha c hc => hp a (List.mem_cons_of_mem _ ha) c (List.mem_cons_of_mem _ hc)
    have e := hp x (List.mem_cons_self ..) y (List.mem_cons_self ..) h1
    rw [List.filter_cons, List.filter_cons, e]
    split
    · rw [List.map_cons, List.map_cons, h1, ih]
    · exact ih
theorem key_one : ∀ {L : List MapEntry}, (L.map (·.key)).Nodup → ∀ {x y : MapEntry}, x ∈ L → y ∈ L → x.key = y.key → x = y
  | [], _, _, _, hx, _, _ => by cases hx
  | a :: L, hn, x, y, hx, hy, e => by
    obtain ⟨h1, h2⟩ := List.nodup_cons.1 hn
    rcases List.mem_cons.1 hx with ex | hx
    · rcases List.mem_cons.1 hy with ey | hy
      · rw [ex, ey]
      · exact absurd (List.mem_map.2 ⟨y, hy, by rw [← e, ex]⟩) h1
    · rcases List.mem_cons.1 hy with ey | hy
      · exact absurd (List.mem_map.2 ⟨x, hx, by rw [e, ey]⟩) h1
      · exact key_one h2 hx hy e
theorem range_run (h : MapS w b q l) (ht : Tryz.prog.underlying t = some (.map k e)) : ∃ w', (Instr.range t (.map (some b))).run Tryz.prog w = .ok (.pointer (some ⟨w.heap.size, 0, none⟩)) w' ∧ RngS w' b w.heap.size q l l ∧ Ext w w' := by
  have hlt := h.lt
  obtain ⟨es, clock, hb, E⟩ := h
  refine ⟨_, run_range_map w t k e b es clock ht hb, ⟨es, clock, clock, #[], clock, ((MapKept.heap_alloc w _).2 b hlt).trans hb, E, (MapKept.heap_alloc w _).1, E.lt, Nat.le_refl _, Nat.le_refl _, ?_⟩, Ext.alloc w _⟩
  have : leftOf es #[] = es := by simp [leftOf]
  rw [this]
  exact E.kv
theorem next_run (h : RngS w b r q l left) (ty : TypeId) :
    (left = [] ∧ (Instr.next (.pointer (some ⟨r, 0, none⟩)) false ty).run Tryz.prog w = .ok (.tuple #[.bool false]) w) ∨
    ∃ x v w', (x, v) ∈ left ∧ (Instr.next (.pointer (some ⟨r, 0, none⟩)) false ty).run Tryz.prog w = .ok (.tuple #[.bool true, .int q x, v]) w' ∧ RngS w' b r q l (left.filter fun p => !(p.1 == x)) ∧ Chg w w' r ∧ (Instr.entry (.pointer (some ⟨r, 0, none⟩))).run Tryz.prog w' = .ok (.tuple #[.int q x, v]) w' := by
  have hne := h.ne
  obtain ⟨es, clock, since, seen, c0, hb, E, hr, hold, hsc, hsk, hl⟩ := h
  rcases run_next_at (P := Tryz.prog) w ty r b since c0 seen es clock hr hb hold hsc with ⟨h0, hrun⟩ | ⟨e, he, w1, hal, hrun⟩
  · refine Or.inl ⟨?_, hrun⟩
    have h1 : (leftOf es seen).toList = [] := by
      apply List.eq_nil_of_length_eq_zero
      rw [Array.length_toList]; exact h0
    rw [h1] at hl
    cases left with
    | nil => rfl
    | cons a l => cases hl
  · obtain ⟨hem, hes⟩ := mem_left he
    have h1 : kvE e ∈ left.map (kvP q) := by rw [← hl]; exact List.mem_map.2 ⟨e, he, rfl⟩
    obtain ⟨⟨x, v⟩, hp, h2⟩ := List.mem_map.1 h1
    have hk : e.key = .int q x := (Prod.mk.inj h2).1.symm
    have hv : e.val = v := (Prod.mk.inj h2).2.symm
    have hr1 : w1.heap[r]? = some (.mapIter (some b) since seen c0) := by rcases hal with rfl | rfl <;> exact hr
    have hb1 : w1.heap[b]? = some (.map es clock) := by rcases hal with rfl | rfl <;> exact hb
    have hb' : (ChangeMaps.setBlock w1 r (.mapIter (some b) since (seen.push e.born) clock)).heap[b]? = some (.map es clock) := ((MapKept.heap_set hr1).2 b (fun e1 => hne e1.symm)).trans hb1
    have hr' : (ChangeMaps.setBlock w1 r (.mapIter (some b) since (seen.push e.born) clock)).heap[r]? = some (.mapIter (some b) since (seen.push e.born) clock) := (MapKept.heap_set hr1).1
    refine Or.inr ⟨x, v, _, hp, by rw [← hk, ← hv]; exact hrun, ⟨es, clock, since, seen.push e.born, clock, hb', E, hr', hold, hsk, hsk, ?_⟩, ?_, ?_⟩
    · have e1 : (leftOf es (seen.push e.born)).toList = (leftOf es seen).toList.filter fun y => !(y.born == e.born) := by
        unfold leftOf
        rw [Array.toList_filter, Array.toList_filter, List.filter_filter]
        refine List.filter_congr fun y _ => ?_
        rw [contains_push]
        cases seen.contains y.born <;> cases (y.born == e.born) <;> rfl
      rw [e1]
      refine filter_corr hl fun y hy p hpl hyp => ?_
      have hy2 := (mem_left hy).1
      have hyk : y.key = .int q p.1 := (Prod.mk.inj hyp).1
      by_cases hbe : y.born = e.born
      · obtain rfl := born_inj E.bn hy2 hem hbe
        rw [hk] at hyk
        have : x = p.1 := by injection hyk
        simp [this]
      · have hpx : ¬ p.1 = x := fun e2 => by
          have hnk : (es.toList.map (·.key)).Nodup := by
            have e3 : es.toList.map (·.key) = (l.map (·.1)).map (Value.int q) := by
              have := congrArg (List.map Prod.fst) E.kv
              rw [List.map_map, List.map_map] at this
              rw [List.map_map]
              exact this
            rw [e3, List.Nodup, List.pairwise_map]
            exact List.Pairwise.imp (fun h e => h (by injection e)) E.nd
          exact hbe (congrArg MapEntry.born (key_one hnk hy2 hem (by rw [hyk, hk, e2])))
        rw [show (y.born == e.born) = false by simpa using hbe, show (p.1 == x) = false by simpa using hpx]
    · rcases hal with rfl | rfl <;> exact ⟨rfl, rfl, rfl, by simp [ChangeMaps.setBlock], fun i _ hi => (MapKept.heap_set hr1).2 i hi⟩
    · rw [run_entry_at _ r b since seen es clock e hr' hb' hem E.bn, hk, hv]
theorem map_putS (h : MapS w b q l) (hk : Tryz.prog.underlying k = some (.int q)) (ht : Tryz.prog.underlying t = some (.map k e)) {x : Int} (hx : (Lit.int q x).wf = true) (v : Value) :
    ∃ w' es clock es' clock', (Instr.mapUpdate t (.map (some b)) (.int q x) v).run Tryz.prog w = .ok () w' ∧ w.heap[b]? = some (.map es clock) ∧ w'.heap[b]? = some (.map es' clock') ∧ Ent q es' clock' (putM l x v) ∧ Chg w w' b ∧ (x ∈ l.map (·.1) → clock' = clock ∧ ∃ (j : Nat) (e0 : MapEntry), es.toList[j]? = some e0 ∧ e0.key = .int q x ∧ es'.toList = es.toList.set j { e0 with key := .int q x, val := v }) := by
  have hB := h.mb
  obtain ⟨es, clock, hb, E⟩ := h
  have K := Maps.int_keyed hk
  have hkey := Maps.keyOf_int_mk hk hx
  have hc : ∀ o, Chg w (ChangeMaps.setBlock w b o) b := fun o => ⟨rfl, rfl, rfl, by simp [ChangeMaps.setBlock], fun i _ hi => ChangeMaps.heap_setBlock_other hb _ hi⟩
  obtain ⟨w1, hr1, hM1, hc1⟩ := map_put hB hk ht hx v
  rcases run_find hB hk hb hx with ⟨h1, h2⟩ | ⟨j, e0, h1, h2, h3, h4⟩
  · refine ⟨_, es, clock, es.push { key := .int q x, val := v, born := clock }, clock + 1, by simp [Instr.mapUpdate, run_underlying ht, MapKept.run_getObj_map hb, K.check w false hkey, h1, MapKept.run_setObj_map _ hb, Result.andThen]; rfl, hb, ChangeMaps.heap_setBlock_same hb _, ?_, hc _, fun hm => absurd hm h2⟩
    rw [putM, if_neg h2]
    refine ⟨by simp [kvE, kvP, E.kv], ?_, ?_, ?_, ?_⟩
    · rw [Array.toList_push, List.map_append]
      refine List.nodup_append.2 ⟨E.bn, by simp, ?_⟩
      intro a ha c hc' e9
      obtain ⟨y, hy, rfl⟩ := List.mem_map.1 ha
      have := E.lt y hy
      have hcc : c = clock := by simpa using hc'
      omega
    · intro y hy
      rw [Array.toList_push] at hy
      rcases List.mem_append.1 hy with h5 | h5
      · have := E.lt y h5; omega
      · rw [List.mem_singleton.1 h5]; exact Nat.lt_succ_self _
    · rw [List.map_append]
      refine List.nodup_append.2 ⟨E.nd, by simp, ?_⟩
      intro a ha c hc' e9
      obtain rfl : c = x := by simpa using hc'
      exact h2 (e9 ▸ ha)
    · intro p hp
      rcases List.mem_append.1 hp with h5 | h5
      · exact E.wf p h5
      · obtain rfl := List.mem_singleton.1 h5
        exact hx
  · have hj : es[j]? = some e0 := by simpa using h2
    have hm : x ∈ l.map (·.1) := List.mem_map.2 ⟨_, h4, rfl⟩
    have hlist : (es.modify j fun e => { e with key := .int q x, val := v }).toList = es.toList.set j { e0 with key := .int q x, val := v } := by
      rw [Array.toList_modify, ChangeMaps.modify_eq_set _ _ _ _ h2]
    have hborn : (es.toList.set j { e0 with key := .int q x, val := v }).map (·.born) = es.toList.map (·.born) := by
      rw [List.map_set]
      apply List.ext_getElem?
      intro i
      rw [List.getElem?_set]
      split
      · rename_i hij
        subst hij
        rw [List.getElem?_map, h2]
        have hjl : j < es.toList.length := (List.getElem?_eq_some_iff.1 h2).1
        rw [List.length_map, if_pos hjl]
        rfl
      · rfl
    refine ⟨_, es, clock, _, clock, by simp [Instr.mapUpdate, run_underlying ht, MapKept.run_getObj_map hb, K.check w false hkey, h1, hj, h3, K.stays w hkey, MapKept.run_setObj_map _ hb, Result.andThen]; rfl, hb, ChangeMaps.heap_setBlock_same hb _, ?_, hc _, fun _ => ⟨rfl, j, e0, h2, h3, hlist⟩⟩
    rw [putM, if_pos hm]
    refine ⟨?_, ?_, ?_, ?_, ?_⟩
    · rw [hlist]
      exact map_set_mid E.kv E.nd h2 h3 rfl rfl
    · rw [hlist, hborn]; exact E.bn
    · intro y hy
      rw [hlist] at hy
      have h5 : y.born ∈ (es.toList.set j { e0 with key := .int q x, val := v }).map (·.born) := List.mem_map.2 ⟨y, hy, rfl⟩
      rw [hborn] at h5
      obtain ⟨z, hz, ez⟩ := List.mem_map.1 h5
      rw [← ez]
      exact E.lt z hz
    · have : (l.map fun p => if p.1 = x then (x, v) else p).map (·.1) = l.map (·.1) := by
        rw [List.map_map]
        refine List.map_congr_left fun p _ => ?_
        simp only [Function.comp]
        split
        · simp [*]
        · rfl
      rw [this]; exact E.nd
    · intro p hp
      obtain ⟨z, hz, rfl⟩ := List.mem_map.1 hp
      split
      · exact hx
      · exact E.wf z hz
/-- A store at a key that is there, and has come already. -/
theorem rng_put (h : RngS w b r q l left) (hk : Tryz.prog.underlying k = some (.int q)) (ht : Tryz.prog.underlying t = some (.map k e)) {x : Int} (hx : (Lit.int q x).wf = true) (hm : x ∈ l.map (·.1)) (hn : x ∉ left.map (·.1)) (v : Value) :
    ∃ w', (Instr.mapUpdate t (.map (some b)) (.int q x) v).run Tryz.prog w = .ok () w' ∧ RngS w' b r q (putM l x v) left ∧ Chg w w' b := by
  have hne := h.ne
  obtain ⟨w', es1, clock1, es', clock', hrun, hb1, hb', E', hc, hmid⟩ := map_putS h.m hk ht hx v
  obtain ⟨rfl, j, e0, hj, hk0, hlist⟩ := hmid hm
  obtain ⟨es, clock, since, seen, c0, hb, E, hr, hold, hsc, hsk, hl⟩ := h
  rw [hb1] at hb
  obtain ⟨rfl, rfl⟩ := (by simpa using hb : es1 = es ∧ clock' = clock)
  have hmem0 : e0 ∈ es1.toList := List.mem_of_getElem? hj
  refine ⟨w', hrun, ⟨es', clock', since, seen, c0, hb', E', (hc.block r (Array.getElem?_eq_some_iff.1 hr).1 hne).trans hr, ?_, hsc, hsk, ?_⟩, hc⟩
  · intro y hy
    rw [hlist] at hy
    rcases List.mem_or_eq_of_mem_set hy with h5 | rfl
    · exact hold y h5
    · exact hold e0 hmem0
  · -- the entry at x has been seen
    have hs0 : seen.contains e0.born = true := by
      cases hs : seen.contains e0.born
      · have h1 : e0 ∈ (leftOf es1 seen).toList := by
          unfold leftOf
          rw [Array.toList_filter]
          exact List.mem_filter.2 ⟨hmem0, by rw [hs]; rfl⟩
        have h2 : kvE e0 ∈ left.map (kvP q) := by rw [← hl]; exact List.mem_map.2 ⟨e0, h1, rfl⟩
        obtain ⟨p, hp, h3⟩ := List.mem_map.1 h2
        have h4 := (Prod.mk.inj h3).1
        rw [hk0] at h4
        have h5 : p.1 = x := by injection h4
        exact absurd (List.mem_map.2 ⟨p, hp, h5⟩) hn
      · rfl
    have e1 : (leftOf es' seen).toList = (leftOf es1 seen).toList := by
      unfold leftOf
      rw [Array.toList_filter, Array.toList_filter, hlist]
      clear hl hr hb1 hb' E' E hold hlist hmem0 hb
      generalize es1.toList = L at hj
      clear hc
      induction L generalizing j with
      | nil => cases hj
      | cons a L ih =>
        cases j with
        | zero =>
          obtain rfl : a = e0 := by simpa using hj
          rw [List.set_cons_zero, List.filter_cons, List.filter_cons]
          simp only [hs0, Bool.not_true, Bool.false_eq_true, if_false]
        | succ j =>
          rw [List.set_cons_succ, List.filter_cons, List.filter_cons, ih j (by simpa using hj)]
    rw [e1]
    exact hl
theorem getM_put {x y : Int} {v : Value} : getM (putM l x v) y = if y = x then some v else getM l y := by
  by_cases hm : x ∈ l.map (·.1)
  · rw [putM, if_pos hm]
    induction l with
    | nil => cases hm
    | cons p r ih =>
      unfold getM at *
      rw [List.map_cons, List.find?_cons, List.find?_cons]
      by_cases hp : p.1 = x
      · rw [if_pos hp]
        by_cases hy : y = x
        · subst hy; simp
        · have h1 : ((x : Int) == y) = false := by simpa using fun e => hy e.symm
          have h2 : (p.1 == y) = false := by rw [hp]; exact h1
          simp only [h1, h2, if_neg hy]
          by_cases hm2 : x ∈ r.map (·.1)
          · rw [ih hm2, if_neg hy]
          · congr 1
            have : (r.map fun p => if p.1 = x then (x, v) else p) = r := by
              conv => rhs; rw [← List.map_id r]
              refine List.map_congr_left fun z hz => ?_
              rw [if_neg]; rfl
              exact fun e => hm2 (List.mem_map.2 ⟨z, hz, e⟩)
            rw [this]
      · rw [if_neg hp]
        have hm2 : x ∈ r.map (·.1) := by
          rcases List.mem_cons.1 (by simpa using hm : x ∈ p.1 :: r.map (·.1)) with h | h
          · exact absurd h.symm hp
          · exact h
        cases hpy : p.1 == y
        · simp only
          exact ih hm2
        · have : p.1 = y := by simpa using hpy
          have hyx : ¬ y = x := fun e => hp (this.trans e)
          simp [if_neg hyx]
  · rw [putM, if_neg hm]
    unfold getM
    rw [List.find?_append]
    by_cases hy : y = x
    · subst hy
      have : l.find? (fun p => p.1 == y) = none := List.find?_eq_none.2 fun p hp he => hm (List.mem_map.2 ⟨p, hp, by simpa using he⟩)
      rw [this]; simp
    · have h1 : ((x : Int) == y) = false := by simpa using fun e => hy e.symm
      rw [if_neg hy]
      simp [h1]
theorem keys_put {x : Int} {v : Value} : ∀ y, y ∈ (putM l x v).map (·.1) ↔ y = x ∨ y ∈ l.map (·.1) := by
  intro y
  rw [putM]
  split
  · rename_i hm
    have : (l.map fun p => if p.1 = x then (x, v) else p).map (·.1) = l.map (·.1) := by
      rw [List.map_map]
      refine List.map_congr_left fun p _ => ?_
      simp only [Function.comp]
      split
      · simp [*]
      · rfl
    rw [this]
    exact ⟨.inr, fun h => h.elim (fun e => e ▸ hm) id⟩
  · rw [List.map_append, List.mem_append]
    simp [or_comm]
theorem getM_iff {x : Int} {v : Value} (hn : (l.map (·.1)).Nodup) : getM l x = some v ↔ (x, v) ∈ l := by
  refine ⟨fun h => ?_, getM_some hn⟩
  unfold getM at h
  obtain ⟨p, h1, h2⟩ := Option.map_eq_some_iff.1 h
  have h3 := List.mem_of_find?_eq_some h1
  have h4 : p.1 = x := by have := List.find?_some h1; simpa using this
  obtain ⟨a, c⟩ := p
  simp only at h2 h4
  rw [← h2, ← h4]; exact h3
/- the operations -/
theorem mkmapS_k {ty : TypeId} {g : Fr} {f : Value → World → Prop} (q : IntKind) (h : ∀ b w', Now w' → MapS w' b q [] → St w w' → Nw w b → b < w'.heap.size → f (.map (some b)) w') : opX Tryz.prog (.makeMap t none) ty g w f := by
  show wp1 Tryz.prog (bare (.makeMap t none) ty) g w f
  refine wp1_run (s := Instr.makeMap t none) (by simp [execOp, bare]) ?_
  refine runsV_ok (v := .map (some w.heap.size)) (w' := w.alloc (.map #[] 0)) (by simp [Instr.makeMap]) ?_
  exact h _ _ trivial (MapS.new w q) (Ext.alloc w _).st (Nw.of (Nat.le_refl _)) (MapS.new w q).lt
theorem updS_k {ty : TypeId} {g : Fr} {f : Value → World → Prop} {m x v : Operand} {n : Int} {val : Value} (hm : ev g m = .map (some b)) (hx : ev g x = .int q n) (hv : ev g v = val) (hM : MapS w b q l) (hk : Tryz.prog.underlying k = some (.int q)) (ht : Tryz.prog.underlying t = some (.map k e)) (hw : (Lit.int q n).wf = true) (h : ∀ w', Now w' → MapS w' b q (putM l n val) → Chg w w' b → Sc w w' b → f undef w') : opX Tryz.prog (.mapUpdate t m x v) ty g w f := by
  show wp1 Tryz.prog (bare (.mapUpdate t m x v) ty) g w f
  obtain ⟨w', _, _, es', clock', hr, _, hb', E', hc, _⟩ := map_putS hM hk ht hw val
  unfold wp1
  simp only [execOp, bare, hm, hx, hv]
  simp [hr, Result.andThen]
  exact h _ trivial ⟨es', clock', hb', E'⟩ hc hc.sc
theorem updR_k {ty : TypeId} {g : Fr} {f : Value → World → Prop} {m x v : Operand} {n : Int} {val : Value} (hm : ev g m = .map (some b)) (hx : ev g x = .int q n) (hv : ev g v = val) (hM : RngS w b r q l left) (hk : Tryz.prog.underlying k = some (.int q)) (ht : Tryz.prog.underlying t = some (.map k e)) (hw : (Lit.int q n).wf = true) (hin : n ∈ l.map (·.1)) (hout : n ∉ left.map (·.1)) (h : ∀ w', Now w' → RngS w' b r q (putM l n val) left → Chg w w' b → Sc w w' b → f undef w') : opX Tryz.prog (.mapUpdate t m x v) ty g w f := by
  show wp1 Tryz.prog (bare (.mapUpdate t m x v) ty) g w f
  obtain ⟨w', hr, hR, hc⟩ := rng_put hM hk ht hw hin hout val
  unfold wp1
  simp only [execOp, bare, hm, hx, hv]
  simp [hr, Result.andThen]
  exact h _ trivial hR hc hc.sc
theorem range_k {ty : TypeId} {g : Fr} {f : Value → World → Prop} {m : Operand} (hm : ev g m = .map (some b)) (hM : MapS w b q l) (ht : Tryz.prog.underlying t = some (.map k e)) (h : ∀ r w', Now w' → RngS w' b r q l l → St w w' → Nw w r → f (.pointer (some ⟨r, 0, none⟩)) w') : opX Tryz.prog (.range t m) ty g w f := by
  show wp1 Tryz.prog (bare (.range t m) ty) g w f
  obtain ⟨w', hr, hR, hx⟩ := range_run hM ht
  rw [← hm] at hr
  exact wp1_run (s := Instr.range t (ev g m)) (by simp [execOp, bare]) (runsV_ok hr (h _ _ trivial hR hx.st (Nw.of (Nat.le_refl _))))
/-- The step of a range: nothing is left, or some entry comes. -/
theorem nextm_k {ty : TypeId} {g : Fr} {f : Value → World → Prop} {it : Operand} (hit : ev g it = .pointer (some ⟨r, 0, none⟩)) (hR : RngS w b r q l left) (h0 : left = [] → f (.tuple #[.bool false]) w)
    (h1 : ∀ x v w', Now w' → (x, v) ∈ left → RngS w' b r q l (left.filter fun p => !(p.1 == x)) → Chg w w' r → Sc w w' r → (Instr.entry (.pointer (some ⟨r, 0, none⟩))).run Tryz.prog w' = .ok (.tuple #[.int q x, v]) w' → f (.tuple #[.bool true, .int q x, v]) w') : opX Tryz.prog (.next it false) ty g w f := by
  show wp1 Tryz.prog (bare (.next it false) ty) g w f
  rcases next_run hR ty with ⟨hl, hr⟩ | ⟨x, v, w', hp, hr, hR', hc, hen⟩
  · rw [← hit] at hr
    exact wp1_run (s := Instr.next (ev g it) false ty) (by simp [execOp, bare]) (runsV_ok hr (h0 hl))
  · rw [← hit] at hr
    exact wp1_run (s := Instr.next (ev g it) false ty) (by simp [execOp, bare]) (runsV_ok hr (h1 x v w' trivial hp hR' hc hc.sc hen))
/-- The entry that has come, read behind the step. -/
theorem entry_k {ty : TypeId} {g : Fr} {f : Value → World → Prop} {it : Operand} {v : Value} {a : Addr} (hit : ev g it = .pointer (some a)) (hen : (Instr.entry (.pointer (some a))).run Tryz.prog w = .ok v w) (h : f v w) : opX Tryz.prog (.entry it) ty g w f := by
  show wp1 Tryz.prog (bare (.entry it) ty) g w f
  rw [← hit] at hen
  exact wp1_run (s := Instr.entry (ev g it)) (by simp [execOp, bare]) (runsV_ok hen h)
theorem filter_left {x : Int} {v : Value} (h : (x, v) ∈ left) : (left.filter fun p => !(p.1 == x)).length < left.length := by
  refine List.length_filter_lt_length_iff_exists.2 ⟨_, h, by simp⟩
theorem RngS.sub (h : RngS w b r q l left) : ∀ p ∈ left, p ∈ l := by
  obtain ⟨es, clock, since, seen, c0, hb, E, hr, hold, hsc, hsk, hl⟩ := h
  intro p hp
  have h1 : kvP q p ∈ left.map (kvP q) := List.mem_map.2 ⟨p, hp, rfl⟩
  rw [← hl] at h1
  obtain ⟨e, he, h2⟩ := List.mem_map.1 h1
  have h3 : kvE e ∈ l.map (kvP q) := by rw [← E.kv]; exact List.mem_map.2 ⟨e, (mem_left he).1, rfl⟩
  obtain ⟨p', hp', h4⟩ := List.mem_map.1 h3
  have h5 : kvP q p' = kvP q p := h4.trans h2
  obtain ⟨h6, h7⟩ := Prod.mk.inj h5
  have h8 : p'.1 = p.1 := by injection h6
  have : p' = p := Prod.ext h8 h7
  rw [← this]; exact hp'
theorem RngS.nd (h : RngS w b r q l left) : (left.map (·.1)).Nodup := by
  obtain ⟨es, clock, since, seen, c0, hb, E, hr, hold, hsc, hsk, hl⟩ := h
  have h1 : (es.toList.map (·.key)).Nodup := by
    have e3 : es.toList.map (·.key) = (l.map (·.1)).map (Value.int q) := by
      have := congrArg (List.map Prod.fst) E.kv
      rw [List.map_map, List.map_map] at this
      rw [List.map_map]
      exact this
    rw [e3, List.Nodup, List.pairwise_map]
    exact List.Pairwise.imp (fun h e => h (by injection e)) E.nd
  have h2 : ((leftOf es seen).toList.map (·.key)).Nodup := List.Nodup.sublist (List.Sublist.map _ (by unfold leftOf; rw [Array.toList_filter]; exact List.filter_sublist)) h1
  have e4 : (leftOf es seen).toList.map (·.key) = (left.map (·.1)).map (Value.int q) := by
    have := congrArg (List.map Prod.fst) hl
    rw [List.map_map, List.map_map] at this
    rw [List.map_map]
    exact this
  rw [e4, List.Nodup, List.pairwise_map] at h2
  exact List.Pairwise.imp (fun h e => h (by rw [e])) h2
theorem mem_gone {x y : Int} : y ∈ (left.filter fun p => !(p.1 == x)).map (·.1) ↔ y ∈ left.map (·.1) ∧ ¬ y = x := by
  rw [List.mem_map, List.mem_map]
  constructor
  · rintro ⟨p, hp, rfl⟩
    obtain ⟨h1, h2⟩ := List.mem_filter.1 hp
    exact ⟨⟨p, h1, rfl⟩, by simpa using h2⟩
  · rintro ⟨⟨p, hp, rfl⟩, h2⟩
    exact ⟨p, List.mem_filter.2 ⟨hp, by simpa using h2⟩, rfl⟩
/-- How many of what is left a test lets pass, with and without the one that comes. -/
theorem count_gone {x : Int} {f : Int → Bool} (hn : (left.map (·.1)).Nodup) (hx : x ∈ left.map (·.1)) : (left.map (·.1)).countP f = (if f x = true then 1 else 0) + ((left.filter fun p => !(p.1 == x)).map (·.1)).countP f := by
  induction left with
  | nil => cases hx
  | cons p l ih =>
    rw [List.map_cons] at hn hx ⊢
    obtain ⟨h1, h2⟩ := List.nodup_cons.1 hn
    by_cases e : p.1 = x
    · have h3 : l.filter (fun p => !(p.1 == x)) = l := List.filter_eq_self.2 fun y hy => by
        have : ¬ y.1 = x := fun e2 => h1 (e ▸ e2 ▸ List.mem_map.2 ⟨y, hy, rfl⟩)
        simpa using this
      have h4 : (p :: l).filter (fun p => !(p.1 == x)) = l := by
        rw [List.filter_cons, e, beq_self_eq_true, Bool.not_true, h3]; rfl
      rw [h4, List.countP_cons, e]
      omega
    · have hx' : x ∈ l.map (·.1) := (List.mem_cons.1 hx).resolve_left fun e2 => e e2.symm
      have h4 : (p :: l).filter (fun p => !(p.1 == x)) = p :: l.filter (fun p => !(p.1 == x)) := by
        have : (p.1 == x) = false := by simpa using e
        rw [List.filter_cons, this, Bool.not_false]; rfl
      rw [h4, List.map_cons, List.countP_cons, List.countP_cons, ih h2 hx']
      omega
/-- A loop over what is left of a map. -/
def nextM (I : List (Int × Value) → Fr → World → Prop) (m : Nat) (g : Fr) (w : World) : Prop := ∃ m', m' < m ∧ ∃ left, left.length = m' ∧ I left g w
theorem next_m {I : List (Int × Value) → Fr → World → Prop} {m : Nat} {left' : List (Int × Value)} {g : Fr} (hl : left'.length < m) (hI : I left' g w) : nextM I m g w := ⟨_, hl, left', rfl, hI⟩
theorem loop_m {P : Program} {n : Nat} {c : Code} {Q : Exit → Fr → World → Prop} {g : Fr} {w : World} (I : Fr → List (Int × Value) → Fr → World → Prop) (l0 : List (Int × Value)) (hd : dstsOk n c = true) (h0 : I g l0 g w)
    (step : ∀ left g' w', Now w' → I g left g' w' → wpx P n c (thenX (nextM (I g) left.length) Q) g' w') : loopX P n c Q g w := by
  refine loopX_intro (fun m g' w' => ∃ left, left.length = m ∧ I g left g' w') l0.length hd ⟨l0, rfl, h0⟩ ?_
  rintro m g' w' ⟨left, rfl, hI⟩
  exact step left g' w' trivial hI
end
end Go.Proofs.YtopfddchckdhgaaGreat
