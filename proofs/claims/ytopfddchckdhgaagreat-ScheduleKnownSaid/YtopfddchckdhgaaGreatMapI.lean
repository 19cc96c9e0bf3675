
/- Maps with whole numbers as keys that the call itself has made. -/
import Derived.Test.YtopfddchckdhgaaGreatAuto
import Derived.Maps.Own
namespace Go.Proofs.YtopfddchckdhgaaGreat
set_option linter.unusedSimpArgs false
set_option linter.unusedVariables false
open Go Go.RowKit
open Go.Maps (Keyed)
set_option linter.unusedSectionVars false
set_option maxRecDepth 100000
/-- Block b is a map with these entries, in the order in which they came. -/
structure MapB (w : World) (b : Nat) (q : IntKind) (l : List (Int × Value)) : Prop where
  ex : ∃ es clock, w.heap[b]? = some (.map es clock) ∧ es.toList.map (fun e => (e.key, e.val)) = l.map fun p => (Value.int q p.1, p.2)
  nd : (l.map (·.1)).Nodup
  wf : ∀ p ∈ l, (Lit.int q p.1).wf = true
def putM (l : List (Int × Value)) (x : Int) (v : Value) : List (Int × Value) := if x ∈ l.map (·.1) then l.map fun p => if p.1 = x then (x, v) else p else l ++ [(x, v)]
def getM (l : List (Int × Value)) (x : Int) : Option Value := (l.find? fun p => p.1 == x).map (·.2)
section
variable {w w' : World} {b k t e : Nat} {q : IntKind} {l : List (Int × Value)}
theorem MapB.lt (h : MapB w b q l) : b < w.heap.size := by
  obtain ⟨es, clock, hb, _⟩ := h.ex
  exact (Array.getElem?_eq_some_iff.1 hb).1
theorem MapB.keep (h : MapB w b q l) (hk : w'.heap[b]? = w.heap[b]?) : MapB w' b q l := by
  obtain ⟨es, clock, hb, r⟩ := h.ex
  exact ⟨⟨es, clock, hk.trans hb, r⟩, h.nd, h.wf⟩
theorem MapB.kp (h : MapB w b q l) (hk : Kp b w w') : MapB w' b q l := h.keep hk.2
theorem MapB.ext (h : MapB w b q l) (hx : Ext w w') : MapB w' b q l := h.keep (hx.block b h.lt)
theorem MapB.new (w : World) (q : IntKind) : MapB (w.alloc (.map #[] 0)) w.heap.size q [] := ⟨⟨#[], 0, (MapKept.heap_alloc w _).1, rfl⟩, List.nodup_nil, fun _ h => by cases h⟩
theorem map_keys {es : List MapEntry} (h : es.map (fun e => (e.key, e.val)) = l.map fun p => (Value.int q p.1, p.2)) (hw : ∀ p ∈ l, (Lit.int q p.1).wf = true) (hk : Tryz.prog.underlying k = some (.int q)) : ∀ e ∈ es, ∃ j, keyOf Tryz.prog k e.key = some j := by
  intro e he
  have h1 : (e.key, e.val) ∈ es.map (fun e => (e.key, e.val)) := List.mem_map.2 ⟨e, he, rfl⟩
  rw [h] at h1
  obtain ⟨p, hp, he2⟩ := List.mem_map.1 h1
  rw [← (Prod.mk.inj he2).1]
  exact ⟨_, Maps.keyOf_int_mk hk (hw p hp)⟩
theorem getM_none {x : Int} (h : x ∉ l.map (·.1)) : getM l x = none := by
  unfold getM
  rw [List.find?_eq_none.2, Option.map_none]
  intro p hp he
  exact h (List.mem_map.2 ⟨p, hp, by simpa using he⟩)
theorem getM_some {x : Int} {v : Value} (hn : (l.map (·.1)).Nodup) (h : (x, v) ∈ l) : getM l x = some v := by
  induction l with
  | nil => cases h
  | cons p r ih =>
    obtain ⟨h1, h2⟩ := List.nodup_cons.1 hn
    unfold getM
    rcases List.mem_cons.1 h with rfl | h3
    · simp
    · have hne : ¬ p.1 = x := fun e => h1 (List.mem_map.2 ⟨_, h3, e.symm⟩)
      rw [List.find?_cons_of_neg (by simpa using hne)]
      exact ih h2 h3
theorem run_find (h : MapB w b q l) (hk : Tryz.prog.underlying k = some (.int q)) {es : Array MapEntry} {clock : Nat} (hb : w.heap[b]? = some (.map es clock)) {x : Int} (hx : (Lit.int q x).wf = true) :
    ((Instr.findKey k (.int q x) es.toList).run Tryz.prog w = .ok none w ∧ x ∉ l.map (·.1)) ∨ ∃ j e, (Instr.findKey k (.int q x) es.toList).run Tryz.prog w = .ok (some (j, e.val)) w ∧ es.toList[j]? = some e ∧ e.key = .int q x ∧ (x, e.val) ∈ l := by
  obtain ⟨es', clock', hb', he⟩ := h.ex
  rw [hb] at hb'
  obtain ⟨rfl, rfl⟩ := (by simpa using hb' : es = es' ∧ clock = clock')
  have K := Maps.int_keyed hk
  rcases K.find w (Maps.keyOf_int_mk hk hx) es.toList (map_keys he h.wf hk) with ⟨h1, h2⟩ | ⟨j, e, h1, h2, h3⟩
  · refine .inl ⟨h1, fun hm => ?_⟩
    obtain ⟨p, hp, rfl⟩ := List.mem_map.1 hm
    have h4 : (Value.int q p.1, p.2) ∈ l.map fun p => (Value.int q p.1, p.2) := List.mem_map.2 ⟨p, hp, rfl⟩
    rw [← he] at h4
    obtain ⟨e, hm, h5⟩ := List.mem_map.1 h4
    exact h2 e hm (Prod.mk.inj h5).1
  · refine .inr ⟨j, e, h1, h2, h3, ?_⟩
    have h4 : (e.key, e.val) ∈ es.toList.map (fun e => (e.key, e.val)) := List.mem_map.2 ⟨e, List.mem_of_getElem? h2, rfl⟩
    rw [he] at h4
    obtain ⟨p, hp, h5⟩ := List.mem_map.1 h4
    rw [h3] at h5
    obtain ⟨h6, h7⟩ := Prod.mk.inj h5
    have h8 : p.1 = x := by injection h6
    rw [← h7, ← h8]
    exact hp
theorem map_look (h : MapB w b q l) (hk : Tryz.prog.underlying k = some (.int q)) (ht : Tryz.prog.underlying t = some (.map k e)) {z : Value} (hz : (zeroValue e).run Tryz.prog w = .ok z w) {x : Int} (hx : (Lit.int q x).wf = true) (c : Bool) :
    (Instr.lookup t (.map (some b)) (.int q x) c).run Tryz.prog w = .ok (if c then .tuple #[(getM l x).getD z, .bool (getM l x).isSome] else (getM l x).getD z) w := by
  obtain ⟨es, clock, hb, he⟩ := h.ex
  have K := Maps.int_keyed hk
  have hkey := Maps.keyOf_int_mk hk hx
  rcases run_find h hk hb hx with ⟨h1, h2⟩ | ⟨j, e0, h1, h2, h3, h4⟩
  · rw [getM_none h2]
    cases c <;> simp [Instr.lookup, run_underlying ht, MapKept.run_getObj_map hb, K.check w _ hkey, h1, hz, Result.andThen]
  · rw [getM_some h.nd h4]
    cases c <;> simp [Instr.lookup, run_underlying ht, MapKept.run_getObj_map hb, K.check w _ hkey, h1, Result.andThen]
theorem map_set_mid {es : List MapEntry} {x : Int} {v : Value} {j : Nat} {e0 e1 : MapEntry} (he : es.map (fun e => (e.key, e.val)) = l.map fun p => (Value.int q p.1, p.2)) (hn : (l.map (·.1)).Nodup) (hj : es[j]? = some e0) (hk : e0.key = .int q x) (h1 : e1.key = .int q x) (h2 : e1.val = v) :
    (es.set j e1).map (fun e => (e.key, e.val)) = (l.map fun p => if p.1 = x then (x, v) else p).map fun p => (Value.int q p.1, p.2) := by
  induction es generalizing j l with
  | nil => cases hj
  | cons f fs ih =>
    cases l with
    | nil => cases he
    | cons p r =>
      rw [List.map_cons, List.map_cons] at he
      obtain ⟨he1, he2⟩ := List.cons.inj he
      obtain ⟨hn1, hn2⟩ := List.nodup_cons.1 hn
      cases j with
      | zero =>
        obtain rfl : f = e0 := by simpa using hj
        have hpx : p.1 = x := by
          have := (Prod.mk.inj he1).1
          rw [hk] at this
          injection this with _ h; exact h.symm
        simp only [List.set_cons_zero, List.map_cons, h1, h2, hpx, if_true]
        congr 1
        have hr : (r.map fun p => if p.1 = x then (x, v) else p) = r := by
          conv => rhs; rw [← List.map_id r]
          refine List.map_congr_left fun z hz => ?_
          rw [if_neg]; rfl
          intro e
          exact hn1 (List.mem_map.2 ⟨z, hz, e.trans hpx.symm⟩)
        rw [hr]
        simpa using he2
      | succ j =>
        have hj' : fs[j]? = some e0 := by simpa using hj
        have hpx : ¬ p.1 = x := by
          intro hpx
          have h4 : (e0.key, e0.val) ∈ fs.map (fun e => (e.key, e.val)) := List.mem_map.2 ⟨e0, List.mem_of_getElem? hj', rfl⟩
          have he2' : fs.map (fun e => (e.key, e.val)) = r.map fun p => (Value.int q p.1, p.2) := by simpa using he2
          rw [he2'] at h4
          obtain ⟨z, hz, h5⟩ := List.mem_map.1 h4
          rw [hk] at h5
          have h6 : z.1 = x := by have := (Prod.mk.inj h5).1; injection this
          exact hn1 (List.mem_map.2 ⟨z, hz, h6.trans hpx.symm⟩)
        have := ih (l := r) (j := j) (by simpa using he2) hn2 hj'
        simp only [List.set_cons_succ, List.map_cons, if_neg hpx]
        rw [this, he1]
theorem map_put (h : MapB w b q l) (hk : Tryz.prog.underlying k = some (.int q)) (ht : Tryz.prog.underlying t = some (.map k e)) {x : Int} (hx : (Lit.int q x).wf = true) (v : Value) :
    ∃ w', (Instr.mapUpdate t (.map (some b)) (.int q x) v).run Tryz.prog w = .ok () w' ∧ MapB w' b q (putM l x v) ∧ Chg w w' b := by
  obtain ⟨es, clock, hb, he⟩ := h.ex
  have K := Maps.int_keyed hk
  have hkey := Maps.keyOf_int_mk hk hx
  have hc : ∀ o, Chg w (ChangeMaps.setBlock w b o) b := fun o => ⟨rfl, rfl, rfl, by simp [ChangeMaps.setBlock], fun i _ hi => ChangeMaps.heap_setBlock_other hb _ hi⟩
  rcases run_find h hk hb hx with ⟨h1, h2⟩ | ⟨j, e0, h1, h2, h3, h4⟩
  · refine ⟨_, by simp [Instr.mapUpdate, run_underlying ht, MapKept.run_getObj_map hb, K.check w false hkey, h1, MapKept.run_setObj_map _ hb, Result.andThen]; rfl, ?_, hc _⟩
    rw [putM, if_neg h2]
    refine ⟨⟨_, _, ChangeMaps.heap_setBlock_same hb _, by simp [he]⟩, ?_, ?_⟩
    · rw [List.map_append]
      refine List.nodup_append.2 ⟨h.nd, by simp, ?_⟩
      intro a ha c hc' e9
      obtain rfl : c = x := by simpa using hc'
      exact h2 (e9 ▸ ha)
    · intro p hp
      rcases List.mem_append.1 hp with h5 | h5
      · exact h.wf p h5
      · obtain rfl := List.mem_singleton.1 h5
        exact hx
  · have hj : es[j]? = some e0 := by simpa using h2
    have hm : x ∈ l.map (·.1) := List.mem_map.2 ⟨_, h4, rfl⟩
    refine ⟨_, by simp [Instr.mapUpdate, run_underlying ht, MapKept.run_getObj_map hb, K.check w false hkey, h1, hj, h3, K.stays w hkey, MapKept.run_setObj_map _ hb, Result.andThen]; rfl, ?_, hc _⟩
    rw [putM, if_pos hm]
    refine ⟨⟨_, _, ChangeMaps.heap_setBlock_same hb _, ?_⟩, ?_, ?_⟩
    · rw [Array.toList_modify, ChangeMaps.modify_eq_set _ _ _ _ h2]
      exact map_set_mid he h.nd h2 h3 rfl rfl
    · have : (l.map fun p => if p.1 = x then (x, v) else p).map (·.1) = l.map (·.1) := by
        rw [List.map_map]
        refine List.map_congr_left fun p _ => ?_
        simp only [Function.comp]
        split
        · simp [*]
        · rfl
      rw [this]; exact h.nd
    · intro p hp
      obtain ⟨z, hz, rfl⟩ := List.mem_map.1 hp
      split
      · exact hx
      · exact h.wf z hz
theorem mkmap_k {ty : TypeId} {g : Fr} {f : Value → World → Prop} (q : IntKind) (h : ∀ b w', Now w' → MapB w' b q [] → St w w' → Nw w b → b < w'.heap.size → f (.map (some b)) w') : opX Tryz.prog (.makeMap t none) ty g w f := by
  show wp1 Tryz.prog (bare (.makeMap t none) ty) g w f
  refine wp1_run (s := Instr.makeMap t none) (by simp [execOp, bare]) ?_
  refine runsV_ok (v := .map (some w.heap.size)) (w' := w.alloc (.map #[] 0)) (by simp [Instr.makeMap]) ?_
  exact h _ _ trivial (MapB.new w q) (Ext.alloc w _).st (Nw.of (Nat.le_refl _)) (MapB.new w q).lt
theorem insert_k {ty : TypeId} {g : Fr} {f : Value → World → Prop} {m x v : Operand} {n : Int} {val : Value} (hm : ev g m = .map (some b)) (hx : ev g x = .int q n) (hv : ev g v = val) (hM : MapB w b q l) (hk : Tryz.prog.underlying k = some (.int q)) (ht : Tryz.prog.underlying t = some (.map k e)) (hw : (Lit.int q n).wf = true) (h : ∀ w', Now w' → MapB w' b q (putM l n val) → Sc w w' b → f undef w') : opX Tryz.prog (.insert t m x v) ty g w f := by
  show wp1 Tryz.prog (bare (.insert t m x v) ty) g w f
  obtain ⟨w', hr, hM', hc⟩ := map_put hM hk ht hw val
  unfold wp1
  simp only [execOp, bare, hm, hx, hv]
  simp [hr, Result.andThen]
  exact h _ trivial hM' hc.sc
theorem update_k {ty : TypeId} {g : Fr} {f : Value → World → Prop} {m x v : Operand} {n : Int} {val : Value} (hm : ev g m = .map (some b)) (hx : ev g x = .int q n) (hv : ev g v = val) (hM : MapB w b q l) (hk : Tryz.prog.underlying k = some (.int q)) (ht : Tryz.prog.underlying t = some (.map k e)) (hw : (Lit.int q n).wf = true) (h : ∀ w', Now w' → MapB w' b q (putM l n val) → Sc w w' b → f undef w') : opX Tryz.prog (.mapUpdate t m x v) ty g w f := by
  show wp1 Tryz.prog (bare (.mapUpdate t m x v) ty) g w f
  obtain ⟨w', hr, hM', hc⟩ := map_put hM hk ht hw val
  unfold wp1
  simp only [execOp, bare, hm, hx, hv]
  simp [hr, Result.andThen]
  exact h _ trivial hM' hc.sc
theorem lookup_k {ty : TypeId} {g : Fr} {f : Value → World → Prop} {m x : Operand} {n : Int} {c : Bool} {z : Value} (hm : ev g m = .map (some b)) (hx : ev g x = .int q n) (hM : MapB w b q l) (hk : Tryz.prog.underlying k = some (.int q)) (ht : Tryz.prog.underlying t = some (.map k e)) (hw : (Lit.int q n).wf = true) (hz : (zeroValue e).run Tryz.prog w = .ok z w) (h : f (if c then .tuple #[(getM l n).getD z, .bool (getM l n).isSome] else (getM l n).getD z) w) : opX Tryz.prog (.lookup t m x c) ty g w f := by
  show wp1 Tryz.prog (bare (.lookup t m x c) ty) g w f
  have hr := map_look hM hk ht hz hw c
  rw [← hm, ← hx] at hr
  exact wp1_run (s := Instr.lookup t (ev g m) (ev g x) c) (by simp [execOp, bare]) (runsV_ok hr h)
end
end Go.Proofs.YtopfddchckdhgaaGreat
