
/- The statements on layer 10: made makes a valid order of at most 9 elements. -/
import Derived.Test.YteeaccnklkcchaaDoorPureMd10
import Derived.Test.YteeaccnklkcchaaDoorShelf
import Derived.Lib.RowBridge
import Derived.Sort.OwnSortedInts
namespace Go.Proofs.YteeaccnklkcchaaDoor
set_option linter.unusedSimpArgs false
set_option linter.unusedVariables false
open Go Go.RowKit Go.Sort
set_option maxRecDepth 100000
set_option linter.unusedSectionVars false
set_option maxHeartbeats 2000000
section
variable {w w' : World} {B b : Nat} {v : Value} {us : List Value} {ll : List (List Int)}
theorem flat_intC10 (l : List Int) : (l.map intC).flatten = l.map (Value.int .i64) := by
  induction l with
  | nil => rfl
  | cons a r ih => simp only [List.map_cons, List.flatten_cons, ih]; rfl
theorem own_intC10 {w : World} {v : Value} {l : List Int} (h : w.ownsRow B 3 1 v l.length (l.map (Value.int .i64))) (hs : l.length ≤ 140737488355328) : Own w B 3 1 v (l.map intC) :=
  ⟨by rw [flat_intC10, List.length_map]; exact h, fun c hc => by obtain ⟨x, _, rfl⟩ := List.mem_map.1 hc; rfl, by rw [List.length_map]; exact hs⟩
/-- What a call that writes one row of the call's own leaves. -/
structure OneRow (w w' : World) (v : Value) : Prop where
  os : w'.os = w.os
  tape : w'.tape = w.tape
  output : w'.output = w.output
  size : w.heap.size ≤ w'.heap.size
  block : ∀ c, c < w.heap.size → v.ownBlock ≠ some c → w'.heap[c]? = w.heap[c]?
theorem sortIntsG {l : List Int} (hown : Own w B 3 1 v (l.map intC)) : CallsV Tryd.prog 63 #[v] w fun r w' => OneRow w w' v ∧ r = .tuple #[] ∧ Own w' B 3 1 v ((sortI10 l).map intC) := by
  have hsm : l.length ≤ 140737488355328 := by simpa using hown.small
  have hln : (sortI10 l).length = l.length := List.length_mergeSort _
  rcases hown.1.2 with ⟨rfl, hn0⟩ | ⟨g, cap, cur, rfl, hb, hg, hc1, hc2, hsz, htk⟩
  · have : l = [] := by simpa using hn0
    subst this
    refine Calls.mono (Tryd.slices_Sort_int_none none 0 w) ?_
    rintro e w' ⟨rfl, rfl⟩
    exact ⟨_, rfl, ⟨rfl, rfl, rfl, Nat.le_refl _, fun _ _ _ => rfl⟩, rfl, by simpa [sortI10] using hown⟩
  · rw [List.length_map] at hc1 htk ⊢
    rw [flat_intC10] at htk
    have hgl : g < w.heap.size := (Array.getElem?_eq_some_iff.1 hg).1
    refine Calls.mono (Tryd.slices_Sort_int g 0 cap l w (holds_of_blockI hg (by simpa using htk)) hgl (by omega)) ?_
    rintro e w' ⟨rfl, n, os, rfl⟩
    have hgr : w.grownBy _ (some g) := grownBy_sortedI (w := w) (n := n) (os := os) (sortI10 l).toArray
    refine ⟨_, rfl, ⟨hgr.os, hgr.tape, hgr.output, hgr.size, fun c hc hne => hgr.block c hc (fun e => hne (by first | exact e | exact e.symm))⟩, rfl, own_intC10 ?_ (by omega)⟩
    rw [hln]
    exact ownsRow_sortedI (ss := l) (ts := sortI10 l) hln hb hg hc1 hc2 hsz
theorem RowsB.sorted {i : Nat} (h : RowsB w B b us ll) (hi : i < us.length) (hx : OneRow w w' us[i]) (ho : Own w' B 3 1 us[i] ((sortI10 (ll.getD i [])).map intC)) : RowsB w' B b us (ll.set i (sortI10 (ll.getD i []))) := by
  refine ⟨(hx.block b h.hb.lt (h.ne hi)).trans h.hb, by simp [h.len], fun j hj => ?_, h.sep⟩
  by_cases e : i = j
  · subst e
    simp only [List.getD_eq_getElem?_getD, List.getElem?_set_self (show i < ll.length by rw [← h.len]; exact hj), Option.getD_some]
    simpa only [List.getD_eq_getElem?_getD] using ho
  · simp only [List.getD_eq_getElem?_getD, List.getElem?_set_ne e]
    have h1 := (h.own j hj).keep (w' := w') fun c hc => hx.block c ((h.own j hj).lt c hc).2 fun e2 => h.sep j i hj hi (fun e3 => e e3.symm) c hc e2
    simpa only [List.getD_eq_getElem?_getD] using h1
theorem OneRow.below {i : Nat} (h : RowsB w B b us ll) (hi : i < us.length) (hx : OneRow w w' us[i]) (hB : B ≤ w.heap.size) : Below B w w' :=
  ⟨hx.os, hx.tape, hx.output, hx.size, fun c hc => hx.block c (by omega) fun e => by have := ((h.own i hi).lt c e).1; omega⟩
theorem flat_set10 {k off : Nat} (u : Value) (ho : off < k) : ∀ (l : List (List Value)) (i : Nat) (h : i < l.length), (∀ c ∈ l, c.length = k) → l.flatten.set (i * k + off) u = (l.set i ((l[i]).set off u)).flatten
  | [], i, h, _ => absurd h (by simp)
  | a :: l, 0, _, hc => by
    have ha := hc a (List.mem_cons_self ..)
    simp only [List.flatten_cons, Nat.zero_mul, Nat.zero_add, List.set_cons_zero, List.getElem_cons_zero]
    rw [List.set_append_left _ _ (by omega)]
  | a :: l, i + 1, h, hc => by
    have ha := hc a (List.mem_cons_self ..)
    simp only [List.flatten_cons, List.set_cons_succ, List.getElem_cons_succ]
    rw [List.set_append_right _ _ (by rw [ha, Nat.succ_mul]; omega), ha, show (i + 1) * k + off - k = i * k + off by rw [Nat.succ_mul]; omega, flat_set10 u ho l i (by simpa using h) fun c hc' => hc c (List.mem_cons_of_mem _ hc')]
theorem own_of_blk10 {w : World} {B e sz : Nat} {g cap n : Nat} {cs : List (List Value)} {cur : List Value} (hb : Blk w g e cur) (hn : n = cs.length) (hnc : n ≤ cap) (hcap : cap ≤ maxLen) (hcur : cur.length = cap * sz) (ht : cur.take (n * sz) = cs.flatten) (hall : ∀ c ∈ cs, c.length = sz) (hB : B ≤ g) (hs : cs.length ≤ 140737488355328) : Own w B e sz (.slice (some ⟨g, 0, none⟩) n cap) cs := by
  subst hn
  exact ⟨⟨by rw [flat_len _ hall], .inr ⟨g, cap, cur.toArray, rfl, hB, hb, hnc, hcap, by simpa using hcur, by simpa using ht⟩⟩, hall, hs⟩
/-- A store into a row of one-cell elements of the call's own. -/
theorem own_setE {t' e i : Nat} {u : Value} {cs : List (List Value)} {f : World → Prop} (ht : tyK Tryd.prog t' = some none) (hown : Own w B e 1 v cs) (hi : i < cs.length) (hu : u.oneCell' = true)
    (h : ∀ b w', Now w' → blockOf v = some b → B ≤ b → b < w.heap.size → Own w' B e 1 v (cs.set i [u]) → Sc w w' b → Cg b w w' → f w') : storeX Tryd.prog t' (elemAt v 1 i) u w f := by
  rcases hown.1.2 with ⟨rfl, hn⟩ | ⟨g, cap, cur, rfl, hbg, hg, hnc, hcm, hcs, htake⟩
  · omega
  · have hb : Blk w g e cur.toList := hg
    have he : elemAt (.slice (some ⟨g, 0, none⟩) cs.length cap) 1 i = .pointer (some ⟨g, i, none⟩) := by
      simp only [elemAt, add_none, Nat.zero_add, Nat.mul_one]
    rw [he]
    refine store_intro ht hb (by rw [Array.length_toList, hcs]; omega) hu fun w' hb' hc => ?_
    have hall : ∀ c ∈ cs.set i [u], c.length = 1 := by
      intro c hc
      rcases List.mem_or_eq_of_mem_set hc with hc | rfl
      · exact hown.each c hc
      · rfl
    refine h g w' trivial rfl hbg hb.lt (own_of_blk10 hb' (by rw [List.length_set]) hnc hcm (by rw [List.length_set, Array.length_toList, hcs]) ?_ hall hbg (by rw [List.length_set]; exact hown.small)) hc.sc hc
    rw [List.take_set, htake]
    have := flat_set10 u (show 0 < 1 by decide) cs i hi hown.each
    have h0 : (cs[i]).set 0 u = [u] := by
      have h1 := hown.each _ (List.getElem_mem hi)
      match h9 : cs[i], h1 with
      | [x], _ => rfl
    rw [h0] at this
    simpa using this
theorem tbn_ext {g : Nat} (h : TBn (fun c => c ∈ [g]) w w') (hU : w'.heap[g]? = w.heap[g]?) : Ext w w' :=
  ⟨h.os, h.tape, h.output, h.size, fun c hc => by
    by_cases e : c = g
    · subst e; exact hU
    · exact h.block c hc (fun hm => e (List.mem_singleton.1 hm))⟩
theorem RowP.tbn {w1 w2 : World} {i : Nat} {x : Int} {X : Nat → Prop} (h : RowP w w1 B b i us ll x v) (hx : TBn X w1 w2) (hX : ∀ c, ¬ X c) : RowP w w2 B b i us ll x v :=
  ⟨h.own.tbg hx fun c _ hc => hX c hc, fun c hc hne => (hx.block c (Nat.lt_of_lt_of_le hc h.chg.2.2.2) (hX c)).trans (h.keep c hc hne), h.blk, hx.os.trans h.chg.1, hx.tape.trans h.chg.2.1, hx.output.trans h.chg.2.2.1, Nat.le_trans h.chg.2.2.2 hx.size⟩
theorem RowP.of_ext {w1 w2 : World} {i : Nat} {x : Int} (hx : Ext w w1) (h : RowP w1 w2 B b i us ll x v) : RowP w w2 B b i us ll x v :=
  ⟨h.own, fun c hc hne => (h.keep c (Nat.lt_of_lt_of_le hc hx.size) hne).trans (hx.block c hc), fun c hc => (h.blk c hc).imp id fun h2 => Nat.le_trans hx.size h2, h.chg.1.trans hx.os, h.chg.2.1.trans hx.tape, h.chg.2.2.1.trans hx.output, Nat.le_trans hx.size h.chg.2.2.2⟩
theorem RowsB.app_tbn {g c cp r : Nat} {x : Int} {u : Value} (hR : RowsB w B b us ll) (hr : r < us.length) (hue : us[r] = u) (hg : ∀ c, us[r].ownBlock = some c → c = g) (hx : TBn (fun c => c ∈ [g]) w w') (hU : w'.heap[g]? = w.heap[g]?) (hc : Blk w' c 3 [intV x]) (hbound : (ll.getD r []).length < 1000000000000) (hB : B ≤ w.heap.size) :
    appX Tryd.prog 25 25 25 u (.slice (some ⟨c, 0, none⟩) 1 cp) w' fun v w2 => Chg w' w2 g ∧ RowP w w2 B b r us ll x v := by
  have hE := tbn_ext hx hU
  subst hue
  refine (hR.ext hE).append hr hc hbound (Nat.le_trans hB hE.size) fun v w2 _ hp => ⟨⟨hp.chg.1, hp.chg.2.1, hp.chg.2.2.1, hp.chg.2.2.2, fun d hd hne => hp.keep d hd fun _ e => hne (hg d e)⟩, RowP.of_ext hE hp⟩
end
end Go.Proofs.YteeaccnklkcchaaDoor
