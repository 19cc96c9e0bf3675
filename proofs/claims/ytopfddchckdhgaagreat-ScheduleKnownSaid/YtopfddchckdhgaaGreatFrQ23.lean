
/- The layer schedule: place. -/
import Derived.Test.YtopfddchckdhgaaGreatFrP23
namespace Go.Proofs.YtopfddchckdhgaaGreat
set_option linter.unusedSimpArgs false
set_option linter.unusedVariables false
open Go Go.RowKit
set_option maxRecDepth 100000
set_option linter.unusedSectionVars false
set_option maxHeartbeats 4000000
section
variable {w w' : World} {B b : Nat} {v : Value}
theorem flat_set10 {k off : Nat} (u : Value) (ho : off < k) : ∀ (l : List (List Value)) (i : Nat) (h : i < l.length), (∀ c ∈ l, c.length = k) → l.flatten.set (i * k + off) u = (l.set i ((l[i]).set off u)).flatten
  | [], i, h, _ => absurd h (by simp)
  | a :: l, 0, _, hc => by
    have ha := hc a (List.mem_cons_self ..)
    simp only [List.flatten_cons, Nat.zero_mul, Nat.zero_add, List.set_cons_zero, List.getElem_cons_zero]
    rw [List.set_append_left _ _ (by omega)]
  | a :: l, i + 1, h, hc => by
    have ha := hc a (List.mem_cons_self ..)
    simp only [List.flatten_cons, List.set_cons_succ, List.getElem_cons_succ]
    rw [List.set_append_right _ _ (by rw [ha, Nat.succ_mul]; omega), ha, show (i + 1) * k + off - k = i * k + off by rw [Nat.succ_mul]; omega, flat_set10 u ho l i (by simpa using h) fun c hc' => hc c (List.mem_cons_of_mem _ hc')]
theorem own_of_blk10 {w : World} {B e sz : Nat} {g cap n : Nat} {cs : List (List Value)} {cur : List Value} (hb : Blk w g e cur) (hn : n = cs.length) (hnc : n ≤ cap) (hcap : cap ≤ maxLen) (hcur : cur.length = cap * sz) (ht : cur.take (n * sz) = cs.flatten) (hall : ∀ c ∈ cs, c.length = sz) (hB : B ≤ g) (hs : cs.length ≤ 140737488355328) : Own w B e sz (.slice (some ⟨g, 0, none⟩) n cap) cs := by
  subst hn
  exact ⟨⟨by rw [flat_len _ hall], .inr ⟨g, cap, cur.toArray, rfl, hB, hb, hnc, hcap, by simpa using hcur, by simpa using ht⟩⟩, hall, hs⟩
/-- A store into a row of one-cell elements of the call's own. -/
theorem own_setE {t' e i : Nat} {u : Value} {cs : List (List Value)} {f : World → Prop} (ht : tyK Tryz.prog t' = some none) (hown : Own w B e 1 v cs) (hi : i < cs.length) (hu : u.oneCell' = true)
    (h : ∀ b w', Now w' → blockOf v = some b → B ≤ b → b < w.heap.size → Own w' B e 1 v (cs.set i [u]) → Sc w w' b → Cg b w w' → f w') : storeX Tryz.prog t' (elemAt v 1 i) u w f := by
  rcases hown.1.2 with ⟨rfl, hn⟩ | ⟨g, cap, cur, rfl, hbg, hg, hnc, hcm, hcs, htake⟩
  · omega
  · have hb : Blk w g e cur.toList := hg
    have he : elemAt (.slice (some ⟨g, 0, none⟩) cs.length cap) 1 i = .pointer (some ⟨g, i, none⟩) := by
      simp only [elemAt, add_none, Nat.zero_add, Nat.mul_one]
    rw [he]
    refine store_intro ht hb (by rw [Array.length_toList, hcs]; omega) hu fun w' hb' hc => ?_
    have hall : ∀ c ∈ cs.set i [u], c.length = 1 := by
      intro c hc
      rcases List.mem_or_eq_of_mem_set hc with hc | rfl
      · exact hown.each c hc
      · rfl
    refine h g w' trivial rfl hbg hb.lt (own_of_blk10 hb' (by rw [List.length_set]) hnc hcm (by rw [List.length_set, Array.length_toList, hcs]) ?_ hall hbg (by rw [List.length_set]; exact hown.small)) hc.sc hc
    rw [List.take_set, htake]
    have := flat_set10 u (show 0 < 1 by decide) cs i hi hown.each
    have h0 : (cs[i]).set 0 u = [u] := by
      have h1 := hown.each _ (List.getElem_mem hi)
      match h9 : cs[i], h1 with
      | [x], _ => rfl
    rw [h0] at this
    simpa using this
end
/-- A frame whose begins are a row of the call's own. -/
structure FrO (w : World) (B fb : Nat) (f : FrV) (bv : Value) (s : SiteD) (p : PlanD) (x : TermsD) (b : List Int) : Prop where
  blk : Blk w fb 86 (frC f bv s x)
  arg : ArgT w B f s p x
  own : Own w B 3 1 bv (b.map intC)
  hB : B ≤ w.heap.size
section
variable {w w' : World} {B fb : Nat} {f : FrV} {bv : Value} {s : SiteD} {p : PlanD} {x : TermsD} {b : List Int}
theorem FrO.r (h : FrO w B fb f bv s p x b) : FrR w fb f bv s p x b := ⟨h.blk, h.arg.more h.hB, h.own.sl1 (f := intV)⟩
theorem FrO.ext (h : FrO w B fb f bv s p x b) (hx : Ext w w') : FrO w' B fb f bv s p x b := ⟨h.blk.ext hx, h.arg.ext hx h.hB, h.own.ext hx, Nat.le_trans h.hB hx.size⟩
theorem FrO.set {g i : Nat} {t : Int} (h : FrO w B fb f bv s p x b) (hg : blockOf bv = some g) (hc : Chg w w' g) (ho : Own w' B 3 1 bv ((b.map intC).set i [intV t])) : FrO w' B fb f bv s p x (b.set i t) := by
  rw [h.own.block] at hg
  have hgB := h.own.lt g hg
  refine ⟨hc.blk h.blk fun e => ?_, h.arg.bl ⟨h.hB, hc.below hgB.1 h.hB⟩, by rw [List.map_set]; exact ho, Nat.le_trans h.hB hc.size⟩
  subst e
  exact h.own.ne h.blk (by decide) hg
theorem RngS.tbn {bm rr b5 : Nat} {q : IntKind} {l left : List (Int × Value)} {cs : List Value} {A : Nat → Prop} (h : RngS w bm rr q l left) (h5 : Blk w b5 39 cs) (ht : TBn (fun c => c = b5 ∨ (A c ∧ ∃ cs, Blk w c 3 cs)) w w') : RngS w' bm rr q l left := by
  have hm := h.m.lt
  have hr := h.lt
  have h' := h
  obtain ⟨es, clock, since, seen, c0, hb, E, hrr, _⟩ := h'
  refine h.keep (ht.block bm hm ?_) (ht.block rr hr ?_)
  · rintro (e | ⟨_, cs', e⟩)
    · subst e; have := hb.symm.trans h5; simp at this
    · have := hb.symm.trans e; simp at this
  · rintro (e | ⟨_, cs', e⟩)
    · subst e; have := hrr.symm.trans h5; simp at this
    · have := hrr.symm.trans e; simp at this
/-- What is tried beside the first moment: the approval, ends, windows, hosts that come back. -/
def cA1 (x : TermsD) (i : Nat) (t : Int) : Prop := t = appS x i
def cA2 (p : PlanD) (x : TermsD) (b : List Int) (i k : Nat) (t : Int) : Prop := cA1 x i t ∨ t ∈ ((afterS p i).take k).map fun j => Sch.at_ b j.toNat + takeS p x j.toNat
def cA3 (p : PlanD) (x : TermsD) (b : List Int) (i k : Nat) (t : Int) : Prop := cA2 p x b i (afterS p i).length t ∨ t ∈ (x.windows.take k).map (·.frm)
def cA4 (p : PlanD) (x : TermsD) (b : List Int) (i : Nat) (M left : List (Int × Value)) (t : Int) : Prop := cA3 p x b i x.windows.length t ∨ ∃ h a, seenK M left h ∧ spanS p x b h = some (a, t)
theorem take_mem {α β : Type} {l : List α} {g : α → β} {k : Nat} (hk : k < l.length) {t : β} : t ∈ (l.take (k + 1)).map g ↔ t ∈ (l.take k).map g ∨ t = g l[k] := by
  rw [List.take_succ_eq_append_getElem hk, List.map_append, List.mem_append]
  simp
theorem cA2_next {i k : Nat} (hk : k < (afterS p i).length) (t : Int) : cA2 p x b i (k + 1) t ↔ cA2 p x b i k t ∨ t = Sch.at_ b (afterS p i)[k].toNat + takeS p x (afterS p i)[k].toNat := by
  unfold cA2
  rw [take_mem hk, or_assoc]
theorem cA3_next {i k : Nat} (hk : k < x.windows.length) (t : Int) : cA3 p x b i (k + 1) t ↔ cA3 p x b i k t ∨ t = x.windows[k].frm := by
  unfold cA3
  rw [take_mem hk, or_assoc]
theorem cA4_next {i : Nat} {M left : List (Int × Value)} {h a c : Int} (hy : spanS p x b h = some (a, c)) (hs : ∀ z, seenK M (left.filter fun p => !(p.1 == h)) z ↔ seenK M left z ∨ z = h) (t : Int) : cA4 p x b i M (left.filter fun p => !(p.1 == h)) t ↔ cA4 p x b i M left t ∨ t = c := by
  unfold cA4
  constructor
  · rintro (h1 | ⟨z, a', h1, h2⟩)
    · exact .inl (.inl h1)
    · rcases (hs z).1 h1 with h1 | rfl
      · exact .inl (.inr ⟨z, a', h1, h2⟩)
      · rw [hy] at h2
        obtain ⟨_, rfl⟩ := Prod.mk.inj (Option.some.inj h2)
        exact .inr rfl
  · rintro ((h1 | ⟨z, a', h1, h2⟩) | rfl)
    · exact .inl h1
    · exact .inr ⟨z, a', (hs z).2 (.inl h1), h2⟩
    · exact .inr ⟨h, a, (hs h).2 (.inr rfl), hy⟩
theorem cA4_moms (hF : Fit s p x) {i : Nat} {M : List (Int × Value)} (hM : ∀ h, h ∈ M.map (·.1) ↔ (spanS p x b h).isSome = true) {t : Int} (ht : x.first < t) : cA4 p x b i M [] t ↔ t ∈ (scS s p x).moms b i := by
  show _ ↔ t ∈ x.first :: appS x i :: ((afterS p i).map fun j => Sch.at_ b j.toNat + takeS p x j.toNat) ++ x.windows.map (·.frm) ++ tosS s p x b
  unfold cA4 cA3 cA2 cA1
  rw [List.take_length, List.take_length, List.mem_append, List.mem_append, List.mem_cons, List.mem_cons, mem_tos (b := b) hF]
  have hne : ¬ t = x.first := by omega
  constructor
  · rintro (((h | h) | h) | ⟨h, a, _, h2⟩)
    · exact .inl (.inl (.inr (.inl h)))
    · exact .inl (.inl (.inr (.inr h)))
    · exact .inl (.inr h)
    · exact .inr ⟨h, a, h2⟩
  · rintro (((h | h | h) | h) | ⟨h, a, h2⟩)
    · exact absurd h hne
    · exact .inl (.inl (.inl h))
    · exact .inl (.inl (.inr h))
    · exact .inl (.inr h)
    · exact .inr ⟨h, a, ⟨(hM h).2 (by rw [h2]; rfl), by simp⟩, h2⟩
end
section
variable {w w' : World} {B fb : Nat} {f : FrV} {bv : Value} {s : SiteD} {p : PlanD} {x : TermsD} {b : List Int}
theorem poss_eq (hF : Fit s p x) (hb : BegD p b) {i : Nat} (hi : i < p.steps.length) {t : Int} : possB s p x (b.set i t) i = Sch.poss (scS s p x) b i t := by
  have hlb : i < b.length := by rw [hb.len]; exact hi
  rw [poss_set hF hb.len hi fun j hj e => by have := hF.places i hi j hj; omega]
  unfold possB
  have e : Sch.at_ (b.set i t) i = t := by rw [Sch.at_set hlb, if_pos rfl]
  congr 1
  have e0 : (ruleS s p x (b.set i t) 0 i).2 = timeB p x (b.set i t) i := rfl
  have e1 : (ruleS s p x (b.set i t) 1 i).2 = (orderJ p x (b.set i t) i).isNone := rfl
  have e2 : (ruleS s p x (b.set i t) 2 i).2 = winB s p x i t := by show winB s p x i (Sch.at_ (b.set i t) i) = _; rw [e]
  have e3 : (ruleS s p x (b.set i t) 3 i).2 = appB s p x i t := by show appB s p x i (Sch.at_ (b.set i t) i) = _; rw [e]
  have h4 : (List.range 4).all (fun k => (ruleS s p x (b.set i t) k i).2) = ((ruleS s p x (b.set i t) 0 i).2 && ((ruleS s p x (b.set i t) 1 i).2 && ((ruleS s p x (b.set i t) 2 i).2 && ((ruleS s p x (b.set i t) 3 i).2 && true)))) := rfl
  rw [h4, e0, e1, e2, e3]
  cases timeB p x (b.set i t) i <;> cases (orderJ p x (b.set i t) i).isNone <;> cases winB s p x i t <;> cases appB s p x i t <;> rfl
/-- While the moments are tried. -/
def PlB (w w' : World) (B fb b2 : Nat) (f : FrV) (bv lv : Value) (s : SiteD) (p : PlanD) (x : TermsD) (b L : List Int) (i : Nat) (u : Int) : Prop :=
  FrO w' B fb f bv s p x (b.set i u) ∧ TBn (fun c => blockOf bv = some c) w w' ∧ Blk w' b2 83 [.pointer (some ⟨fb, 0, none⟩)] ∧ Own w' w.heap.size 3 1 lv (L.map intC)
theorem PlB.ext {w1 : World} {b2 i : Nat} {lv : Value} {L : List Int} {u : Int} (h : PlB w w1 B fb b2 f bv lv s p x b L i u) (hx : Ext w1 w') : PlB w w' B fb b2 f bv lv s p x b L i u := ⟨h.1.ext hx, h.2.1.trans (TBn.of_ext hx), h.2.2.1.ext hx, h.2.2.2.ext hx⟩
theorem PlB.store {w1 : World} {b2 i g : Nat} {lv : Value} {L : List Int} {u t : Int} (h : PlB w w1 B fb b2 f bv lv s p x b L i u) (hg : blockOf bv = some g) (hgw : g < w.heap.size) (hb2 : w.heap.size ≤ b2) (hc : Chg w1 w' g) (ho : Own w' B 3 1 bv (((b.set i u).map intC).set i [intV t])) : PlB w w' B fb b2 f bv lv s p x b L i t := by
  obtain ⟨h1, h2, h3, h4⟩ := h
  refine ⟨?_, h2.trans (TBn.of_chg hc hg), hc.blk h3 (by omega), h4.keep fun c hcc => hc.block c (h4.lt c hcc).2 fun e => by have := (h4.lt c hcc).1; omega⟩
  have := h1.set hg hc ho
  rwa [List.set_set] at this
theorem MomI.rng {b2 b5 m bm rr : Nat} {cQ1 : Int → Prop} {w1 : World} {l left : List (Int × Value)} {q : IntKind} (h : MomI w b2 b5 fb x cQ1 m w1) (hR : RngS w1 bm rr q l left) (hc : Chg w1 w' rr) (hr : w.heap.size ≤ rr) : MomI w b2 b5 fb x cQ1 m w' := by
  obtain ⟨h1, h2, v, L, h3, h4, h5, h6⟩ := h
  obtain ⟨es, clock, since, seen, c0, hb, E, hrr, _⟩ := hR
  refine ⟨h1.trans' (hc.below hr h1.size), hc.blk h2 ?_, v, L, hc.blk h3 ?_, h4.keep fun c hcc => hc.block c (h4.lt c hcc).2 ?_, h5, h6⟩
  · intro e; subst e; have := hrr.symm.trans h2; simp at this
  · intro e; subst e; have := hrr.symm.trans h3; simp at this
  · intro e
    subst e
    rcases h4.1.2 with ⟨rfl, _⟩ | ⟨g', cap, cur, rfl, _, hgb, _⟩
    · cases hcc
    · obtain rfl := Option.some.inj hcc
      have := hrr.symm.trans hgb; simp at this
def PlM (w w' : World) (b2 b5 fb bm rr : Nat) (p : PlanD) (x : TermsD) (b : List Int) (i : Nat) (M left : List (Int × Value)) : Prop :=
  MomI w b2 b5 fb x (cA4 p x b i M left) (30 + (M.length - left.length)) w' ∧ RngS w' bm rr .i64 M left ∧ left.length ≤ M.length
theorem early_find (hF : Fit s p x) {i : Nat} (hi : i < p.steps.length) {M : List (Int × Value)} (hM : ∀ h, h ∈ M.map (·.1) ↔ (spanS p x b h).isSome = true) {L : List Int} (hL : ∀ t, t ∈ L ↔ t = x.first ∨ (x.first < t ∧ t < x.last ∧ cA4 p x b i M [] t)) :
    Sch.early (scS s p x) b i = (sortI L).find? (Sch.poss (scS s p x) b i) := by
  rw [Sch.find_least sortI_asc]
  refine early_of hF hi fun t => ?_
  rw [sortI_mem, hL t]
  refine or_congr_right ⟨fun ⟨h1, h2, h3⟩ => ⟨h1, h2, (cA4_moms hF hM h1).1 h3⟩, fun ⟨h1, h2, h3⟩ => ⟨h1, h2, (cA4_moms hF hM h1).2 h3⟩⟩
theorem set_same {l : List Int} {i : Nat} (h : Sch.at_ l i = -1) (hi : i < l.length) : l.set i (-1) = l := by
  apply List.ext_getElem
  · simp
  · intro j h1 h2
    rw [List.getElem_set]
    split
    · rename_i e; subst e; rw [← h, at_at hi]
    · rfl
end
end Go.Proofs.YtopfddchckdhgaaGreat
