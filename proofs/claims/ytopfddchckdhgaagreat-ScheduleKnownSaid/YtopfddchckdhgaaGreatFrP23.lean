
/- The layer schedule: place: what is tried for a step. -/
import Derived.Test.YtopfddchckdhgaaGreatFrR23
import Derived.Test.YtopfddchckdhgaaGreatSort23
import Derived.Test.YtopfddchckdhgaaGreatRelT
namespace Go.Proofs.YtopfddchckdhgaaGreat
set_option linter.unusedSimpArgs false
set_option linter.unusedVariables false
open Go Go.RowKit
set_option maxRecDepth 100000
set_option linter.unusedSectionVars false
set_option maxHeartbeats 2000000
/-- The box of the frame, the box of the moments, and these. -/
structure MomI (w : World) (b2 b5 fb : Nat) (x : TermsD) (cQ1 : Int → Prop) (m : Nat) (w' : World) : Prop where
  ext : Ext w w'
  k2 : Blk w' b2 83 [.pointer (some ⟨fb, 0, none⟩)]
  row : ∃ (v : Value) (L : List Int), Blk w' b5 39 [v] ∧ Own w' w.heap.size 3 1 v (L.map intC) ∧ L.length ≤ m ∧ ∀ t, t ∈ L ↔ t = x.first ∨ (x.first < t ∧ t < x.last ∧ cQ1 t)
section
variable {w w' : World} {fb : Nat} {f : FrV} {bv : Value} {s : SiteD} {p : PlanD} {x : TermsD} {b : List Int}
theorem MomI.to {b2 b5 m m' : Nat} {cQ1 cQ2 : Int → Prop} {w1 : World} (h : MomI w b2 b5 fb x cQ1 m w1) (hx : Ext w1 w') (hm : m ≤ m') (hQ : ∀ t, cQ2 t ↔ cQ1 t) : MomI w b2 b5 fb x cQ2 m' w' := by
  obtain ⟨h1, h2, v, L, h3, h4, h5, h6⟩ := h
  exact ⟨h1.trans hx, h2.ext hx, v, L, h3.ext hx, h4.ext hx, Nat.le_trans h5 hm, fun t => by rw [h6 t, hQ t]⟩
theorem frAdd {b2 b5 m : Nat} {cQ1 cQ2 : Int → Prop} {w1 : World} {t : Int} (hfr : FrR w1 fb f bv s p x b) (hw5 : w.heap.size ≤ b5) (h : MomI w b2 b5 fb x cQ1 m w1) (hm : m < 1000) (hQ : ∀ y, cQ2 y ↔ cQ1 y ∨ y = t) :
    CallsV Tryz.prog 54 #[.int .i64 t, .pointer (some ⟨b2, 0, none⟩), .pointer (some ⟨b5, 0, none⟩)] w1 fun _ w' => MomI w b2 b5 fb x cQ2 (m + 1) w' ∧ TBn (fun c => c = b5 ∨ (w.heap.size ≤ c ∧ ∃ cs, Blk w1 c 3 cs)) w1 w' := by
  have hn : Now w1 := trivial
  have rx := Ext.refl w1
  have hk := hfr.k
  obtain ⟨hx1, h2, v, L, h3, h4, h5, h6⟩ := h
  have k2 := h2.bk
  have k5 := h3.bk
  have hO := h4.o
  have hLn : L.length < 1000000000000 := by omega
  have hwB : w.heap.size ≤ w1.heap.size := hx1.size
  have hne5 : ¬ blockOf v = some b5 := by rw [h4.block]; exact h4.ne h3 (by decide)
  have hgI : Hid (∀ g, v.ownBlock = some g → w.heap.size ≤ g ∧ ∃ cs, Blk w1 g 3 cs) := fun g hg => ⟨(h4.lt g hg).1, by
    rcases h4.1.2 with ⟨rfl, _⟩ | ⟨g', cap, cur, rfl, _, hgb, _⟩
    · cases hg
    · obtain rfl := Option.some.inj hg
      exact ⟨cur.toList, hgb⟩⟩
  have h4' : Hid (Own w1 w.heap.size 3 1 v (L.map intC)) := h4
  have h2' : Hid (Blk w1 b2 83 [.pointer (some ⟨fb, 0, none⟩)]) := h2
  have h3' : Hid (Blk w1 b5 39 [v]) := h3
  have hb25 : ¬ b2 = b5 := fun e => by
    subst e
    have := h2.symm.trans h3
    simp at this
  clear h2 h3 h4 hfr
  by_cases hc : x.first < t ∧ t < x.last
  · obtain ⟨hc1, hc2⟩ := hc
    have hmem : Hid (∀ y, y ∈ L ++ [t] ↔ y = x.first ∨ (x.first < y ∧ y < x.last ∧ cQ2 y)) := fun y => by
      rw [List.mem_append, h6 y, List.mem_singleton, hQ y]
      constructor
      · rintro ((h | ⟨h, h', h''⟩) | rfl)
        · exact .inl h
        · exact .inr ⟨h, h', .inl h''⟩
        · exact .inr ⟨hc1, hc2, .inr rfl⟩
      · rintro (h | ⟨h, h', h'' | h''⟩)
        · exact .inl (.inl h)
        · exact .inl (.inr ⟨h, h', h''⟩)
        · exact .inr h''
    clear h6 hQ
    (refine callsV_of Tryz.func54 rfl KR KR ?_; rw [Tryz.results54])
    (repeat' first
    | with_reducible first | exact ⟨⟩ | (refine gB ?_; intros) | refine gT ?_ ?_
    | refine gs ?_
    | refine sx ?_)
    rename_i b7 w7 n7 k7 s7 q7 e7
    have hx17 : Ext w1 w7 := FR
    refine append_both (e := 3) (sz := 1) (by_ := 8) (z := .int .i64 0) (c := intC) t KR KR rfl (by decide) (by decide) (h4'.out.ext hx17) (k7.2.1 _ k7.2.2.1) rfl (by simp [intC, intV, one_int]) hLn (Nat.le_trans hwB hx17.size) (fun v' w8 hfull hx8 ho8 => ?_) fun g cp w8 hv hcp hc8 ho8 => ?_
    · have s8 := hx8.st
      have n8 : Now w8 := trivial
      have r8 := Ext.refl w8
      have hv1 := ho8.one
      have F : Hid (∀ w9, Blk w9 b5 39 [v'] → Chg w8 w9 b5 → MomI w b2 b5 fb x cQ2 (m + 1) w9 ∧ TBn (fun c => c = b5 ∨ (w.heap.size ≤ c ∧ ∃ cs, Blk w1 c 3 cs)) w1 w9) := fun w9 h9 c9 => by
        have hx18 : Ext w1 w8 := hx17.trans hx8
        refine ⟨⟨(hx1.trans hx18).trans' (c9.below hw5 (hx1.trans hx18).size), c9.blk (h2'.out.ext hx18) hb25, v', L ++ [t], h9, ?_, by simp; omega, hmem.out⟩, (TBn.of_ext hx18).trans (TBn.of_chg c9 (.inl rfl))⟩
        refine (ho8.more (Nat.le_trans hwB hx17.size)).keep fun c hc => c9.block c (ho8.lt c hc).2 fun e => ?_
        have := (ho8.lt c hc).1
        have h5 := h3'.out.lt
        have := hx17.size
        omega
      clear ho8 hO hk k2
      (repeat' first
    | with_reducible first | exact ⟨⟩ | (refine gB ?_; intros) | refine gT ?_ ?_
    | refine gs ?_
    | refine sx ?_)
      refine fun hb => store_intro (i := 0) KR hb (by simp) hv1 fun w9 hb9 c9 => ?_
      have n9 : Now w9 := trivial
      have F9 : Hid _ := F.out w9 hb9 c9
      clear hb9 c9
      (repeat' first
    | with_reducible first | exact ⟨⟩ | (refine gB ?_; intros) | refine gT ?_ ?_
    | refine gs ?_
    | refine sx ?_)
      all_goals exact F9.out
    · have n8 : Now w8 := trivial
      subst hv
      have hgb : w.heap.size ≤ g ∧ ∃ cs, Blk w1 g 3 cs := hgI.out g rfl
      have hg1 : g < w1.heap.size := (h4'.out.lt g rfl).2
      have hg5 : ¬ g = b5 := fun e => hne5 (by rw [e]; rfl)
      have hg2 : ¬ b2 = g := fun e => by
        obtain ⟨_, cs, hcs⟩ := hgb
        subst e
        have := hcs.symm.trans h2'.out
        simp at this
      have h58 : Blk w8 b5 39 [.slice (some ⟨g, 0, none⟩) L.length cp] := hc8.blk (h3'.out.ext hx17) fun e => hg5 e.symm
      have k58 := h58.bk
      have F : Hid (∀ w9, Blk w9 b5 39 [.slice (some ⟨g, 0, none⟩) (L.length + 1) cp] → Chg w8 w9 b5 → MomI w b2 b5 fb x cQ2 (m + 1) w9 ∧ TBn (fun c => c = b5 ∨ (w.heap.size ≤ c ∧ ∃ cs, Blk w1 c 3 cs)) w1 w9) := fun w9 h9 c9 => by
        have h28 : Blk w8 b2 83 [.pointer (some ⟨fb, 0, none⟩)] := hc8.blk (h2'.out.ext hx17) hg2
        refine ⟨⟨((hx1.trans hx17).trans' (hc8.below hgb.1 (hx1.trans hx17).size)).trans' (c9.below hw5 (Nat.le_trans (hx1.trans hx17).size hc8.size)), c9.blk h28 hb25, _, L ++ [t], h9, ?_, by simp; omega, hmem.out⟩, ((TBn.of_ext hx17).trans (TBn.of_chg hc8 (.inr hgb))).trans (TBn.of_chg c9 (.inl rfl))⟩
        exact ho8.keep fun c hc => by
          obtain rfl := Option.some.inj hc
          exact c9.block _ (ho8.lt _ rfl).2 fun e => hg5 e
      clear ho8 hO hk k2 k5 hc8
      (repeat' first
    | with_reducible first | exact ⟨⟩ | (refine gB ?_; intros) | refine gT ?_ ?_
    | refine gs ?_
    | refine sx ?_)
      refine fun hb => store_intro (i := 0) KR hb (by simp) rfl fun w9 hb9 c9 => ?_
      have n9 : Now w9 := trivial
      have F9 : Hid _ := F.out w9 hb9 c9
      clear hb9 c9
      (repeat' first
    | with_reducible first | exact ⟨⟩ | (refine gB ?_; intros) | refine gT ?_ ?_
    | refine gs ?_
    | refine sx ?_)
      all_goals exact F9.out
  · have hmem : Hid (∀ y, y ∈ L ↔ y = x.first ∨ (x.first < y ∧ y < x.last ∧ cQ2 y)) := fun y => by
      rw [h6 y, hQ y]
      constructor
      · rintro (h | ⟨h, h', h''⟩)
        · exact .inl h
        · exact .inr ⟨h, h', .inl h''⟩
      · rintro (h | ⟨h, h', h'' | rfl⟩)
        · exact .inl h
        · exact .inr ⟨h, h', h''⟩
        · exact absurd ⟨h, h'⟩ hc
    have hc' : Hid _ := hc
    clear h6 hQ hc
    (refine callsV_of Tryz.func54 rfl KR KR ?_; rw [Tryz.results54])
    have F : Hid (∀ w9, Ext w1 w9 → MomI w b2 b5 fb x cQ2 (m + 1) w9 ∧ TBn (fun c => c = b5 ∨ (w.heap.size ≤ c ∧ ∃ cs, Blk w1 c 3 cs)) w1 w9) := fun w9 h9 => ⟨⟨hx1.trans h9, h2'.out.ext h9, v, L, h3'.out.ext h9, h4'.out.ext h9, by omega, hmem.out⟩, TBn.of_ext h9⟩
    clear hO
    (repeat' first
    | with_reducible first | exact ⟨⟩ | (refine gB ?_; intros) | refine gT ?_ ?_
    | refine gs ?_
    | refine sx ?_)
    · exact absurd ⟨by assumption, by assumption⟩ hc'.out
    all_goals exact F.out _ FR
end
end Go.Proofs.YtopfddchckdhgaaGreat
