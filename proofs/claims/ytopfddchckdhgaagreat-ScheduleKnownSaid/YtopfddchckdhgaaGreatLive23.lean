
/- The examples of the statements on layer 23: house, two, terms. -/
import Derived.Test.YtopfddchckdhgaaGreatCk23
import Derived.Test.YtopfddchckdhgaaGreatAt23
import Derived.Test.YtopfddchckdhgaaGreatRelS23
import Derived.Test.YtopfddchckdhgaaGreatRelT
namespace Go.Proofs.YtopfddchckdhgaaGreat
set_option linter.unusedSimpArgs false
set_option linter.unusedVariables false
open Go Go.RowKit
set_option maxRecDepth 100000
set_option linter.unusedSectionVars false
set_option maxHeartbeats 4000000
/-- append to a row of the call's own: what else is there stays. -/
theorem appG {α : Type} {w : World} {B b cp e sz by_ t : Nat} {s z : Value} {c : α → List Value} {l : List α} (x : α) {k : Value → World → Prop} (hsl : slOf Tryz.prog t = some (e, sz, by_)) (hz : zeroElt Tryz.prog t = some z) (hzs : (cellsL z).length = sz) (hsz : 0 < sz) (hby : by_ ≤ 64)
    (hown : Own w B e sz s (l.map c)) (hb : Blk w b e (c x)) (hl : (c x).length = sz) (h1 : ∀ v ∈ c x, v.oneCell' = true) (hbound : l.length < 1000000000000) (hB : B ≤ w.heap.size)
    (h : ∀ v' w', Now w' → TBn (fun c => s.ownBlock = some c) w w' → Own w' B e sz v' ((l ++ [x]).map c) → k v' w') : appX Tryz.prog t t t s (.slice (some ⟨b, 0, none⟩) 1 cp) w k := by
  refine append_both x hsl hz hzs hsz hby hown hb hl h1 hbound hB ?_ ?_
  · intro v' w' _ hx ho
    exact h v' w' trivial (TBn.of_ext hx) (ho.more hB)
  · intro g cp' w' e _ hc ho
    subst e
    exact h _ w' trivial (TBn.of_chg hc rfl) ho
theorem row_of {w : World} {b t n sz : Nat} {cells : List Value} {l : List (List Value)} (hb : Blk w b t cells) (hc : cells = l.flatten) (hn : n = l.length) (hl : ∀ c ∈ l, c.length = sz) (hs : l.length ≤ 140737488355328) : Sl w w.heap.size (some sz) sz (.slice (some ⟨b, 0, none⟩) n n) (l.map fun c => .agg c.toArray) := by
  subst hn
  have h := Own.ofBlk (B := 0) (cs := l) (by rw [← hc]; exact hb) hl (Nat.zero_le _) hs
  have := (show Own w 0 t sz _ (l.map id) by rwa [List.map_id]).slN (f := id)
  exact this
def hostC (i : Nat) : List Value := [.int .i64 ((i % 2 : Nat) : Int), .int .i64 1, .int .i64 0, .int .i64 0]
def houseD (n : Nat) : SiteD := ⟨[⟨0⟩], [⟨0, 0, 0, 0⟩], [⟨0, 0⟩], [⟨0, 0, 0, 0⟩, ⟨1, 0, 0, 0⟩], 1, [], (List.range n).map fun i => ⟨((i % 2 : Nat) : Int), 1, 0, 0⟩⟩
/-- The rows of a house, and its box. -/
structure HoI (w : World) (b2 b3 c0 c1 c2 c5 : Nat) (k : Nat) (w' : World) : Prop where
  ext : Ext w w'
  kb : Blk w' b2 29 [.slice none 0 0, .slice none 0 0, .slice none 0 0, .slice none 0 0, .int .i64 0, .slice none 0 0, .slice none 0 0]
  k0 : Blk w' c0 134 [.int .i64 0]
  k1 : Blk w' c1 138 [.int .i64 0, .int .i64 0, .int .i64 0, .int .i64 0]
  k2 : Blk w' c2 142 [.int .i64 0, .int .i64 0]
  k5 : Blk w' c5 107 [.int .i64 0, .int .i64 0, .int .i64 0, .int .i64 0, .int .i64 1, .int .i64 0, .int .i64 0, .int .i64 0]
  row : ∃ hv, Blk w' b3 29 [.slice (some ⟨c0, 0, none⟩) 1 1, .slice (some ⟨c1, 0, none⟩) 1 1, .slice (some ⟨c2, 0, none⟩) 1 1, .slice (some ⟨c5, 0, none⟩) 2 2, .int .i64 1, .slice none 0 0, hv] ∧ Own w' w.heap.size 109 4 hv ((List.range k).map hostC)
def siteW (c0 c1 c2 c5 : Nat) (hv : Value) : List Value := [.slice (some ⟨c0, 0, none⟩) 1 1, .slice (some ⟨c1, 0, none⟩) 1 1, .slice (some ⟨c2, 0, none⟩) 1 1, .slice (some ⟨c5, 0, none⟩) 2 2, .int .i64 1, .slice none 0 0, hv]
def HouV (w : World) (v : Value) (n : Nat) : Prop := ∃ c0 c1 c2 c5 hv B, v = .agg (siteW c0 c1 c2 c5 hv).toArray ∧ Blk w c0 134 [.int .i64 0] ∧ Blk w c1 138 [.int .i64 0, .int .i64 0, .int .i64 0, .int .i64 0] ∧ Blk w c2 142 [.int .i64 0, .int .i64 0] ∧ Blk w c5 107 [.int .i64 0, .int .i64 0, .int .i64 0, .int .i64 0, .int .i64 1, .int .i64 0, .int .i64 0, .int .i64 0] ∧ Own w B 109 4 hv ((List.range n).map hostC)
/-- The same, in memory from W on. -/
def HouW (W : Nat) (w : World) (v : Value) (n : Nat) : Prop := ∃ c0 c1 c2 c5 hv, v = .agg (siteW c0 c1 c2 c5 hv).toArray ∧ Blk w c0 134 [.int .i64 0] ∧ Blk w c1 138 [.int .i64 0, .int .i64 0, .int .i64 0, .int .i64 0] ∧ Blk w c2 142 [.int .i64 0, .int .i64 0] ∧ Blk w c5 107 [.int .i64 0, .int .i64 0, .int .i64 0, .int .i64 0, .int .i64 1, .int .i64 0, .int .i64 0, .int .i64 0] ∧ Own w W 109 4 hv ((List.range n).map hostC) ∧ (W ≤ c0 ∧ W ≤ c1 ∧ W ≤ c2 ∧ W ≤ c5)
def stepsC4 : List Value := [.int .u8 3, .int .i64 0, .int .i64 0, .int .i64 0, .int .u8 4, .int .i64 0, .int .i64 0, .int .i64 0, .int .u8 3, .int .i64 1, .int .i64 0, .int .i64 0, .int .u8 4, .int .i64 1, .int .i64 0, .int .i64 0]
def twoD : PlanD := ⟨[⟨3, 0, 0, 0⟩, ⟨4, 0, 0, 0⟩, ⟨3, 1, 0, 0⟩, ⟨4, 1, 0, 0⟩], [[], [0], [], [2]]⟩
def TwoV (w : World) (v : Value) : Prop := ∃ b1 b2 b3 b4, v = .agg #[.slice (some ⟨b1, 0, none⟩) 4 4, .slice (some ⟨b4, 0, none⟩) 4 4] ∧ Blk w b1 71 stepsC4 ∧ Blk w b2 3 [.int .i64 0] ∧ Blk w b3 3 [.int .i64 2] ∧ Blk w b4 39 [.slice none 0 0, .slice (some ⟨b2, 0, none⟩) 1 1, .slice none 0 0, .slice (some ⟨b3, 0, none⟩) 1 1]
section
variable {w w' : World}
theorem HouV.ext {v : Value} {n : Nat} (h : HouV w v n) (hx : Ext w w') : HouV w' v n := by
  obtain ⟨a, b, c, d, hv, B, e, k0, k1, k2, k5, o⟩ := h
  exact ⟨a, b, c, d, hv, B, e, k0.ext hx, k1.ext hx, k2.ext hx, k5.ext hx, o.ext hx⟩
theorem HouV.fr {v : Value} {n b T : Nat} {z : List Value} (h : HouV w v n) (hz : Blk w b T z) (hc : Chg w w' b) (h1 : T ≠ 134 ∧ T ≠ 138 ∧ T ≠ 142 ∧ T ≠ 107 ∧ T ≠ 109 := by decide) : HouV w' v n := by
  obtain ⟨a, c1, c, d, hv, B, e, k0, k1, k2, k5, o⟩ := h
  exact ⟨a, c1, c, d, hv, B, e, k0.fr hz hc (.inl h1.1), k1.fr hz hc (.inl h1.2.1), k2.fr hz hc (.inl h1.2.2.1), k5.fr hz hc (.inl h1.2.2.2.1), o.fr hz hc (.inl h1.2.2.2.2)⟩
theorem HouW.v {v : Value} {n W : Nat} (h : HouW W w v n) : HouV w v n := by
  obtain ⟨a, b, c, d, hv, e, k0, k1, k2, k5, o, _⟩ := h
  exact ⟨a, b, c, d, hv, _, e, k0, k1, k2, k5, o⟩
theorem HouW.more {v : Value} {n W W' : Nat} (h : HouW W w v n) (hW : W' ≤ W) : HouW W' w v n := by
  obtain ⟨a, b, c, d, hv, e, k0, k1, k2, k5, o, l0, l1, l2, l3⟩ := h
  exact ⟨a, b, c, d, hv, e, k0, k1, k2, k5, o.more hW, by omega, by omega, by omega, by omega⟩
theorem HouW.tb {X : Nat → Prop} {v : Value} {n W : Nat} (h : HouW W w v n) (hx : TBn X w w') (hX : ∀ b, X b → b < W) : HouW W w' v n := by
  obtain ⟨a, b, c, d, hv, e, k0, k1, k2, k5, o, l0, l1, l2, l3⟩ := h
  have key : ∀ {y}, W ≤ y → ¬ X y := fun hy hXy => by have := hX _ hXy; omega
  exact ⟨a, b, c, d, hv, e, k0.tb hx (key l0), k1.tb hx (key l1), k2.tb hx (key l2), k5.tb hx (key l3), o.tb hx hX, l0, l1, l2, l3⟩
theorem HouV.site {v : Value} {n : Nat} (h : HouV w v n) : ∃ u, v = .agg (siteC u (houseD n)).toArray ∧ SiteR w w.heap.size u (houseD n) := by
  obtain ⟨d0, d1, d2, d5, hv, B, rfl, k0, k1, k2, k5, o⟩ := h
  refine ⟨⟨.slice (some ⟨d0, 0, none⟩) 1 1, .slice (some ⟨d1, 0, none⟩) 1 1, .slice (some ⟨d2, 0, none⟩) 1 1, .slice (some ⟨d5, 0, none⟩) 2 2, .slice none 0 0, hv⟩, rfl, ?_⟩
  refine ⟨row_of (l := [[intV 0]]) k0 rfl rfl (by simp) (by simp), row_of (l := [[intV 0, intV 0, intV 0, intV 0]]) k1 rfl rfl (by simp) (by simp), row_of (l := [[intV 0, intV 0]]) k2 rfl rfl (by simp) (by simp), row_of (l := [[intV 0, intV 0, intV 0, intV 0], [intV 1, intV 0, intV 0, intV 0]]) k5 rfl rfl (by simp) (by simp), Sl.nil _ _ _ _, ?_⟩
  have := o.slN (f := hostC)
  simp only [houseD, List.map_map]
  exact this
theorem TwoV.ext {v : Value} (h : TwoV w v) (hx : Ext w w') : TwoV w' v := by
  obtain ⟨a, b, c, d, e, k0, k1, k2, k5⟩ := h
  exact ⟨a, b, c, d, e, k0.ext hx, k1.ext hx, k2.ext hx, k5.ext hx⟩
theorem TwoV.fr {v : Value} {b T : Nat} {z : List Value} (h : TwoV w v) (hz : Blk w b T z) (hc : Chg w w' b) (h1 : T ≠ 71 ∧ T ≠ 3 ∧ T ≠ 39 := by decide) : TwoV w' v := by
  obtain ⟨a, c1, c, d, e, k0, k1, k2, k5⟩ := h
  exact ⟨a, c1, c, d, e, k0.fr hz hc (.inl h1.1), k1.fr hz hc (.inl h1.2.1), k2.fr hz hc (.inl h1.2.1), k5.fr hz hc (.inl h1.2.2)⟩
theorem TwoV.plan {v : Value} (h : TwoV w v) : ∃ sv av vs, v = .agg #[sv, av] ∧ PlanT w w.heap.size sv av vs twoD := by
  obtain ⟨b1, b2, b3, b4, rfl, h1, h2, h3, h4⟩ := h
  refine ⟨_, _, [.slice none 0 0, .slice (some ⟨b2, 0, none⟩) 1 1, .slice none 0 0, .slice (some ⟨b3, 0, none⟩) 1 1], rfl, ?_, ?_⟩
  · exact row_of (l := [[.int .u8 3, intV 0, intV 0, intV 0], [.int .u8 4, intV 0, intV 0, intV 0], [.int .u8 3, intV 1, intV 0, intV 0], [.int .u8 4, intV 1, intV 0, intV 0]]) h1 rfl rfl (by simp) (by simp)
  · refine ⟨row_sl h4 rfl (by simp), rfl, fun i hi => ?_⟩
    have hi4 : i < 4 := hi
    rcases (by omega : i = 0 ∨ i = 1 ∨ i = 2 ∨ i = 3) with rfl | rfl | rfl | rfl
    · exact ⟨_, rfl, Sl.nil _ _ _ _⟩
    · exact ⟨_, rfl, row_sl (l := [intV 0]) h2 rfl (by simp)⟩
    · exact ⟨_, rfl, Sl.nil _ _ _ _⟩
    · exact ⟨_, rfl, row_sl (l := [intV 2]) h3 rfl (by simp)⟩
theorem HoI.step {b2 b3 c0 c1 c2 c5 k : Nat} {w3 w4 w5 : World} {hv v' : Value} (h : HoI w b2 b3 c0 c1 c2 c5 k w3) (ho : Own w3 w.heap.size 109 4 hv ((List.range k).map hostC)) (hx : Ext w3 w4) (ht : TBn (fun c => hv.ownBlock = some c) w4 w5) (hc : Chg w5 w' b3) (hb : Blk w' b3 29 (siteW c0 c1 c2 c5 v')) (ho' : Own w5 w.heap.size 109 4 v' ((List.range k ++ [k]).map hostC)) (hne : ¬ b2 = b3) (hw : w.heap.size ≤ b3) : HoI w b2 b3 c0 c1 c2 c5 (k + 1) w' := by
  obtain ⟨h1, h2, k0, k1, k2, k5, hv', k7, _⟩ := h
  have o4 := ho.ext hx
  have hx5 : Ext w w5 := (h1.trans hx).trans' ⟨ht.os, ht.tape, ht.output, ht.size, fun c hc => ht.block c (Nat.lt_of_lt_of_le hc (h1.trans hx).size) fun e => by have := (o4.lt c e).1; omega⟩
  have key : ∀ {c : Nat} {t : TypeId} {cs : List Value}, Blk w3 c t cs → t ≠ 109 → Blk w5 c t cs := fun hk hne => (ht.block _ (hk.ext hx).lt (o4.ne (hk.ext hx) hne)).trans (hk.ext hx)
  refine ⟨hx5.trans' (hc.below hw hx5.size), hc.blk (key h2 (by decide)) hne, hc.blk (key k0 (by decide)) ?_, hc.blk (key k1 (by decide)) ?_, hc.blk (key k2 (by decide)) ?_, hc.blk (key k5 (by decide)) ?_, v', hb, ?_⟩
  · exact k0.ne k7 (by decide)
  · exact k1.ne k7 (by decide)
  · exact k2.ne k7 (by decide)
  · exact k5.ne k7 (by decide)
  · rw [List.range_succ]
    refine ho'.keep fun c hcc => hc.block c (ho'.lt c hcc).2 fun e => ?_
    subst e
    have h7 : Blk w5 c 29 _ := key k7 (by decide)
    exact ho'.ne h7 (by decide) hcc
theorem law23houseW {n : Nat} (hn : n ≤ 16) : CallsV Tryz.prog 17 #[.int .i64 n] w fun r w' => Ext w w' ∧ HouW w.heap.size w' r n := by
  have hn : Now w := trivial
  have hx : Ext w w := Ext.refl w
  (refine callsV_of Tryz.func17 rfl KR KR ?_; rw [Tryz.results17])
  (repeat' first
    | ((with_reducible refine wpd_at 1 ?_); refine wpd_hold ?_)
    | with_reducible first | exact ⟨⟩ | (refine gB ?_; intros) | refine gT ?_ ?_
    | refine gs ?_
    | refine sx ?_)
  rename_i b2 w2 n2 k2 s2 q2
  have hx2 : Ext w w2 := FR
  have K2 : Blk w2 b2 29 [.slice none 0 0, .slice none 0 0, .slice none 0 0, .slice none 0 0, .int .i64 0, .slice none 0 0, .slice none 0 0] := k2.2.1 _ FR
  have hw2 : w.heap.size ≤ b2 := FR
  have r2 := Ext.refl w2
  unfold wpdH
  refine wpd_rel 8 (fun iI v w9 => match iI with
    | 0 => ∃ c, v = .slice (some ⟨c, 0, none⟩) 1 1 ∧ Blk w9 c 134 [.int .i64 0] ∧ w2.heap.size ≤ c
    | 1 => ∃ c, v = .slice (some ⟨c, 0, none⟩) 1 1 ∧ Blk w9 c 138 [.int .i64 0, .int .i64 0, .int .i64 0, .int .i64 0] ∧ w2.heap.size ≤ c
    | 2 => ∃ c, v = .slice (some ⟨c, 0, none⟩) 1 1 ∧ Blk w9 c 142 [.int .i64 0, .int .i64 0] ∧ w2.heap.size ≤ c
    | 3 => v = .agg #[.int .i64 0, .int .i64 0, .int .i64 0, .int .i64 0]
    | 4 => v = .agg #[.int .i64 1, .int .i64 0, .int .i64 0, .int .i64 0]
    | 5 => ∃ b, v = .slice (some ⟨b, 0, none⟩) 2 2 ∧ Blk w9 b 107 [.int .i64 0, .int .i64 0, .int .i64 0, .int .i64 0, .int .i64 1, .int .i64 0, .int .i64 0, .int .i64 0] ∧ w2.heap.size ≤ b
    | 6 => ∃ c0 c1 c2 c5, v = .agg #[.slice (some ⟨c0, 0, none⟩) 1 1, .slice (some ⟨c1, 0, none⟩) 1 1, .slice (some ⟨c2, 0, none⟩) 1 1, .slice (some ⟨c5, 0, none⟩) 2 2, .int .i64 1, .slice none 0 0, .slice none 0 0] ∧ Blk w9 c0 134 [.int .i64 0] ∧ Blk w9 c1 138 [.int .i64 0, .int .i64 0, .int .i64 0, .int .i64 0] ∧ Blk w9 c2 142 [.int .i64 0, .int .i64 0] ∧ Blk w9 c5 107 [.int .i64 0, .int .i64 0, .int .i64 0, .int .i64 0, .int .i64 1, .int .i64 0, .int .i64 0, .int .i64 0] ∧ (w2.heap.size ≤ c0 ∧ w2.heap.size ≤ c1 ∧ w2.heap.size ≤ c2 ∧ w2.heap.size ≤ c5)
    | 7 => ∃ b, v = .pointer (some ⟨b, 0, none⟩) ∧ Blk w9 b 29 [.slice none 0 0, .slice none 0 0, .slice none 0 0, .slice none 0 0, .int .i64 0, .slice none 0 0, .slice none 0 0] ∧ w2.heap.size ≤ b
    | _ => False) KR KR KR ?_ ?_ ?_
  · intro iI v w1 w2 hR hx9
    match iI, hR with
    | 0, h => exact (let ⟨c, e, k, l⟩ := h; ⟨c, e, k.ext hx9, l⟩)
    | 1, h => exact (let ⟨c, e, k, l⟩ := h; ⟨c, e, k.ext hx9, l⟩)
    | 2, h => exact (let ⟨c, e, k, l⟩ := h; ⟨c, e, k.ext hx9, l⟩)
    | 3, h => exact h
    | 4, h => exact h
    | 5, ⟨b, e, h1, h2⟩ => exact ⟨b, e, h1.ext hx9, h2⟩
    | 6, h => exact (let ⟨a, b, c, d, e, m1, m2, m3, m4, m5⟩ := h; ⟨a, b, c, d, e, m1.ext hx9, m2.ext hx9, m3.ext hx9, m4.ext hx9, m5⟩)
    | 7, ⟨b, e, h1, h2⟩ => exact ⟨b, e, h1.ext hx9, h2⟩
  · intro iI oO hi ho gF w9 hx9 hdep hag
    have s9 := hx9.st
    have n9 : Now w9 := trivial
    have r9 := Ext.refl w9
    have z9 := hx9.size
    rcases iI with _|_|_|_|_|_|_|_|iI
    · have e := Option.some.inj ho
      subst e
      clear hag hdep ho
      refine relStep_off rfl ?_
      (repeat' first
    | with_reducible first | exact ⟨⟩ | (refine gB ?_; intros) | refine gT ?_ ?_
    | refine gs ?_
    | refine sx ?_)
      refine mk_own_k (n := 1) (z := .agg #[.int .i64 0]) rfl (by decide) (by decide) (by decide) fun b10 w10 n10 k10 s10 q10 => ?_
      exact ⟨s10.2.2.1 _ r9, b10, rfl, k10, q10.2.1 _ z9⟩
    · have e := Option.some.inj ho
      subst e
      clear hag hdep ho
      refine relStep_off rfl ?_
      (repeat' first
    | with_reducible first | exact ⟨⟩ | (refine gB ?_; intros) | refine gT ?_ ?_
    | refine gs ?_
    | refine sx ?_)
      refine mk_own_k (n := 1) (z := .agg #[.int .i64 0, .int .i64 0, .int .i64 0, .int .i64 0]) rfl (by decide) (by decide) (by decide) fun b10 w10 n10 k10 s10 q10 => ?_
      exact ⟨s10.2.2.1 _ r9, b10, rfl, k10, q10.2.1 _ z9⟩
    · have e := Option.some.inj ho
      subst e
      clear hag hdep ho
      refine relStep_off rfl ?_
      (repeat' first
    | with_reducible first | exact ⟨⟩ | (refine gB ?_; intros) | refine gT ?_ ?_
    | refine gs ?_
    | refine sx ?_)
      refine mk_own_k (n := 1) (z := .agg #[.int .i64 0, .int .i64 0]) rfl (by decide) (by decide) (by decide) fun b10 w10 n10 k10 s10 q10 => ?_
      exact ⟨s10.2.2.1 _ r9, b10, rfl, k10, q10.2.1 _ z9⟩
    · have e := Option.some.inj ho
      subst e
      clear hag hdep ho
      refine relStep_off rfl ?_
      (repeat' first
    | with_reducible first | exact ⟨⟩ | (refine gB ?_; intros) | refine gT ?_ ?_
    | refine gs ?_
    | refine sx ?_)
    · have e := Option.some.inj ho
      subst e
      clear hag hdep ho
      refine relStep_off rfl ?_
      (repeat' first
    | with_reducible first | exact ⟨⟩ | (refine gB ?_; intros) | refine gT ?_ ?_
    | refine gs ?_
    | refine sx ?_)
    · have e := Option.some.inj ho
      subst e
      have d3 : (gF 8) = .agg #[.int .i64 0, .int .i64 0, .int .i64 0, .int .i64 0] := hdep ⟨3, .data⟩ (by simp) rfl _ _ rfl rfl
      have d4 : (gF 9) = .agg #[.int .i64 1, .int .i64 0, .int .i64 0, .int .i64 0] := hdep ⟨4, .data⟩ (by simp) rfl _ _ rfl rfl
      clear hag hdep ho
      refine relStep_off rfl ?_
      (repeat' first
    | with_reducible first | exact ⟨⟩ | (refine gB ?_; intros) | refine gT ?_ ?_
    | refine gs ?_
    | refine sx ?_)
      first
        | (rename_i b10 w10 n10 k10 s10 q10; exact ⟨_, rfl, k10.2.1 _ k10.2.2.1, FR⟩)
        | (rename_i b10 w10 n10 k10 s10 q10 l10; exact ⟨_, rfl, k10.2.1 _ k10.2.2.1, FR⟩)
    · have e := Option.some.inj ho
      subst e
      have d0 : ∃ c, (gF 5) = .slice (some ⟨c, 0, none⟩) 1 1 ∧ Blk w9 c 134 [.int .i64 0] ∧ w2.heap.size ≤ c := hdep ⟨0, .data⟩ (by simp) rfl _ _ rfl rfl
      obtain ⟨c0, e0, k0, l0⟩ := d0
      have d1 : ∃ c, (gF 6) = .slice (some ⟨c, 0, none⟩) 1 1 ∧ Blk w9 c 138 [.int .i64 0, .int .i64 0, .int .i64 0, .int .i64 0] ∧ w2.heap.size ≤ c := hdep ⟨1, .data⟩ (by simp) rfl _ _ rfl rfl
      obtain ⟨c1, e1, k1, l1⟩ := d1
      have d2 : ∃ c, (gF 7) = .slice (some ⟨c, 0, none⟩) 1 1 ∧ Blk w9 c 142 [.int .i64 0, .int .i64 0] ∧ w2.heap.size ≤ c := hdep ⟨2, .data⟩ (by simp) rfl _ _ rfl rfl
      obtain ⟨c2, e2, k22, l2⟩ := d2
      have d5 : ∃ b, (gF 10) = .slice (some ⟨b, 0, none⟩) 2 2 ∧ Blk w9 b 107 [.int .i64 0, .int .i64 0, .int .i64 0, .int .i64 0, .int .i64 1, .int .i64 0, .int .i64 0, .int .i64 0] ∧ w2.heap.size ≤ b := hdep ⟨5, .data⟩ (by simp) rfl _ _ rfl rfl
      obtain ⟨b5, e5, hb5, q5⟩ := d5
      have k5 := hb5.bk
      have nw5 := Nw.of q5
      clear hag hdep ho
      refine relStep_off rfl ?_
      (repeat' first
    | with_reducible first | exact ⟨⟩ | (refine gB ?_; intros) | refine gT ?_ ?_
    | refine gs ?_
    | refine sx ?_)
      exact ⟨c0, c1, c2, b5, rfl, k0, k1, k22, hb5, l0, l1, l2, q5⟩
    · have e := Option.some.inj ho
      subst e
      clear hag hdep ho
      refine relStep_off rfl ?_
      (repeat' first
    | with_reducible first | exact ⟨⟩ | (refine gB ?_; intros) | refine gT ?_ ?_
    | refine gs ?_
    | refine sx ?_)
      first
        | (rename_i b10 w10 n10 k10 s10 q10; exact ⟨_, rfl, k10.2.1 _ k10.2.2.1, FR⟩)
        | (rename_i b10 w10 n10 k10 s10 q10 l10; exact ⟨_, rfl, k10.2.1 _ k10.2.2.1, FR⟩)
    · omega
  · intro g9 w9 hx9 hR hag
    have s9 := hx9.st
    have n9 : Now w9 := trivial
    have r9 := Ext.refl w9
    have z9 := hx9.size
    have d6 : ∃ c0 c1 c2 c5, (g9 11) = .agg #[.slice (some ⟨c0, 0, none⟩) 1 1, .slice (some ⟨c1, 0, none⟩) 1 1, .slice (some ⟨c2, 0, none⟩) 1 1, .slice (some ⟨c5, 0, none⟩) 2 2, .int .i64 1, .slice none 0 0, .slice none 0 0] ∧ Blk w9 c0 134 [.int .i64 0] ∧ Blk w9 c1 138 [.int .i64 0, .int .i64 0, .int .i64 0, .int .i64 0] ∧ Blk w9 c2 142 [.int .i64 0, .int .i64 0] ∧ Blk w9 c5 107 [.int .i64 0, .int .i64 0, .int .i64 0, .int .i64 0, .int .i64 1, .int .i64 0, .int .i64 0, .int .i64 0] ∧ (w2.heap.size ≤ c0 ∧ w2.heap.size ≤ c1 ∧ w2.heap.size ≤ c2 ∧ w2.heap.size ≤ c5) := hR 6 _ _ (by decide) rfl rfl
    obtain ⟨d0, d1, d2, d5, e6, m0, m1, m2, m5, l6⟩ := d6
    have d7 : ∃ b, (g9 3) = .pointer (some ⟨b, 0, none⟩) ∧ Blk w9 b 29 [.slice none 0 0, .slice none 0 0, .slice none 0 0, .slice none 0 0, .int .i64 0, .slice none 0 0, .slice none 0 0] ∧ w2.heap.size ≤ b := hR 7 _ _ (by decide) rfl rfl
    obtain ⟨b7, e7, hb7, q7⟩ := d7
    have k7 := hb7.bk
    have nw7 := Nw.of q7
    have a0 := hag.at 0 KR
    have a2 := hag.at 2 KR
    have a29 := hag.at 29 KR
    simp only [S5, ↓reduceIte, Nat.reduceEqDiff, initF, *] at a0 a2 a29
    clear hag hR
    simp only [List.drop_succ_cons, List.drop_zero]
    have hl6 : Hid (w.heap.size ≤ d0 ∧ w.heap.size ≤ d1 ∧ w.heap.size ≤ d2 ∧ w.heap.size ≤ d5) := by have := hx2.size; exact show w.heap.size ≤ d0 ∧ w.heap.size ≤ d1 ∧ w.heap.size ≤ d2 ∧ w.heap.size ≤ d5 by omega
    clear l6
    have kk0 := m0.bk
    have kk1 := m1.bk
    have kk2 := m2.bk
    have kk5 := m5.bk
    have g0 := m0.ne hb7 (by decide)
    have g1 := m1.ne hb7 (by decide)
    have g2 := m2.ne hb7 (by decide)
    have g5 := m5.ne hb7 (by decide)
    have hb27 : ¬ b2 = b7 := by have h1 := K2.lt; omega
    have hw7 : w.heap.size ≤ b7 := Nat.le_trans hx2.size q7
    have hx9' : Ext w w9 := hx2.trans hx9
    have K29 := (K2.ext hx9).bk
    have hmx : n ≤ 9223372036854775807 := by omega
    (repeat' first
    | with_reducible first | exact ⟨⟩ | (refine gB ?_; intros) | refine gT ?_ ?_
    | refine gs ?_
    | refine sx ?_)
    rename_i wL nL kL sL
    have I0 : Hid (HoI w b2 b7 d0 d1 d2 d5 0 wL) := ⟨FR, K29.2.1 _ FR, kk0.2.1 _ FR, kk1.2.1 _ FR, kk2.2.1 _ FR, kk5.2.1 _ FR, .slice none 0 0, kL.2.1 _ FR, Own.nil _ _ _ _⟩
    clear kk0 kk1 kk2 kk5 m0 m1 m2 m5 kL sL K29 hb7 k7 nw7 k2 s2 q2 K2
    refine loop_g n (fun g0 k g w' => g 4 = .int .i64 (k : Int) ∧ (g 0 = g0 0 ∧ g 2 = g0 2 ∧ g 3 = g0 3 ∧ g 29 = g0 29) ∧ Hid (HoI w b2 b7 d0 d1 d2 d5 k w')) KR ?_ ?_ ?_
    · (repeat' first
    | with_reducible first | exact ⟨⟩ | (refine gB ?_; intros) | refine gT ?_ ?_
    | refine gs ?_
    | refine sx ?_)
      all_goals exact I0.out
    · rintro k m g3 w3 hk3 hlt n3 ⟨hi3, hf3, hp3⟩
      simp (maxDischargeDepth := 3) only [U, ↓reduceIte, Nat.reduceEqDiff, *] at hf3
      have I3 : Hid (HoI w b2 b7 d0 d1 d2 d5 k w3) := hp3
      obtain ⟨hx3, h3b, h30, h31, h32, h35, hv, h3r, ho3⟩ := hp3.out
      have k3r := h3r.bk
      have hw : IntKind.i64.wrap ((k : Int) + 1) = ((k + 1 : Nat) : Int) := by rw [wrap_i64_id] <;> omega
      have hrm : ((k : Int).tmod 2) = ((k % 2 : Nat) : Int) := rfl
      have hwr : IntKind.i64.wrap ((k % 2 : Nat) : Int) = ((k % 2 : Nat) : Int) := by rw [wrap_i64_id] <;> omega
      have hltI : (k : Int) < (n : Int) := by omega
      have r3 := Ext.refl w3
      have ho3' : Hid (Own w3 w.heap.size 109 4 hv ((List.range k).map hostC)) := ho3
      clear hp3 h3b h30 h31 h32 h35 h3r ho3 hx3
      (repeat' first
    | with_reducible first | exact ⟨⟩ | (refine gB ?_; intros) | refine gT ?_ ?_
    | refine gs ?_
    | simp (maxDischargeDepth := 3) only [↓X, ↓Y, ↓Q, S1, ↓reduceIte, Nat.reduceEqDiff, Nat.reduceAdd, Int.reduceLT, Int.reduceLE, Int.reduceNeg, Int.reduceBEq, Int.reduceBNe, Int.reduceEq, Nat.reduceLeDiff, Nat.reduceMul, Nat.reduceLT, *, hrm, hwr]
    | simp (singlePass := true) (maxDischargeDepth := 99) only [*, S2, Nat.reduceLT, hrm, hwr])
      rename_i b8 w8 n8 k8 s8 q8
      have hx38 : Ext w3 w8 := FR
      have K8 : Blk w8 b8 109 (hostC k) := k8.2.1 _ k8.2.2.1
      have h7ne : ¬ hv.ownBlock = some b7 := by
        have h7 : Blk w3 b7 29 _ := k3r.2.1 _ k3r.2.2.1
        exact ho3'.out.ne h7 (by decide)
      have K37 : Blk w8 b7 29 (siteW d0 d1 d2 d5 hv) := k3r.2.1 _ FR
      refine appG (e := 109) (sz := 4) (by_ := 32) (z := .agg #[.int .i64 0, .int .i64 0, .int .i64 0, .int .i64 0]) (c := hostC) k KR KR rfl (by decide) (by decide) (ho3'.out.ext hx38) K8 rfl (by simp [hostC, one_int]) (by rw [List.length_range]; omega) (by have := I3.out.ext.size; have := hx38.size; omega) fun v' w10 n10 T10 ho10 => ?_
      have K107 : Blk w10 b7 29 (siteW d0 d1 d2 d5 hv) := (T10.block b7 K37.lt h7ne).trans K37
      have k107 := (show Blk w10 b7 29 [.slice (some ⟨d0, 0, none⟩) 1 1, .slice (some ⟨d1, 0, none⟩) 1 1, .slice (some ⟨d2, 0, none⟩) 1 1, .slice (some ⟨d5, 0, none⟩) 2 2, .int .i64 1, .slice none 0 0, hv] from K107).bk
      have hv1 := ho10.one
      have F : Hid (∀ w11, Blk w11 b7 29 (siteW d0 d1 d2 d5 v') → Chg w10 w11 b7 → HoI w b2 b7 d0 d1 d2 d5 (k + 1) w11) := fun w11 h11 c11 => I3.out.step ho3'.out hx38 T10 c11 h11 ho10 hb27 hw7
      clear k3r k8 s8 q8 T10 ho10 K8 K37 K107
      (repeat' first
    | with_reducible first | exact ⟨⟩ | (refine gB ?_; intros) | refine gT ?_ ?_
    | refine gs ?_
    | refine sx ?_)
      refine fun hb => store_intro (i := 6) KR hb (by simp) hv1 fun w11 hb11 c11 => ?_
      have n11 : Now w11 := trivial
      have F11 : Hid (HoI w b2 b7 d0 d1 d2 d5 (k + 1) w11) := F.out w11 hb11 c11
      clear hb11 c11
      (repeat' first
    | with_reducible first | exact ⟨⟩ | (refine gB ?_; intros) | refine gT ?_ ?_
    | refine gs ?_
    | refine sx ?_)
      refine next_g hk3 hlt ?_
      (repeat' first
    | with_reducible first | exact ⟨⟩ | (refine gB ?_; intros) | refine gT ?_ ?_
    | refine gs ?_
    | refine sx ?_)
      all_goals exact F11.out
    · rintro g3 w3 n3 ⟨hi3, hf3, hp3⟩
      simp (maxDischargeDepth := 3) only [U, ↓reduceIte, Nat.reduceEqDiff, *] at hf3
      obtain ⟨hx3, h3b, h30, h31, h32, h35, hv, h3r, ho3⟩ := hp3.out
      have k3r := h3r.bk
      have k3b := h3b.bk
      have hv1 := ho3.one
      have hne2 : ¬ blockOf hv = some b2 := by rw [ho3.block]; exact ho3.ne h3b (by decide)
      have hOO := ho3.o
      have q0 := h30.bk
      have q1 := h31.bk
      have q2 := h32.bk
      have q5 := h35.bk
      have z0 := h30.ne h3b (by decide)
      have z1 := h31.ne h3b (by decide)
      have z2 := h32.ne h3b (by decide)
      have z5 := h35.ne h3b (by decide)
      clear hp3 h3b h30 h31 h32 h35 h3r ho3
      (repeat' first
    | with_reducible first | exact ⟨⟩ | (refine gB ?_; intros) | refine gT ?_ ?_
    | refine gs ?_
    | refine sx ?_)
      rename_i wE nE kE sE
      exact ⟨d0, d1, d2, d5, hv, rfl, q0.2.1 wE FR, q1.2.1 wE FR, q2.2.1 wE FR, q5.2.1 wE FR, hOO.1 wE FR, hl6.out⟩
theorem law23house {n : Nat} (hn : n ≤ 16) : CallsV Tryz.prog 17 #[.int .i64 n] w fun r w' => Ext w w' ∧ HouV w' r n :=
  CallsV.mono (law23houseW hn) fun _ _ hh => ⟨hh.1, hh.2.v⟩
def takesV : List Value := [.int .i64 0, .int .i64 2, .int .i64 2, .int .i64 2, .int .i64 2, .int .i64 2, .int .i64 2, .int .i64 2]
def termsD (n : Nat) (blast : Int) : TermsD := ⟨[], [], blast, [0, 2, 2, 2, 2, 2, 2, 2], List.replicate n (-1), 0, 100⟩
def TrmV (w : World) (v : Value) (n : Nat) (blast : Int) : Prop := ∃ c7 av B, v = .agg #[.slice none 0 0, .slice none 0 0, .int .i64 blast, .slice none 0 0, .slice (some ⟨c7, 0, none⟩) 8 8, av, .int .i64 0, .int .i64 100] ∧ Blk w c7 3 takesV ∧ Own w B 3 1 av ((List.replicate n (-1)).map intC) ∧ ¬ av.ownBlock = some c7
/-- The same, in memory from B on. -/
def TrmW (B : Nat) (w : World) (v : Value) (n : Nat) (blast : Int) : Prop := ∃ c7 av, v = .agg #[.slice none 0 0, .slice none 0 0, .int .i64 blast, .slice none 0 0, .slice (some ⟨c7, 0, none⟩) 8 8, av, .int .i64 0, .int .i64 100] ∧ Blk w c7 3 takesV ∧ Own w B 3 1 av ((List.replicate n (-1)).map intC) ∧ ¬ av.ownBlock = some c7 ∧ B ≤ c7
theorem TrmV.ext {v : Value} {n : Nat} {c : Int} (h : TrmV w v n c) (hx : Ext w w') : TrmV w' v n c := by
  obtain ⟨a, b, B, e, k, o, z⟩ := h
  exact ⟨a, b, B, e, k.ext hx, o.ext hx, z⟩
theorem TrmV.fr {v : Value} {n b T : Nat} {c : Int} {z : List Value} (h : TrmV w v n c) (hz : Blk w b T z) (hc : Chg w w' b) (h1 : T ≠ 3 := by decide) : TrmV w' v n c := by
  obtain ⟨a, b, B, e, k, o, z⟩ := h
  exact ⟨a, b, B, e, k.fr hz hc (.inl h1), o.fr hz hc (.inl h1), z⟩
theorem TrmV.terms {v : Value} {n : Nat} {c : Int} (h : TrmV w v n c) : ∃ q, v = .agg (termsC q (termsD n c)).toArray ∧ TermsT w w.heap.size q (termsD n c) := by
  obtain ⟨b7, av, B, rfl, k, o, _⟩ := h
  exact ⟨⟨.slice none 0 0, .slice none 0 0, .slice none 0 0, .slice (some ⟨b7, 0, none⟩) 8 8, av⟩, rfl, Sl.nil _ _ _ _, Sl.nil _ _ _ _, row_sl (l := [intV 0, intV 2, intV 2, intV 2, intV 2, intV 2, intV 2, intV 2]) k rfl (by simp), o.sl1 (f := intV), rfl⟩
/-- The rows of terms, and their boxes. -/
structure TmI (w : World) (b4 b5 c7 : Nat) (k : Nat) (w' : World) : Prop where
  ext : Ext w w'
  kb : Blk w' b4 41 [.slice none 0 0, .slice none 0 0, .int .i64 0, .slice none 0 0, .slice none 0 0, .slice none 0 0, .int .i64 0, .int .i64 0]
  k7 : Blk w' c7 3 takesV
  row : ∃ av, Blk w' b5 41 [.slice none 0 0, .slice none 0 0, .int .i64 0, .slice none 0 0, .slice (some ⟨c7, 0, none⟩) 8 8, av, .int .i64 0, .int .i64 100] ∧ Own w' w.heap.size 3 1 av ((List.replicate k (-1)).map intC) ∧ ¬ av.ownBlock = some c7
theorem TmI.step {b4 b5 c7 k : Nat} {w3 w4 w5 : World} {av v' : Value} (h : TmI w b4 b5 c7 k w3) (h5 : Blk w3 b5 41 [.slice none 0 0, .slice none 0 0, .int .i64 0, .slice none 0 0, .slice (some ⟨c7, 0, none⟩) 8 8, av, .int .i64 0, .int .i64 100]) (ho : Own w3 w.heap.size 3 1 av ((List.replicate k (-1)).map intC)) (hc7 : ¬ av.ownBlock = some c7) (hx : Ext w3 w4) (ht : TBn (fun c => av.ownBlock = some c) w4 w5) (hg : ∀ c, v'.ownBlock = some c → av.ownBlock = some c ∨ w4.heap.size ≤ c) (hc : Chg w5 w' b5) (hb : Blk w' b5 41 [.slice none 0 0, .slice none 0 0, .int .i64 0, .slice none 0 0, .slice (some ⟨c7, 0, none⟩) 8 8, v', .int .i64 0, .int .i64 100]) (ho' : Own w5 w.heap.size 3 1 v' ((List.replicate k (-1) ++ [-1]).map intC)) (hne : ¬ b4 = b5) (hw : w.heap.size ≤ b5) : TmI w b4 b5 c7 (k + 1) w' := by
  obtain ⟨h1, h2, k7, _⟩ := h
  have o4 := ho.ext hx
  have hx5 : Ext w w5 := (h1.trans hx).trans' ⟨ht.os, ht.tape, ht.output, ht.size, fun c hc => ht.block c (Nat.lt_of_lt_of_le hc (h1.trans hx).size) fun e => by have := (o4.lt c e).1; omega⟩
  have key : ∀ {c : Nat} {t : TypeId} {cs : List Value}, Blk w3 c t cs → ¬ av.ownBlock = some c → Blk w5 c t cs := fun hk hne => (ht.block _ (hk.ext hx).lt hne).trans (hk.ext hx)
  refine ⟨hx5.trans' (hc.below hw hx5.size), hc.blk (key h2 (ho.ne h2 (by decide))) hne, hc.blk (key k7 hc7) (k7.ne h5 (by decide)), v', hb, ?_, fun e => ?_⟩
  · rw [show List.replicate (k + 1) (-1 : Int) = List.replicate k (-1) ++ [-1] from List.replicate_succ']
    refine ho'.keep fun c hcc => hc.block c (ho'.lt c hcc).2 fun e => ?_
    subst e
    exact ho'.ne (key h5 (ho.ne h5 (by decide))) (by decide) hcc
  · rcases hg _ e with h9 | h9
    · exact hc7 h9
    · have := (k7.ext hx).lt
      omega
theorem law23termsW {n : Nat} {blast : Int} (hn : n ≤ 100) : CallsV Tryz.prog 19 #[.int .i64 n, .int .i64 blast] w fun r w' => Ext w w' ∧ TrmW w.heap.size w' r n blast := by
  have hn : Now w := trivial
  have hx : Ext w w := Ext.refl w
  have hmx : n ≤ 9223372036854775807 := by omega
  (refine callsV_of Tryz.func19 rfl KR KR ?_; rw [Tryz.results19])
  (repeat' first
    | with_reducible first | exact ⟨⟩ | (refine gB ?_; intros) | refine gT ?_ ?_
    | refine gs ?_
    | refine sx ?_)
  rename_i b4 w4 n4 k4 s4 q4 b7 w7 n7 k7 s7 q7 e7 b5 w5 n5 k5 s5 q5 w6 n6 k6 s6
  have h45 : ¬ b4 = b5 := by have h1 : b4 < w7.heap.size := FR; have h2 : w7.heap.size ≤ b5 := FR; omega
  have hw5 : w.heap.size ≤ b5 := FR
  have hw4 : w.heap.size ≤ b4 := FR
  have hw7 : Hid (w.heap.size ≤ b7) := show w.heap.size ≤ b7 by exact FR
  have I0 : Hid (TmI w b4 b5 b7 0 w6) := ⟨FR, k4.2.1 _ FR, k7.2.1 _ FR, .slice none 0 0, k6.2.1 _ FR, Own.nil _ _ _ _, fun e => by cases e⟩
  clear k4 k7 k5 k6 s4 s7 s5 s6 q4 q7 q5 e7 n4 n7 n5
  refine loop_g n (fun g0 k g w' => g 6 = .int .i64 (k : Int) ∧ (g 0 = g0 0 ∧ g 1 = g0 1 ∧ g 4 = g0 4 ∧ g 5 = g0 5 ∧ g 41 = g0 41) ∧ Hid (TmI w b4 b5 b7 k w')) KR ?_ ?_ ?_
  · (repeat' first
    | with_reducible first | exact ⟨⟩ | (refine gB ?_; intros) | refine gT ?_ ?_
    | refine gs ?_
    | refine sx ?_)
    all_goals exact I0.out
  · rintro k m g3 w3 hk3 hlt n3 ⟨hi3, hf3, hp3⟩
    simp (maxDischargeDepth := 3) only [U, ↓reduceIte, Nat.reduceEqDiff, *] at hf3
    have I3 : Hid (TmI w b4 b5 b7 k w3) := hp3
    obtain ⟨hx3, h3b, h37, av, h3r, ho3, hc7⟩ := hp3.out
    have k3r := h3r.bk
    have h3r' : Hid (Blk w3 b5 41 [.slice none 0 0, .slice none 0 0, .int .i64 0, .slice none 0 0, .slice (some ⟨b7, 0, none⟩) 8 8, av, .int .i64 0, .int .i64 100]) := h3r
    have hw : IntKind.i64.wrap ((k : Int) + 1) = ((k + 1 : Nat) : Int) := by rw [wrap_i64_id] <;> omega
    have r3 := Ext.refl w3
    have ho3' : Hid (Own w3 w.heap.size 3 1 av ((List.replicate k (-1)).map intC)) := ho3
    have hc7' : Hid (¬ av.ownBlock = some b7) := hc7
    have h5ne : Hid (¬ av.ownBlock = some b5) := ho3.ne h3r (by decide)
    clear hp3 h3b h37 h3r ho3 hx3 hc7
    (repeat' first
    | with_reducible first | exact ⟨⟩ | (refine gB ?_; intros) | refine gT ?_ ?_
    | refine gs ?_
    | refine sx ?_)
    rename_i b8 w8 n8 k8 s8 q8 e8
    have hx38 : Ext w3 w8 := FR
    have K8 : Blk w8 b8 3 (intC (-1)) := k8.2.1 _ k8.2.2.1
    have K38 := h3r'.out.ext hx38
    have F : Hid (∀ v' w10 w11, TBn (fun c => av.ownBlock = some c) w8 w10 → (∀ c, v'.ownBlock = some c → av.ownBlock = some c ∨ w8.heap.size ≤ c) → Own w10 w.heap.size 3 1 v' ((List.replicate k (-1) ++ [-1]).map intC) → Blk w11 b5 41 [.slice none 0 0, .slice none 0 0, .int .i64 0, .slice none 0 0, .slice (some ⟨b7, 0, none⟩) 8 8, v', .int .i64 0, .int .i64 100] → Chg w10 w11 b5 → TmI w b4 b5 b7 (k + 1) w11) := fun v' w10 w11 t10 g10 o10 h11 c11 => I3.out.step h3r'.out ho3'.out hc7'.out hx38 t10 g10 c11 h11 o10 h45 hw5
    refine append_both (e := 3) (sz := 1) (by_ := 8) (z := .int .i64 0) (c := intC) (-1) KR KR rfl (by decide) (by decide) (ho3'.out.ext hx38) K8 rfl (by simp [intC, intV, one_int]) (by rw [List.length_replicate]; omega) (by have := I3.out.ext.size; have := hx38.size; omega) (fun v' w10 _ hx10 ho10 => ?_) fun g cp w10 e10 _ hc10 ho10 => ?_
    · have n10 : Now w10 := trivial
      have k10 := (K38.ext hx10).bk
      have hv1 := ho10.one
      have F10 : Hid _ := fun w11 h11 c11 => F.out v' w10 w11 (TBn.of_ext hx10) (fun c hc => .inr (ho10.lt c hc).1) (ho10.more (by have := I3.out.ext.size; have := hx38.size; omega)) h11 c11
      clear k3r k8 s8 q8 e8 ho10 K8 K38 F
      (repeat' first
    | with_reducible first | exact ⟨⟩ | (refine gB ?_; intros) | refine gT ?_ ?_
    | refine gs ?_
    | refine sx ?_)
      refine fun hb => store_intro (i := 5) KR hb (by simp) hv1 fun w11 hb11 c11 => ?_
      have n11 : Now w11 := trivial
      have F11 : Hid (TmI w b4 b5 b7 (k + 1) w11) := F10.out w11 hb11 c11
      clear hb11 c11
      (repeat' first
    | with_reducible first | exact ⟨⟩ | (refine gB ?_; intros) | refine gT ?_ ?_
    | refine gs ?_
    | refine sx ?_)
      refine next_g hk3 hlt ?_
      (repeat' first
    | with_reducible first | exact ⟨⟩ | (refine gB ?_; intros) | refine gT ?_ ?_
    | refine gs ?_
    | refine sx ?_)
      all_goals exact F11.out
    · have n10 : Now w10 := trivial
      subst e10
      have k10 := (hc10.blk K38 fun e => h5ne.out (by rw [e]; rfl)).bk
      have F10 : Hid _ := fun w11 h11 c11 => F.out (.slice (some ⟨g, 0, none⟩) ((List.replicate k (-1)).length + 1) cp) w10 w11 (TBn.of_chg hc10 rfl) (fun c hc => .inl hc) ho10 h11 c11
      clear k3r k8 s8 q8 e8 ho10 K8 K38 F hc10
      (repeat' first
    | with_reducible first | exact ⟨⟩ | (refine gB ?_; intros) | refine gT ?_ ?_
    | refine gs ?_
    | refine sx ?_)
      refine fun hb => store_intro (i := 5) KR hb (by simp) rfl fun w11 hb11 c11 => ?_
      have n11 : Now w11 := trivial
      have F11 : Hid (TmI w b4 b5 b7 (k + 1) w11) := F10.out w11 hb11 c11
      clear hb11 c11
      (repeat' first
    | with_reducible first | exact ⟨⟩ | (refine gB ?_; intros) | refine gT ?_ ?_
    | refine gs ?_
    | refine sx ?_)
      refine next_g hk3 hlt ?_
      (repeat' first
    | with_reducible first | exact ⟨⟩ | (refine gB ?_; intros) | refine gT ?_ ?_
    | refine gs ?_
    | refine sx ?_)
      all_goals exact F11.out
  · rintro g3 w3 n3 ⟨hi3, hf3, hp3⟩
    simp (maxDischargeDepth := 3) only [U, ↓reduceIte, Nat.reduceEqDiff, *] at hf3
    obtain ⟨hx3, h3b, h37, av, h3r, ho3, hc7⟩ := hp3.out
    have k3r := h3r.bk
    have k3b := h3b.bk
    have q7 := h37.bk
    have hv1 := ho3.one
    have hOO := ho3.o
    have z7 := h37.ne h3b (by decide)
    have z75 := h37.ne h3r (by decide)
    have hne2 : ¬ blockOf av = some b4 := by rw [ho3.block]; exact ho3.ne h3b (by decide)
    have hne3 : ¬ blockOf av = some b5 := by rw [ho3.block]; exact ho3.ne h3r (by decide)
    have hc9 : Hid (¬ av.ownBlock = some b7) := hc7
    clear hp3 h3b h37 h3r ho3 hc7
    (repeat' first
    | with_reducible first | exact ⟨⟩ | (refine gB ?_; intros) | refine gT ?_ ?_
    | refine gs ?_
    | refine sx ?_)
    refine st_one (i := 2) KR (by simp) rfl fun w5' n5' k5' s5' => ?_
    simp only [List.set_cons_succ, List.set_cons_zero] at k5'
    (repeat' first
    | with_reducible first | exact ⟨⟩ | (refine gB ?_; intros) | refine gT ?_ ?_
    | refine gs ?_
    | refine sx ?_)
    rename_i wE nE kE sE
    first | exact ⟨b7, av, rfl, q7.2.1 wE FR, hOO.1 wE FR, hc9.out, hw7.out⟩ | exact ⟨FR, b7, av, rfl, q7.2.1 wE FR, hOO.1 wE FR, hc9.out, hw7.out⟩
theorem law23terms {n : Nat} {blast : Int} (hn : n ≤ 100) : CallsV Tryz.prog 19 #[.int .i64 n, .int .i64 blast] w fun r w' => Ext w w' ∧ TrmV w' r n blast :=
  CallsV.mono (law23termsW hn) fun _ _ ⟨hx, c7, av, e, k, o, z, _⟩ => ⟨hx, c7, av, _, e, k, o, z⟩
theorem law23two : CallsV Tryz.prog 18 #[] w fun r w' => Ext w w' ∧ TwoV w' r := by
  have hn : Now w := trivial
  have hx : Ext w w := Ext.refl w
  (refine callsV_of Tryz.func18 rfl KR KR ?_; rw [Tryz.results18])
  (repeat' first
    | with_reducible first | exact ⟨⟩ | (refine gB ?_; intros) | refine gT ?_ ?_
    | refine gs ?_
    | refine sx ?_)
  rename_i b0 w0 n0 k0 s0 q0 b1 w1 n1 k1 s1 q1 b2 w2 n2 k2 s2 q2 e2 b3 w3 n3 k3 s3 q3 e3 b4 w4 n4 k4 s4 q4 e4 w5 n5 k5 s5
  exact ⟨b1, b2, b3, b4, rfl, k1.2.1 w5 FR, k2.2.1 w5 FR, k3.2.1 w5 FR, k4.2.1 w5 FR⟩
end
end Go.Proofs.YtopfddchckdhgaaGreat
