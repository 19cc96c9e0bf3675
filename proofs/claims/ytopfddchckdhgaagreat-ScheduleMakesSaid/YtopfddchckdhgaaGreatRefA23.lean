/- The document's answer, layer 23: the parts that only look. -/
import Derived.Test.YtopfddchckdhgaaGreatFr23
import Derived.Test.YtopfddchckdhgaaGreatFrO23
import Derived.Test.YtopfddchckdhgaaGreatRelT
namespace Go.Proofs.YtopfddchckdhgaaGreat
set_option linter.unusedSimpArgs false
set_option linter.unusedVariables false
open Go Go.RowKit
set_option maxRecDepth 100000
set_option linter.unusedSectionVars false
set_option maxHeartbeats 2000000
theorem sxRefA231 {p q : Prop} (hq : q) (h : p = q := by first | (simp (maxDischargeDepth := 3) only [↓X, ↓Y, ↓Q, S1, ↓reduceIte, Nat.reduceEqDiff, Nat.reduceAdd, Int.reduceLT, Int.reduceLE, Int.reduceNeg, Int.reduceBEq, Int.reduceBNe, Int.reduceEq, Nat.reduceLeDiff, Nat.reduceMul, Nat.reduceLT, *, List.take_zero, List.all_nil, List.any_nil]; try exact rfl) | (simp (singlePass := true) (maxDischargeDepth := 99) only [*, S2, Nat.reduceLT, List.take_zero, List.all_nil, List.any_nil]; try exact rfl)) : p := h ▸ hq
theorem sxRefA232 {p q : Prop} (hq : q) (h : p = q := by first | (simp (maxDischargeDepth := 3) only [↓X, ↓Y, ↓Q, S1, ↓reduceIte, Nat.reduceEqDiff, Nat.reduceAdd, Int.reduceLT, Int.reduceLE, Int.reduceNeg, Int.reduceBEq, Int.reduceBNe, Int.reduceEq, Nat.reduceLeDiff, Nat.reduceMul, Nat.reduceLT, *, siteC, termsC]; try exact rfl) | (simp (singlePass := true) (maxDischargeDepth := 99) only [*, S2, Nat.reduceLT, siteC, termsC]; try exact rfl)) : p := h ▸ hq
theorem sxRefA233 {p q : Prop} (hq : q) (h : p = q := by first | (simp (maxDischargeDepth := 3) only [↓X, ↓Y, ↓Q, S1, ↓reduceIte, Nat.reduceEqDiff, Nat.reduceAdd, Int.reduceLT, Int.reduceLE, Int.reduceNeg, Int.reduceBEq, Int.reduceBNe, Int.reduceEq, Nat.reduceLeDiff, Nat.reduceMul, Nat.reduceLT, *, siteC, windowV, stepV, stepC]; try exact rfl) | (simp (singlePass := true) (maxDischargeDepth := 99) only [*, S2, Nat.reduceLT, siteC, windowV, stepV, stepC]; try exact rfl)) : p := h ▸ hq
theorem sxRefA234 {p q : Prop} (hq : q) (h : p = q := by first | (simp (maxDischargeDepth := 3) only [↓X, ↓Y, ↓Q, S1, ↓reduceIte, Nat.reduceEqDiff, Nat.reduceAdd, Int.reduceLT, Int.reduceLE, Int.reduceNeg, Int.reduceBEq, Int.reduceBNe, Int.reduceEq, Nat.reduceLeDiff, Nat.reduceMul, Nat.reduceLT, *, siteC, areaV, stepV, stepC]; try exact rfl) | (simp (singlePass := true) (maxDischargeDepth := 99) only [*, S2, Nat.reduceLT, siteC, areaV, stepV, stepC]; try exact rfl)) : p := h ▸ hq
section
variable {w w' : World} {B B' : Nat} {f : FrV} {bv : Value} {s : SiteD} {p : PlanD} {x : TermsD} {b : List Int}
theorem ArgT.ones (h : ArgT w B f s p x) : (f.u.f.oneCell' = true ∧ f.u.b.oneCell' = true ∧ f.u.l.oneCell' = true ∧ f.u.r.oneCell' = true ∧ f.u.k.oneCell' = true ∧ f.u.h.oneCell' = true) ∧ (f.sv.oneCell' = true ∧ f.av.oneCell' = true) ∧ f.q.w.oneCell' = true ∧ f.q.a.oneCell' = true ∧ f.q.c.oneCell' = true ∧ f.q.t.oneCell' = true ∧ f.q.p.oneCell' = true :=
  ⟨⟨h.s.f.one, h.s.b.one, h.s.l.one, h.s.r.one, h.s.k.one, h.s.h.one⟩, ⟨h.p.s.one, h.p.a.v.one⟩, h.x.n.one, h.x.a.one, h.x.c, h.x.t.one, h.x.p.one⟩
theorem ArgT.row (h : ArgT w B f s p x) (hB : B ≤ w.heap.size) {i : Nat} (hi : i < p.after.length) : ∃ u, (∀ w', Bl B w w' → rdv none w' (elemAt f.av 1 i) = some u) ∧ SlK w B 1 none u (afterS p i) intV ∧ SlWf f.av ∧ isSl f.av ∧ lenN f.av = p.after.length ∧ (afterS p i).length ≤ 9223372036854775807 := by
  obtain ⟨u, h1, h2⟩ := h.p.a.at_ i hi
  have hlt : i < f.vs.length := by rw [h.p.a.len]; exact hi
  rw [← afterS_at hi] at h2
  refine ⟨u, fun w' hb => ?_, h2.k hB, h.p.a.v.wf, h.p.a.v.sl, by rw [h.p.a.v.len, h.p.a.len], by have := h2.max_; simpa using this⟩
  rw [(h.p.a.v.bl hb).rd i hlt]
  rw [List.getElem?_eq_getElem hlt] at h1
  exact h1
theorem ref23from {n lo hi : Int} : Ret Tryz.prog 61 #[intV n, intV lo, intV hi] w (.bool (btw n lo hi)) := by
  have hn : Now w := trivial
  have hx : Ext w w := Ext.refl w
  unfold btw
  (refine callsV_of Tryz.func61 rfl KR KR ?_; rw [Tryz.results61])
  (repeat' first
    | with_reducible first | exact ⟨⟩ | (refine gB ?_; intros) | refine gT ?_ ?_
    | refine gs ?_
    | refine sx ?_)
  all_goals simp_all
theorem ref23isOut {k : Int} : Ret Tryz.prog 101 #[.int .u8 k] w (.bool (decide (3 ≤ k) && decide (k ≤ 7))) := by
  have hn : Now w := trivial
  have hx : Ext w w := Ext.refl w
  (refine callsV_of Tryz.func101 rfl KR KR ?_; rw [Tryz.results101])
  (repeat' first
    | with_reducible first | exact ⟨⟩ | (refine gB ?_; intros) | refine gT ?_ ?_
    | refine gs ?_
    | refine sx ?_)
  all_goals simp_all
theorem ref23end (hF : Fit s p x) (hb : BegD p b) (hB : B ≤ w.heap.size) (hB' : B' ≤ w.heap.size) (h : ArgT w B f s p x) (hv : Sl w B' none 1 bv (b.map intV)) {i : Nat} (hi : i < p.steps.length) : Ret Tryz.prog 29 #[.agg #[f.sv, f.av], .agg (termsC f.q x).toArray, bv, .int .i64 i] w (intV (Sch.at_ b i + takeS p x i)) := by
  have hn : Now w := trivial
  have hx : Ext w w := Ext.refl w
  have ho := h.ones
  have KS := h.p.s.k hB
  have KF := h.p.s.fk
  have KT := h.x.t.k hB
  have KB := hv.k hB'
  have hbw : Bl B w w := Bl.refl hB
  have hbw' : Bl B' w w := Bl.refl hB'
  have hlb : i < b.length := by rw [hb.len]; exact hi
  have hlbI : (i : Int) < (b.length : Int) := by omega
  have h1 := hb.at_ hi
  have h2 := hF.take i hi
  obtain ⟨k, hk1, hk2, hk3, hk4, hk5⟩ := kind_nat hF hi
  rw [List.getD_eq_getElem?_getD, List.getElem?_eq_getElem hk2, Option.getD_some] at hk3
  rw [at_at hlb] at h1 ⊢
  rw [hk3] at h2 ⊢
  have hw : IntKind.i64.wrap (b[i] + x.takes[k]) = b[i] + x.takes[k] := by rw [wrap_i64_id] <;> omega
  clear hF hb h hv h1 h2 hk3
  (refine callsV_of Tryz.func29 rfl KR KR ?_; rw [Tryz.results29])
  (repeat' first
    | with_reducible first | exact ⟨⟩ | (refine gB ?_; intros) | refine gT ?_ ?_
    | refine gs ?_
    | simp (maxDischargeDepth := 3) only [↓X, ↓Y, ↓Q, S1, ↓reduceIte, Nat.reduceEqDiff, Nat.reduceAdd, Int.reduceLT, Int.reduceLE, Int.reduceNeg, Int.reduceBEq, Int.reduceBNe, Int.reduceEq, Nat.reduceLeDiff, Nat.reduceMul, Nat.reduceLT, *, termsC, stepV, stepC]
    | simp (singlePass := true) (maxDischargeDepth := 99) only [*, S2, Nat.reduceLT, termsC, stepV, stepC])
theorem ref23ready (hF : Fit s p x) (hb : BegD p b) (hB : B ≤ w.heap.size) (hB' : B' ≤ w.heap.size) (h : ArgT w B f s p x) (hv : Sl w B' none 1 bv (b.map intV)) {i : Nat} (hi : i < p.steps.length) : Ret Tryz.prog 27 #[.agg #[f.sv, f.av], bv, .int .i64 i] w (.bool (Sch.ready (scS s p x) b i)) := by
  have hn : Now w := trivial
  have hx : Ext w w := Ext.refl w
  have ho := h.ones
  have KB := hv.k hB'
  have hbw : Bl B w w := Bl.refl hB
  have hbw' : Bl B' w w := Bl.refl hB'
  have hia : i < p.after.length := by rw [hF.len]; exact hi
  have hiaI : (i : Int) < (p.after.length : Int) := by omega
  obtain ⟨u, hu, hU, hA1, hA2, hA3, hU9⟩ := h.row hB hia
  have hlb : i < b.length := by rw [hb.len]; exact hi
  have hlbI : (i : Int) < (b.length : Int) := by omega
  have h1 := hb.at_ hi
  have hpl : Hid (∀ j ∈ afterS p i, ∃ jn : Nat, j = (jn : Int) ∧ jn < b.length ∧ -1 ≤ Sch.at_ b jn) := fun j hj => by
    have h9 := hF.places i hi j hj
    refine ⟨j.toNat, by omega, by rw [hb.len]; omega, ?_⟩
    exact (hb.at_ (by omega)).1
  have hrd : Hid (Sch.ready (scS s p x) b i = (decide (b[i] < 0) && (afterS p i).all fun j => !decide (Sch.at_ b j.toNat < 0))) := by
    show Sch.ready (scS s p x) b i = _
    unfold Sch.ready
    rw [at_at hlb] at h1 ⊢
    have e1 : decide (b[i] = -1) = decide (b[i] < 0) := by
      by_cases h9 : b[i] < 0
      · rw [decide_eq_true h9, decide_eq_true (by omega : b[i] = -1)]
      · rw [decide_eq_false h9, decide_eq_false (by omega : ¬ b[i] = -1)]
    have e2 : ((scS s p x).after i).all (fun j => decide (Sch.at_ b j ≠ -1)) = (afterS p i).all fun j => !decide (Sch.at_ b j.toNat < 0) := by
      show ((afterS p i).map Int.toNat).all _ = _
      rw [List.all_map, Bool.eq_iff_iff, List.all_eq_true, List.all_eq_true]
      have key : ∀ j ∈ afterS p i, (((fun j => decide (Sch.at_ b j ≠ -1)) ∘ Int.toNat) j = true ↔ (!decide (Sch.at_ b j.toNat < 0)) = true) := fun j hj => by
        obtain ⟨jn, rfl, h8, h9⟩ := hpl.out j hj
        simp only [Function.comp, Int.toNat_natCast, decide_eq_true_eq, Bool.not_eq_true', decide_eq_false_iff_not]
        omega
      exact ⟨fun h9 j hj => (key j hj).1 (h9 j hj), fun h9 j hj => (key j hj).2 (h9 j hj)⟩
    rw [e1, e2]
  clear hF hb h hv h1
  (refine callsV_of Tryz.func27 rfl KR KR ?_; rw [Tryz.results27])
  (repeat' first
    | with_reducible first | exact ⟨⟩ | (refine gB ?_; intros) | refine gT ?_ ?_
    | refine gs ?_
    | refine sx ?_)
  refine loop_k ((afterS p i).length) (fun g0 k g _ => g 7 = .int .i64 k ∧ (g 1 = g0 1 ∧ g 2 = g0 2 ∧ g 3 = g0 3) ∧ Hid (((afterS p i).take k).all (fun j => !decide (Sch.at_ b j.toNat < 0)) = true)) KR (hU9) ?_ ?_ ?_
  · (repeat' first
    | with_reducible first | exact ⟨⟩ | (refine gB ?_; intros) | refine gT ?_ ?_
    | refine gs ?_
    | refine sxRefA231 ?_)
    exact (show True from trivial)
  · rintro k m g wk hk hlt _ _ _ hw ⟨hi, hf, hp⟩
    simp (maxDischargeDepth := 3) only [U, ↓reduceIte, Nat.reduceEqDiff, *] at hf
    obtain ⟨jn, hjn, hjl, _⟩ := hpl.out _ (List.getElem_mem hlt)
    have hjlI : (jn : Int) < (b.length : Int) := by omega
    by_cases hc : b[jn] < 0
    · have hq : (afterS p i).all (fun j => !decide (Sch.at_ b j.toNat < 0)) = false := all_at hlt (by rw [hjn, Int.toNat_natCast, at_at hjl, decide_eq_true hc]; rfl)
      rw [hrd.out, hq, Bool.and_false]
      clear hq hrd hp hpl
      (repeat' first
    | with_reducible first | exact ⟨⟩ | (refine gB ?_; intros) | refine gT ?_ ?_
    | refine gs ?_
    | simp (maxDischargeDepth := 3) only [↓X, ↓Y, ↓Q, S1, ↓reduceIte, Nat.reduceEqDiff, Nat.reduceAdd, Int.reduceLT, Int.reduceLE, Int.reduceNeg, Int.reduceBEq, Int.reduceBNe, Int.reduceEq, Nat.reduceLeDiff, Nat.reduceMul, Nat.reduceLT, *, hjn]
    | simp (singlePass := true) (maxDischargeDepth := 99) only [*, S2, Nat.reduceLT, hjn])
    · have hq : Hid (((afterS p i).take (k + 1)).all (fun j => !decide (Sch.at_ b j.toNat < 0)) = true) := by
        show ((afterS p i).take (k + 1)).all (fun j => !decide (Sch.at_ b j.toNat < 0)) = true
        rw [all_take hlt, hp.out, hjn, Int.toNat_natCast, at_at hjl, decide_eq_false hc]; rfl
      clear hp hpl hrd
      (repeat' first
    | with_reducible first | exact ⟨⟩ | (refine gB ?_; intros) | refine gT ?_ ?_
    | refine gs ?_
    | simp (maxDischargeDepth := 3) only [↓X, ↓Y, ↓Q, S1, ↓reduceIte, Nat.reduceEqDiff, Nat.reduceAdd, Int.reduceLT, Int.reduceLE, Int.reduceNeg, Int.reduceBEq, Int.reduceBNe, Int.reduceEq, Nat.reduceLeDiff, Nat.reduceMul, Nat.reduceLT, *, hjn]
    | simp (singlePass := true) (maxDischargeDepth := 99) only [*, S2, Nat.reduceLT, hjn])
      refine next_k hk hlt ?_ FR
      (repeat' first
    | with_reducible first | exact ⟨⟩ | (refine gB ?_; intros) | refine gT ?_ ?_
    | refine gs ?_
    | refine sx ?_)
      all_goals exact hq.out
  · rintro g wk _ _ _ ⟨hi, hf, hp⟩
    simp (maxDischargeDepth := 3) only [U, ↓reduceIte, Nat.reduceEqDiff, *] at hf
    have hq := hp.out
    rw [List.take_length] at hq
    rw [hrd.out, hq, Bool.and_true]
    clear hrd hp hq hpl
    (repeat' first
    | with_reducible first | exact ⟨⟩ | (refine gB ?_; intros) | refine gT ?_ ?_
    | refine gs ?_
    | refine sx ?_)
theorem ref23inWindow {t : Int} (ht : -1000 ≤ t ∧ t ≤ 20000000) (hF : Fit s p x) (hB : B ≤ w.heap.size) (h : ArgT w B f s p x) {i : Nat} (hi : i < p.steps.length) : Ret Tryz.prog 102 #[.agg (siteC f.u s).toArray, .agg #[f.sv, f.av], .agg (termsC f.q x).toArray, .int .i64 i, .int .i64 t] w (.bool (winB s p x i t)) := by
  have hn : Now w := trivial
  have hx : Ext w w := Ext.refl w
  have ho := h.ones
  have KS := h.p.s.k hB
  have KF := h.p.s.fk
  have KT := h.x.t.k hB
  have KN := h.x.n.k hB
  have hbw : Bl B w w := Bl.refl hB
  have hmax := h.x.n.max_
  have h2 := hF.take i hi
  obtain ⟨kk, hk1, hk2, hk3, hk4, hk5⟩ := kind_nat hF hi
  rw [List.getD_eq_getElem?_getD, List.getElem?_eq_getElem hk2, Option.getD_some] at hk3
  have hw : IntKind.i64.wrap (t + x.takes[kk]) = t + x.takes[kk] := by rw [← hk3, wrap_i64_id] <;> omega
  have hd := fun w' (h1 : Bl B w w') d => ref12DomainOf (d := d) (h := p.steps[i].host) h1.size (h.bl h1).s
  have hin : ∀ d n, inA s p i d n = (domF s d p.steps[i].host == n) := fun d n => by unfold inA; rw [stepS_at hi]
  have hwin : ∀ k (hk : k < x.windows.length), inA s p i x.windows[k].domain x.windows[k].index = true → x.windows[k].frm ≤ t → t + x.takes[kk] ≤ x.windows[k].til → winB s p x i t = true := fun k hk h1 h2 h3 => by
    unfold winB
    rw [Bool.or_eq_true]
    right
    refine List.any_eq_true.2 ⟨_, List.getElem_mem hk, ?_⟩
    rw [h1, decide_eq_true h2, hk3, decide_eq_true h3]; rfl
  replace hwin : Hid _ := hwin
  obtain ⟨G, hG⟩ : ∃ G : Nat → Bool, G = fun k => (x.windows.take k).any fun w => inA s p i w.domain w.index := ⟨_, rfl⟩
  have hG0 : G 0 = false := by rw [hG]; rfl
  have hGk : ∀ k (hk : k < x.windows.length), G (k + 1) = (G k || inA s p i x.windows[k].domain x.windows[k].index) := fun k hk => by rw [hG]; exact any_take hk _
  have hGN : G x.windows.length = x.windows.any fun w => inA s p i w.domain w.index := by rw [hG]; simp only [List.take_length]
  have hlast : Hid ((∀ j (hj : j < x.windows.length), j < x.windows.length → ¬ (inA s p i x.windows[j].domain x.windows[j].index = true ∧ x.windows[j].frm ≤ t ∧ t + x.takes[kk] ≤ x.windows[j].til)) → winB s p x i t = !G x.windows.length) := fun hno => by
    rw [hGN]
    unfold winB
    have e1 : (x.windows.any fun w => inA s p i w.domain w.index && (decide (w.frm ≤ t) && decide (t + takeS p x i ≤ w.til))) = false := List.any_eq_false.2 fun w9 hw9 => by
      obtain ⟨j, hj, rfl⟩ := List.getElem_of_mem hw9
      intro h9
      simp only [Bool.and_eq_true, decide_eq_true_eq, hk3] at h9
      exact hno j hj hj ⟨h9.1, h9.2.1, h9.2.2⟩
    rw [e1, Bool.or_false, Bool.eq_iff_iff, Bool.not_eq_true', List.all_eq_true, List.any_eq_false]
    simp
  replace hGk : Hid _ := hGk
  replace hin : Hid _ := hin
  clear hF h hG hGN h2 hk3
  (refine callsV_of Tryz.func102 rfl KR KR ?_; rw [Tryz.results102])
  (repeat' first
    | with_reducible first | exact ⟨⟩ | (refine gB ?_; intros) | refine gT ?_ ?_
    | refine gs ?_
    | refine sxRefA232 ?_)
  refine loop_k (x.windows.length) (fun g0 k g _ => g 12 = .int .i64 k ∧ (g 3 = g0 3 ∧ g 4 = g0 4 ∧ g 5 = g0 5 ∧ g 6 = g0 6 ∧ g 7 = g0 7) ∧ g 11 = .bool (G k) ∧ Hid (∀ j (hj : j < x.windows.length), j < k → ¬ (inA s p i x.windows[j].domain x.windows[j].index = true ∧ x.windows[j].frm ≤ t ∧ t + x.takes[kk] ≤ x.windows[j].til))) KR (hmax) ?_ ?_ ?_
  · (repeat' first
    | with_reducible first | exact ⟨⟩ | (refine gB ?_; intros) | refine gT ?_ ?_
    | refine gs ?_
    | simp (maxDischargeDepth := 3) only [↓X, ↓Y, ↓Q, S1, ↓reduceIte, Nat.reduceEqDiff, Nat.reduceAdd, Int.reduceLT, Int.reduceLE, Int.reduceNeg, Int.reduceBEq, Int.reduceBNe, Int.reduceEq, Nat.reduceLeDiff, Nat.reduceMul, Nat.reduceLT, *, hG0]
    | simp (singlePass := true) (maxDischargeDepth := 99) only [*, S2, Nat.reduceLT, hG0])
    exact fun j hj h => absurd h (by omega)
  · rintro k m g wk hk hlt _ _ _ hw ⟨hi, hf, hp⟩
    simp (maxDischargeDepth := 3) only [U, ↓reduceIte, Nat.reduceEqDiff, *] at hf
    obtain ⟨h6, hp⟩ := hp
    have hg := hGk.out k hlt
    have hwk := hwin.out k hlt
    have hi9 := hin.out x.windows[k].domain x.windows[k].index
    have hdk := fun w' h1 => hd w' h1 x.windows[k].domain
    rw [hi9] at hg hwk
    by_cases hdom : domF s x.windows[k].domain p.steps[i].host = x.windows[k].index
    · have hdb : (domF s x.windows[k].domain p.steps[i].host == x.windows[k].index) = true := by simpa using hdom
      rw [hdb] at hg hwk
      rw [Bool.or_true] at hg
      by_cases hc : x.windows[k].frm ≤ t ∧ t + x.takes[kk] ≤ x.windows[k].til
      · obtain ⟨hc1, hc2⟩ := hc
        rw [hwk rfl hc1 hc2]
        clear hp hwk hi9 hGk hwin hin hlast hd hdom
        (repeat' first
    | with_reducible first | exact ⟨⟩ | (refine gB ?_; intros) | refine gT ?_ ?_
    | refine gs ?_
    | ((with_reducible refine at_q 128 ?_); refine qret_k (fun _ _ _ => hdk _ FR) ?_)
    | refine sxRefA233 ?_)
      · have hq : Hid (∀ j (hj : j < x.windows.length), j < k + 1 → ¬ (inA s p i x.windows[j].domain x.windows[j].index = true ∧ x.windows[j].frm ≤ t ∧ t + x.takes[kk] ≤ x.windows[j].til)) := fun j hj hjk h1 => by
          rcases Nat.lt_or_eq_of_le (Nat.le_of_lt_succ hjk) with h3 | rfl
          · exact hp.out j hj h3 h1
          · exact hc h1.2
        have hc' : Hid _ := hc
        clear hp hwk hi9 hGk hwin hin hlast hd hdom hc
        (repeat' first
    | with_reducible first | exact ⟨⟩ | (refine gB ?_; intros) | refine gT ?_ ?_
    | refine gs ?_
    | ((with_reducible refine at_q 128 ?_); refine qret_k (fun _ _ _ => hdk _ FR) ?_)
    | refine sxRefA233 ?_)
        · exact absurd ⟨by assumption, by assumption⟩ hc'.out
        all_goals refine next_k hk hlt ?_ FR
        all_goals (repeat' first
    | with_reducible first | exact ⟨⟩ | (refine gB ?_; intros) | refine gT ?_ ?_
    | refine gs ?_
    | simp (maxDischargeDepth := 3) only [↓X, ↓Y, ↓Q, S1, ↓reduceIte, Nat.reduceEqDiff, Nat.reduceAdd, Int.reduceLT, Int.reduceLE, Int.reduceNeg, Int.reduceBEq, Int.reduceBNe, Int.reduceEq, Nat.reduceLeDiff, Nat.reduceMul, Nat.reduceLT, *, hg]
    | simp (singlePass := true) (maxDischargeDepth := 99) only [*, S2, Nat.reduceLT, hg])
        all_goals exact hq.out
    · have hdb : (domF s x.windows[k].domain p.steps[i].host == x.windows[k].index) = false := by simpa using hdom
      rw [hdb] at hg
      rw [Bool.or_false] at hg
      have hq : Hid (∀ j (hj : j < x.windows.length), j < k + 1 → ¬ (inA s p i x.windows[j].domain x.windows[j].index = true ∧ x.windows[j].frm ≤ t ∧ t + x.takes[kk] ≤ x.windows[j].til)) := fun j hj hjk h1 => by
        rcases Nat.lt_or_eq_of_le (Nat.le_of_lt_succ hjk) with h3 | rfl
        · exact hp.out j hj h3 h1
        · have h9 := h1.1
          rw [hi9, hdb] at h9
          cases h9
      clear hp hwk hi9 hGk hwin hin hlast hd
      (repeat' first
    | with_reducible first | exact ⟨⟩ | (refine gB ?_; intros) | refine gT ?_ ?_
    | refine gs ?_
    | ((with_reducible refine at_q 128 ?_); refine qret_k (fun _ _ _ => hdk _ FR) ?_)
    | refine sxRefA233 ?_)
      refine next_k hk hlt ?_ FR
      (repeat' first
    | with_reducible first | exact ⟨⟩ | (refine gB ?_; intros) | refine gT ?_ ?_
    | refine gs ?_
    | simp (maxDischargeDepth := 3) only [↓X, ↓Y, ↓Q, S1, ↓reduceIte, Nat.reduceEqDiff, Nat.reduceAdd, Int.reduceLT, Int.reduceLE, Int.reduceNeg, Int.reduceBEq, Int.reduceBNe, Int.reduceEq, Nat.reduceLeDiff, Nat.reduceMul, Nat.reduceLT, *, hg]
    | simp (singlePass := true) (maxDischargeDepth := 99) only [*, S2, Nat.reduceLT, hg])
      all_goals exact hq.out
  · rintro g wk _ _ _ ⟨hi, hf, hp⟩
    simp (maxDischargeDepth := 3) only [U, ↓reduceIte, Nat.reduceEqDiff, *] at hf
    obtain ⟨h6, hp⟩ := hp
    rw [hlast.out hp.out]
    clear hp hlast hGk hwin hin hd
    (repeat' first
    | with_reducible first | exact ⟨⟩ | (refine gB ?_; intros) | refine gT ?_ ?_
    | refine gs ?_
    | refine sx ?_)
theorem ref23approved {t : Int} (hF : Fit s p x) (hB : B ≤ w.heap.size) (h : ArgT w B f s p x) {i : Nat} (hi : i < p.steps.length) : Ret Tryz.prog 103 #[.agg (siteC f.u s).toArray, .agg #[f.sv, f.av], .agg (termsC f.q x).toArray, .int .i64 i, .int .i64 t] w (.bool (appB s p x i t)) := by
  have hn : Now w := trivial
  have hx : Ext w w := Ext.refl w
  have ho := h.ones
  have KS := h.p.s.k hB
  have KF := h.p.s.fk
  have KP := h.x.p.k hB
  have KN := h.x.a.k hB
  have hbw : Bl B w w := Bl.refl hB
  have hmax := h.x.a.max_
  have hia : i < x.approved.length := by rw [hF.appr]; exact hi
  have hiaI : (i : Int) < (x.approved.length : Int) := by omega
  have hap : appS x i = x.approved[i] := by simp only [appS, hia, List.getElem?_eq_getElem, Option.getD_some]
  have har := hF.app i hi
  have hd := fun w' (h1 : Bl B w w') d => ref12DomainOf (d := d) (h := p.steps[i].host) h1.size (h.bl h1).s
  have hin : ∀ d n, inA s p i d n = (domF s d p.steps[i].host == n) := fun d n => by unfold inA; rw [stepS_at hi]
  have hE : Hid (appB s p x i t = ((!decide (x.approved[i] < 0) && decide (x.approved[i] ≤ t)) || !x.areas.any fun a => inA s p i a.domain a.index)) := by
    show appB s p x i t = _
    unfold appB
    rw [hap] at har ⊢
    have e1 : (x.approved[i] == -1) = decide (x.approved[i] < 0) := by
      by_cases h9 : x.approved[i] < 0
      · rw [decide_eq_true h9, show x.approved[i] = -1 by omega]; rfl
      · rw [decide_eq_false h9]; simp; omega
    rw [e1]
  have hmx2 : (fun a : AreaD => inA s p i a.domain a.index) = fun a => domF s a.domain p.steps[i].host == a.index := by funext a; exact hin _ _
  rw [hmx2] at hE
  clear hF h hap har hin hmx2
  (refine callsV_of Tryz.func103 rfl KR KR ?_; rw [Tryz.results103])
  (repeat' first
    | with_reducible first | exact ⟨⟩ | (refine gB ?_; intros) | refine gT ?_ ?_
    | refine gs ?_
    | refine sxRefA232 ?_)
  refine loop_k (x.areas.length) (fun g0 k g _ => g 11 = .int .i64 k ∧ (g 3 = g0 3 ∧ g 4 = g0 4 ∧ g 5 = g0 5 ∧ g 6 = g0 6 ∧ g 7 = g0 7) ∧ Hid ((x.areas.take k).any (fun a => domF s a.domain p.steps[i].host == a.index) = false ∨ (¬ x.approved[i] < 0 ∧ x.approved[i] ≤ t))) KR (hmax) ?_ ?_ ?_
  · (repeat' first
    | with_reducible first | exact ⟨⟩ | (refine gB ?_; intros) | refine gT ?_ ?_
    | refine gs ?_
    | refine sxRefA231 ?_)
    all_goals exact .inl trivial
  · rintro k m g wk hk hlt _ _ _ hw ⟨hi, hf, hp⟩
    simp (maxDischargeDepth := 3) only [U, ↓reduceIte, Nat.reduceEqDiff, *] at hf
    have hdk := fun w' h1 => hd w' h1 x.areas[k].domain
    by_cases hdom : domF s x.areas[k].domain p.steps[i].host = x.areas[k].index
    · have hdb : (domF s x.areas[k].domain p.steps[i].host == x.areas[k].index) = true := by simpa using hdom
      by_cases hc : ¬ x.approved[i] < 0 ∧ x.approved[i] ≤ t
      · have hq : Hid ((x.areas.take (k + 1)).any (fun a => domF s a.domain p.steps[i].host == a.index) = false ∨ (¬ x.approved[i] < 0 ∧ x.approved[i] ≤ t)) := .inr hc
        obtain ⟨hc1, hc2⟩ := hc
        have hc3 : ¬ t < x.approved[i] := by omega
        clear hp hE hd hdom
        (repeat' first
    | with_reducible first | exact ⟨⟩ | (refine gB ?_; intros) | refine gT ?_ ?_
    | refine gs ?_
    | ((with_reducible refine at_q 128 ?_); refine qret_k (fun _ _ _ => hdk _ FR) ?_)
    | refine sxRefA234 ?_)
        refine next_k hk hlt ?_ FR
        (repeat' first
    | with_reducible first | exact ⟨⟩ | (refine gB ?_; intros) | refine gT ?_ ?_
    | refine gs ?_
    | refine sx ?_)
        all_goals first | exact hq.out | exact .inr trivial
      · have hq : (x.areas.any fun a => domF s a.domain p.steps[i].host == a.index) = true := any_at hlt hdb
        have hz : (!decide (x.approved[i] < 0) && decide (x.approved[i] ≤ t)) = false := by
          by_cases h8 : x.approved[i] < 0
          · rw [decide_eq_true h8]; rfl
          · rw [decide_eq_false h8, decide_eq_false (fun h9 => hc ⟨h8, h9⟩)]; rfl
        rw [hE.out, hq, hz]
        have hc9 : x.approved[i] < 0 ∨ (¬ x.approved[i] < 0 ∧ t < x.approved[i]) := by omega
        clear hp hE hd hdom hq hz hc
        rcases hc9 with h8 | ⟨h8, h9⟩
        · (repeat' first
    | with_reducible first | exact ⟨⟩ | (refine gB ?_; intros) | refine gT ?_ ?_
    | refine gs ?_
    | ((with_reducible refine at_q 128 ?_); refine qret_k (fun _ _ _ => hdk _ FR) ?_)
    | refine sxRefA234 ?_)
        · (repeat' first
    | with_reducible first | exact ⟨⟩ | (refine gB ?_; intros) | refine gT ?_ ?_
    | refine gs ?_
    | ((with_reducible refine at_q 128 ?_); refine qret_k (fun _ _ _ => hdk _ FR) ?_)
    | refine sxRefA234 ?_)
    · have hdb : (domF s x.areas[k].domain p.steps[i].host == x.areas[k].index) = false := by simpa using hdom
      have hq : Hid ((x.areas.take (k + 1)).any (fun a => domF s a.domain p.steps[i].host == a.index) = false ∨ (¬ x.approved[i] < 0 ∧ x.approved[i] ≤ t)) := by
        rcases hp.out with h9 | h9
        · exact .inl (by rw [any_take hlt, h9, hdb]; rfl)
        · exact .inr h9
      clear hp hE hd
      (repeat' first
    | with_reducible first | exact ⟨⟩ | (refine gB ?_; intros) | refine gT ?_ ?_
    | refine gs ?_
    | ((with_reducible refine at_q 128 ?_); refine qret_k (fun _ _ _ => hdk _ FR) ?_)
    | refine sxRefA234 ?_)
      refine next_k hk hlt ?_ FR
      (repeat' first
    | with_reducible first | exact ⟨⟩ | (refine gB ?_; intros) | refine gT ?_ ?_
    | refine gs ?_
    | refine sx ?_)
      all_goals exact hq.out
  · rintro g wk _ _ _ ⟨hi, hf, hp⟩
    simp (maxDischargeDepth := 3) only [U, ↓reduceIte, Nat.reduceEqDiff, *] at hf
    have hq : ((!decide (x.approved[i] < 0) && decide (x.approved[i] ≤ t)) || !x.areas.any fun a => domF s a.domain p.steps[i].host == a.index) = true := by
      rcases hp.out with h9 | ⟨h8, h9⟩
      · rw [List.take_length] at h9
        rw [h9]; simp
      · rw [decide_eq_false h8, decide_eq_true h9]; rfl
    rw [hE.out, hq]
    clear hp hE hd hq
    (repeat' first
    | with_reducible first | exact ⟨⟩ | (refine gB ?_; intros) | refine gT ?_ ?_
    | refine gs ?_
    | refine sx ?_)
end
end Go.Proofs.YtopfddchckdhgaaGreat
/- The document's answer, layer 23: who is out, and whether too many are. -/
namespace Go.Proofs.YtopfddchckdhgaaGreat
set_option linter.unusedSimpArgs false
set_option linter.unusedVariables false
open Go Go.RowKit
set_option maxRecDepth 100000
set_option linter.unusedSectionVars false
set_option maxHeartbeats 2000000
def frO (o : Option (Int × Int)) : Int := match o with | none => -1 | some y => y.1
def toO (o : Option (Int × Int)) : Int := match o with | none => -1 | some y => y.2
section
variable {w w' : World} {B B' : Nat} {f : FrV} {bv : Value} {s : SiteD} {p : PlanD} {x : TermsD} {b : List Int}
theorem frO_step {h : Int} {k : Nat} (hF : Fit s p x) (hb : BegD p b) (hk : k < p.steps.length) (ho : outB p h k = true) (hs : ¬ Sch.at_ b k = -1) :
    (frO (spanK p x b h k) < 0 ∨ Sch.at_ b k < frO (spanK p x b h k) → frO (spanK p x b h (k + 1)) = Sch.at_ b k) ∧ (¬ frO (spanK p x b h k) < 0 → ¬ Sch.at_ b k < frO (spanK p x b h k) → frO (spanK p x b h (k + 1)) = frO (spanK p x b h k)) ∧ toO (spanK p x b h (k + 1)) = max (toO (spanK p x b h k)) (Sch.at_ b k + takeS p x k) := by
  have h1 := hb.at_ hk
  have h2 := hF.take k hk
  cases hq : spanK p x b h k with
  | none =>
    have e : spanK p x b h (k + 1) = some (Sch.at_ b k, Sch.at_ b k + takeS p x k) := by rw [spanK, if_pos ⟨ho, hs⟩, hq]
    rw [e]
    simp only [frO, toO]
    refine ⟨fun _ => trivial, fun h9 => absurd h9 (by decide), by omega⟩
  | some y =>
    obtain ⟨a, c⟩ := y
    have e : spanK p x b h (k + 1) = some (min a (Sch.at_ b k), max c (Sch.at_ b k + takeS p x k)) := by rw [spanK, if_pos ⟨ho, hs⟩, hq]
    rw [e]
    have h3 := span_rng hF hb k (Nat.le_of_lt hk) a c hq
    simp only [frO, toO]
    refine ⟨fun h9 => by omega, fun h8 h9 => by omega, trivial⟩
theorem maxI (a e : Int) : (if e > a then e else a) = max a e := by
  split <;> omega
theorem openK_next {h : Int} {k : Nat} : openK p b h (k + 1) = (openK p b h k || (outB p h k && Sch.at_ b k == -1)) := rfl
theorem frO_rng {h : Int} {k : Nat} (hF : Fit s p x) (hb : BegD p b) (hk : k ≤ p.steps.length) : -1 ≤ frO (spanK p x b h k) ∧ frO (spanK p x b h k) ≤ 1000000 ∧ -1 ≤ toO (spanK p x b h k) ∧ toO (spanK p x b h k) ≤ 10000000 := by
  cases hq : spanK p x b h k with
  | none => simp [frO, toO]
  | some y =>
    obtain ⟨a, c⟩ := y
    have := span_rng hF hb k hk a c hq
    simp only [frO, toO]
    omega
theorem frO_close {o : Bool} {v : Option (Int × Int)} (hv : ∀ a c, v = some (a, c) → 0 ≤ a) : frO (closeS o v) = frO v ∧ toO (closeS o v) = if 0 ≤ frO v ∧ o = true then 10000000 else toO v := by
  cases v with
  | none => simp [closeS, frO, toO]
  | some y =>
    obtain ⟨a, c⟩ := y
    have := hv a c rfl
    cases o <;> simp [closeS, frO, toO, this]
/-- append to a row of the call's own: what else is there stays, and where the row lies. -/
theorem appG2 {α : Type} {w : World} {B b cp e sz by_ t : Nat} {s z : Value} {c : α → List Value} {l : List α} (x : α) {k : Value → World → Prop} (hsl : slOf Tryz.prog t = some (e, sz, by_)) (hz : zeroElt Tryz.prog t = some z) (hzs : (cellsL z).length = sz) (hsz : 0 < sz) (hby : by_ ≤ 64)
    (hown : Own w B e sz s (l.map c)) (hb : Blk w b e (c x)) (hl : (c x).length = sz) (h1 : ∀ v ∈ c x, v.oneCell' = true) (hbound : l.length < 1000000000000) (hB : B ≤ w.heap.size)
    (h : ∀ v' w', Now w' → TBn (fun c => s.ownBlock = some c) w w' → Own w' B e sz v' ((l ++ [x]).map c) → (∀ c, v'.ownBlock = some c → s.ownBlock = some c ∨ w.heap.size ≤ c) → k v' w') : appX Tryz.prog t t t s (.slice (some ⟨b, 0, none⟩) 1 cp) w k := by
  refine append_both x hsl hz hzs hsz hby hown hb hl h1 hbound hB ?_ ?_
  · intro v' w' _ hx ho
    exact h v' w' trivial (TBn.of_ext hx) (ho.more hB) fun c hc => .inr (ho.lt c hc).1
  · intro g cp' w' e _ hc ho
    subst e
    exact h _ w' trivial (TBn.of_chg hc rfl) ho fun c hc => .inl hc
structure OuI2 (w0 : World) (l1 l2 : List Int) (u v : Value) (w' : World) : Prop where
  ext : Ext w0 w'
  fu : Own w' w0.heap.size 3 1 u (l1.map intC)
  fv : Own w' w0.heap.size 3 1 v (l2.map intC)
  ne : ∀ c, u.ownBlock = some c → ¬ v.ownBlock = some c
theorem OuI2.grow {w0 wa wb wc wd we : World} {l1 l2 : List Int} {u v u' v' : Value} {a c : Int} (h : OuI2 w0 l1 l2 u v wa) (hx : Ext wa wb) (ht : TBn (fun c => u.ownBlock = some c) wb wc) (ho : Own wc w0.heap.size 3 1 u' ((l1 ++ [a]).map intC)) (hl : ∀ c, u'.ownBlock = some c → u.ownBlock = some c ∨ wb.heap.size ≤ c) (hx2 : Ext wc wd) (ht2 : TBn (fun c => v.ownBlock = some c) wd we) (ho2 : Own we w0.heap.size 3 1 v' ((l2 ++ [c]).map intC)) (hl2 : ∀ c, v'.ownBlock = some c → v.ownBlock = some c ∨ wd.heap.size ≤ c) : OuI2 w0 (l1 ++ [a]) (l2 ++ [c]) u' v' we := by
  have vb := h.fv.ext hx
  have x1 : Ext w0 wc := (h.ext.trans hx).trans' ⟨ht.os, ht.tape, ht.output, ht.size, fun c hc => ht.block c (Nat.lt_of_lt_of_le hc (h.ext.trans hx).size) fun e => by have := (h.fu.lt c e).1; omega⟩
  have x2 : Ext w0 wd := x1.trans hx2
  have x3 : Ext w0 we := x2.trans' ⟨ht2.os, ht2.tape, ht2.output, ht2.size, fun c hc => ht2.block c (Nat.lt_of_lt_of_le hc x2.size) fun e => by have := (h.fv.lt c e).1; omega⟩
  have hsv : ∀ c, v.ownBlock = some c → c < wb.heap.size := fun c hc => (vb.lt c hc).2
  have hne : ∀ c, u'.ownBlock = some c → ¬ v.ownBlock = some c := fun c hc hv => by
    rcases hl c hc with h1 | h1
    · exact h.ne c h1 hv
    · have := hsv c hv; omega
  have ue : Own we w0.heap.size 3 1 u' ((l1 ++ [a]).map intC) := (ho.ext hx2).keep fun c hc => ht2.block c (Nat.lt_of_lt_of_le (ho.lt c hc).2 hx2.size) (hne c hc)
  exact ⟨x3, ue, ho2, fun c hc hv => by
    rcases hl2 c hv with h1 | h1
    · exact hne c hc h1
    · have := Nat.lt_of_lt_of_le (ho.lt c hc).2 hx2.size
      omega⟩
theorem ref23outs (hF : Fit s p x) (hb : BegD p b) (hB : B ≤ w.heap.size) (hB' : B' ≤ w.heap.size) (h : ArgT w B f s p x) (hv : Sl w B' none 1 bv (b.map intV)) : CallsV Tryz.prog 63 #[.agg (siteC f.u s).toArray, .agg #[f.sv, f.av], .agg (termsC f.q x).toArray, bv] w fun r w' => Ext w w' ∧ ∃ u v, r = .tuple #[u, v] ∧ Own w' w.heap.size 3 1 u (((hostsN s).map fun h => frO (spanS p x b h)).map intC) ∧ Own w' w.heap.size 3 1 v (((hostsN s).map fun h => toO (spanS p x b h)).map intC) := by
  have hn : Now w := trivial
  have hx : Ext w w := Ext.refl w
  have ho := h.ones
  have KH := h.s.h.k hB
  have KS := h.p.s.k hB
  have KF := h.p.s.fk
  have KB := hv.k hB'
  have hbv1 := hv.one
  have hbw : Bl B w w := Bl.refl hB
  have hbw' : Bl B' w w := Bl.refl hB'
  have hH16 : s.hosts.length ≤ 16 := by
    have h9 := (site_all hF.site).2.2.2.2
    simp only [sizesB, btw, Bool.and_eq_true, decide_eq_true_eq] at h9
    omega
  have hn12 := hF.n12
  have hbl : Hid (b.length = p.steps.length) := hb.len
  have hFF : Hid (Fit s p x) := hF
  have hbb : Hid (BegD p b) := hb
  have hend : Hid (∀ w' (h1 : Bl B w w') (h2 : Bl B' w w') i (hi : i < p.steps.length), Ret Tryz.prog 29 #[.agg #[f.sv, f.av], .agg (termsC f.q x).toArray, bv, .int .i64 i] w' (intV (Sch.at_ b i + takeS p x i))) := fun w' h1 h2 i hi => ref23end hF hb h1.size h2.size (h.bl h1) (hv.bl h2) hi
  clear hF hb h hv
  (refine callsV_of Tryz.func63 rfl KR KR ?_; rw [Tryz.results63])
  (repeat' first
    | with_reducible first | exact ⟨⟩ | (refine gB ?_; intros) | refine gT ?_ ?_
    | refine gs ?_
    | refine sxRefA232 ?_)
  rename_i b4 w4 n4 k4 s4 q4 b5 w5 n5 k5 s5 q5 b6 w6 n6 k6 s6 q6
  have hx6 : Ext w w6 := FR
  obtain ⟨LF, hLF⟩ : ∃ LF : Nat → List Int, LF = fun k => (List.range k).map fun h => frO (spanS p x b (Int.ofNat h)) := ⟨_, rfl⟩
  obtain ⟨LT, hLT⟩ : ∃ LT : Nat → List Int, LT = fun k => (List.range k).map fun h => toO (spanS p x b (Int.ofNat h)) := ⟨_, rfl⟩
  have hF1 : Hid (∀ k, LF (k + 1) = LF k ++ [frO (spanS p x b (k : Int))]) := fun k => by rw [hLF]; simp only [List.range_succ, List.map_append]; rfl
  have hT1 : Hid (∀ k, LT (k + 1) = LT k ++ [toO (spanS p x b (k : Int))]) := fun k => by rw [hLT]; simp only [List.range_succ, List.map_append]; rfl
  have hFl : Hid (∀ k, (LF k).length = k ∧ (LT k).length = k) := fun k => by rw [hLF, hLT]; simp
  have hend2 : Hid (LF s.hosts.length = (hostsN s).map (fun h => frO (spanS p x b h)) ∧ LT s.hosts.length = (hostsN s).map fun h => toO (spanS p x b h)) := by
    rw [hLF, hLT]; simp only [hostsN, List.map_map]; exact (⟨rfl, rfl⟩ : _ ∧ _)
  have I0 : Hid (OuI2 w6 (LF 0) (LT 0) (.slice none 0 0) (.slice none 0 0) w6) := by
    rw [hLF, hLT]; exact ⟨Ext.refl _, Own.nil _ _ _ _, Own.nil _ _ _ _, fun c hc => by cases hc⟩
  clear hLF hLT
  refine loop_g s.hosts.length (fun g0 k g w' => g 12 = .int .i64 (k : Int) ∧ (g 3 = g0 3 ∧ g 4 = g0 4 ∧ g 5 = g0 5 ∧ g 6 = g0 6) ∧ ∃ u v, g 10 = u ∧ g 11 = v ∧ Hid (OuI2 w6 (LF k) (LT k) u v w')) KR ?_ ?_ ?_
  · (repeat' first
    | with_reducible first | exact ⟨⟩ | (refine gB ?_; intros) | refine gT ?_ ?_
    | refine gs ?_
    | refine sx ?_)
    exact ⟨_, _, rfl, rfl, I0.out⟩
  · clear I0
    rintro hh m g3 w3 hk3 hlt3 n3 ⟨hi3, hf3, u, v, h10, h11, hp3⟩
    simp (maxDischargeDepth := 3) only [U, ↓reduceIte, Nat.reduceEqDiff, *] at hf3
    have hx3 : Ext w6 w3 := hp3.out.ext
    have s3 := hx3.st
    have r3 := Ext.refl w3
    have hw9 : IntKind.i64.wrap ((hh : Int) + 1) = ((hh + 1 : Nat) : Int) := by rw [wrap_i64_id] <;> omega
    have ou := hp3.out.fu.one
    have ov := hp3.out.fv.one
    have I3 : Hid (OuI2 w6 (LF hh) (LT hh) u v w3) := hp3
    have hhI : (hh : Int) < (s.hosts.length : Int) := by omega
    clear hp3
    have hz0 : frO (spanK p x b (hh : Int) 0) = -1 := rfl
    have hz1 : toO (spanK p x b (hh : Int) 0) = -1 := rfl
    have hz2 : openK p b (hh : Int) 0 = false := rfl
    (repeat' first
    | with_reducible first | exact ⟨⟩ | (refine gB ?_; intros) | refine gT ?_ ?_
    | refine gs ?_
    | refine sx ?_)
    refine loop_k p.steps.length (fun g0 k g _ => g 16 = .int .i64 k ∧ (g 3 = g0 3 ∧ g 4 = g0 4 ∧ g 5 = g0 5 ∧ g 6 = g0 6 ∧ g 10 = g0 10 ∧ g 11 = g0 11 ∧ g 12 = g0 12) ∧ g 13 = .int .i64 (frO (spanK p x b (hh : Int) k)) ∧ g 14 = .int .i64 (toO (spanK p x b (hh : Int) k)) ∧ g 15 = .bool (openK p b (hh : Int) k)) KR (by omega) ?_ ?_ ?_
    · (repeat' first
    | with_reducible first | exact ⟨⟩ | (refine gB ?_; intros) | refine gT ?_ ?_
    | refine gs ?_
    | simp (maxDischargeDepth := 3) only [↓X, ↓Y, ↓Q, S1, ↓reduceIte, Nat.reduceEqDiff, Nat.reduceAdd, Int.reduceLT, Int.reduceLE, Int.reduceNeg, Int.reduceBEq, Int.reduceBNe, Int.reduceEq, Nat.reduceLeDiff, Nat.reduceMul, Nat.reduceLT, *, hz0, hz1, hz2]
    | simp (singlePass := true) (maxDischargeDepth := 99) only [*, S2, Nat.reduceLT, hz0, hz1, hz2])
    · clear hz0 hz1 hz2
      rintro k m4 g4 wk hk hlt nk sk bk hw ⟨hi4, hf4, ha, hb4, ho4⟩
      simp (maxDischargeDepth := 3) only [U, ↓reduceIte, Nat.reduceEqDiff, *] at hf4
      have hkI : (k : Int) < (p.steps.length : Int) := by omega
      have hst : stepS p k = p.steps[k] := stepS_at hlt
      have hobt : outB p (hh : Int) k = (decide (3 ≤ p.steps[k].kind) && (p.steps[k].host == (hh : Int))) := by unfold outB; rw [hst]
      have hkd := hFF.out.kind k hlt
      rw [hst] at hkd
      have hlb : k < b.length := by rw [hbl.out]; exact hlt
      have hlbI : (k : Int) < (b.length : Int) := by omega
      have hat : Sch.at_ b k = b[k] := at_at hlb
      have har := hbb.out.at_ hlt
      have frng := frO_rng (h := (hh : Int)) hFF.out hbb.out (Nat.le_of_lt hlt)
      have htk := hFF.out.take k hlt
      have hnxt := fun ho9 hs9 => frO_step (h := (hh : Int)) hFF.out hbb.out hlt ho9 hs9
      have hskip := fun hn9 => spanK_skip (p := p) (x := x) (b := b) (h := (hh : Int)) (k := k) hn9
      have hopn := openK_next (p := p) (b := b) (h := (hh : Int)) (k := k)
      rw [hat] at har hnxt hskip hopn
      generalize hfa : frO (spanK p x b (hh : Int) k) = fa at *
      generalize hta : toO (spanK p x b (hh : Int) k) = ta at *
      generalize hop : openK p b (hh : Int) k = op at *
      clear hst
      by_cases hho : p.steps[k].host = (hh : Int)
      rotate_left
      · have hne : (p.steps[k].host == (hh : Int)) = false := by simpa using hho
        have hou : outB p (hh : Int) k = false := by rw [hobt, hne, Bool.and_false]
        have f1 : frO (spanK p x b (hh : Int) (k + 1)) = fa := by rw [hskip (fun h9 => by rw [hou] at h9; exact absurd h9.1 (by decide))]; exact hfa
        have t1 : toO (spanK p x b (hh : Int) (k + 1)) = ta := by rw [hskip (fun h9 => by rw [hou] at h9; exact absurd h9.1 (by decide))]; exact hta
        have p1 : openK p b (hh : Int) (k + 1) = op := by rw [hopn, hou, Bool.false_and, Bool.or_false]
        clear hnxt hskip hopn hou hobt hfa hta hop frng htk har hkd
        (repeat' first
    | with_reducible first | exact ⟨⟩ | (refine gB ?_; intros) | refine gT ?_ ?_
    | refine gs ?_
    | simp (maxDischargeDepth := 3) only [↓X, ↓Y, ↓Q, S1, ↓reduceIte, Nat.reduceEqDiff, Nat.reduceAdd, Int.reduceLT, Int.reduceLE, Int.reduceNeg, Int.reduceBEq, Int.reduceBNe, Int.reduceEq, Nat.reduceLeDiff, Nat.reduceMul, Nat.reduceLT, *, stepV, stepC]
    | simp (singlePass := true) (maxDischargeDepth := 99) only [*, S2, Nat.reduceLT, stepV, stepC])
        refine next_k hk hlt ?_ FR
        (repeat' first
    | with_reducible first | exact ⟨⟩ | (refine gB ?_; intros) | refine gT ?_ ?_
    | refine gs ?_
    | simp (maxDischargeDepth := 3) only [↓X, ↓Y, ↓Q, S1, ↓reduceIte, Nat.reduceEqDiff, Nat.reduceAdd, Int.reduceLT, Int.reduceLE, Int.reduceNeg, Int.reduceBEq, Int.reduceBNe, Int.reduceEq, Nat.reduceLeDiff, Nat.reduceMul, Nat.reduceLT, *, f1, t1, p1]
    | simp (singlePass := true) (maxDischargeDepth := 99) only [*, S2, Nat.reduceLT, f1, t1, p1])
      have hhe : (p.steps[k].host == (hh : Int)) = true := by simpa using hho
      rw [hhe, Bool.and_true] at hobt
      by_cases h3 : 3 ≤ p.steps[k].kind
      rotate_left
      · have hio : (decide (3 ≤ p.steps[k].kind) && decide (p.steps[k].kind ≤ 7)) = false := by rw [decide_eq_false h3]; rfl
        have hou : outB p (hh : Int) k = false := by rw [hobt, decide_eq_false h3]
        have f1 : frO (spanK p x b (hh : Int) (k + 1)) = fa := by rw [hskip (fun h9 => by rw [hou] at h9; exact absurd h9.1 (by decide))]; exact hfa
        have t1 : toO (spanK p x b (hh : Int) (k + 1)) = ta := by rw [hskip (fun h9 => by rw [hou] at h9; exact absurd h9.1 (by decide))]; exact hta
        have p1 : openK p b (hh : Int) (k + 1) = op := by rw [hopn, hou, Bool.false_and, Bool.or_false]
        clear hnxt hskip hopn hou hobt hfa hta hop frng htk har hkd
        (repeat' first
    | with_reducible first | exact ⟨⟩ | (refine gB ?_; intros) | refine gT ?_ ?_
    | refine gs ?_
    | ((with_reducible refine at_f 101 ?_); refine ret_k (ref23isOut) fun _ _ _ => ?_)
    | simp (maxDischargeDepth := 3) only [↓X, ↓Y, ↓Q, S1, ↓reduceIte, Nat.reduceEqDiff, Nat.reduceAdd, Int.reduceLT, Int.reduceLE, Int.reduceNeg, Int.reduceBEq, Int.reduceBNe, Int.reduceEq, Nat.reduceLeDiff, Nat.reduceMul, Nat.reduceLT, *, stepV, stepC, hho, hio]
    | simp (singlePass := true) (maxDischargeDepth := 99) only [*, S2, Nat.reduceLT, stepV, stepC, hho, hio])
        refine next_k hk hlt ?_ FR
        (repeat' first
    | with_reducible first | exact ⟨⟩ | (refine gB ?_; intros) | refine gT ?_ ?_
    | refine gs ?_
    | simp (maxDischargeDepth := 3) only [↓X, ↓Y, ↓Q, S1, ↓reduceIte, Nat.reduceEqDiff, Nat.reduceAdd, Int.reduceLT, Int.reduceLE, Int.reduceNeg, Int.reduceBEq, Int.reduceBNe, Int.reduceEq, Nat.reduceLeDiff, Nat.reduceMul, Nat.reduceLT, *, f1, t1, p1]
    | simp (singlePass := true) (maxDischargeDepth := 99) only [*, S2, Nat.reduceLT, f1, t1, p1])
      have hk7 : p.steps[k].kind ≤ 7 := hkd.2
      have hio : (decide (3 ≤ p.steps[k].kind) && decide (p.steps[k].kind ≤ 7)) = true := by rw [decide_eq_true h3, decide_eq_true hkd.2]; rfl
      have hou : outB p (hh : Int) k = true := by rw [hobt, decide_eq_true h3]
      by_cases hbk : b[k] < 0
      · have hb1 : b[k] = -1 := by omega
        have f1 : frO (spanK p x b (hh : Int) (k + 1)) = fa := by rw [hskip (fun h9 => h9.2 hb1)]; exact hfa
        have t1 : toO (spanK p x b (hh : Int) (k + 1)) = ta := by rw [hskip (fun h9 => h9.2 hb1)]; exact hta
        have p1 : openK p b (hh : Int) (k + 1) = true := by rw [hopn, hou, hb1]; simp
        clear hnxt hskip hopn hou hobt hfa hta hop frng htk har hkd hb1
        (repeat' first
    | with_reducible first | exact ⟨⟩ | (refine gB ?_; intros) | refine gT ?_ ?_
    | refine gs ?_
    | ((with_reducible refine at_f 101 ?_); refine ret_k (ref23isOut) fun _ _ _ => ?_)
    | simp (maxDischargeDepth := 3) only [↓X, ↓Y, ↓Q, S1, ↓reduceIte, Nat.reduceEqDiff, Nat.reduceAdd, Int.reduceLT, Int.reduceLE, Int.reduceNeg, Int.reduceBEq, Int.reduceBNe, Int.reduceEq, Nat.reduceLeDiff, Nat.reduceMul, Nat.reduceLT, *, stepV, stepC, hho, hio]
    | simp (singlePass := true) (maxDischargeDepth := 99) only [*, S2, Nat.reduceLT, stepV, stepC, hho, hio])
        all_goals refine next_k hk hlt ?_ FR
        all_goals (repeat' first
    | with_reducible first | exact ⟨⟩ | (refine gB ?_; intros) | refine gT ?_ ?_
    | refine gs ?_
    | simp (maxDischargeDepth := 3) only [↓X, ↓Y, ↓Q, S1, ↓reduceIte, Nat.reduceEqDiff, Nat.reduceAdd, Int.reduceLT, Int.reduceLE, Int.reduceNeg, Int.reduceBEq, Int.reduceBNe, Int.reduceEq, Nat.reduceLeDiff, Nat.reduceMul, Nat.reduceLT, *, f1, t1, p1]
    | simp (singlePass := true) (maxDischargeDepth := 99) only [*, S2, Nat.reduceLT, f1, t1, p1])
      · obtain ⟨g1, g2, g3⟩ := hnxt hou (by omega)
        have p1 : openK p b (hh : Int) (k + 1) = op := by
          rw [hopn, hou, Bool.true_and, show (b[k] == -1) = false by simp; omega, Bool.or_false]
        have hend9 := fun w' h1 h2 => hend.out w' h1 h2 k hlt
        generalize hE : Sch.at_ b k + takeS p x k = E at *
        have hE2 : b[k] + takeS p x k = E := by rw [← hat]; exact hE
        have t1 : toO (spanK p x b (hh : Int) (k + 1)) = max ta E := by rw [g3, hE2]
        clear hskip hopn hou hobt hfa hta hop hE hE2 g3 hat
        by_cases hf0 : fa < 0
        · have f1 : frO (spanK p x b (hh : Int) (k + 1)) = b[k] := g1 (.inl hf0)
          clear g1 g2 hnxt frng htk har hkd
          (repeat' first
    | with_reducible first | exact ⟨⟩ | (refine gB ?_; intros) | refine gT ?_ ?_
    | refine gs ?_
    | ((with_reducible refine at_f 101 ?_); refine ret_k (ref23isOut) fun _ _ _ => ?_)
    | ((with_reducible refine at_f 29 ?_); refine ret_k (hend9 _ FR FR) fun _ _ _ => ?_)
    | simp (maxDischargeDepth := 3) only [↓X, ↓Y, ↓Q, S1, ↓reduceIte, Nat.reduceEqDiff, Nat.reduceAdd, Int.reduceLT, Int.reduceLE, Int.reduceNeg, Int.reduceBEq, Int.reduceBNe, Int.reduceEq, Nat.reduceLeDiff, Nat.reduceMul, Nat.reduceLT, *, stepV, stepC, hho, hio]
    | simp (singlePass := true) (maxDischargeDepth := 99) only [*, S2, Nat.reduceLT, stepV, stepC, hho, hio])
          refine next_k hk hlt ?_ FR
          (repeat' first
    | with_reducible first | exact ⟨⟩ | (refine gB ?_; intros) | refine gT ?_ ?_
    | refine gs ?_
    | simp (maxDischargeDepth := 3) only [↓X, ↓Y, ↓Q, S1, ↓reduceIte, Nat.reduceEqDiff, Nat.reduceAdd, Int.reduceLT, Int.reduceLE, Int.reduceNeg, Int.reduceBEq, Int.reduceBNe, Int.reduceEq, Nat.reduceLeDiff, Nat.reduceMul, Nat.reduceLT, *, f1, t1, p1]
    | simp (singlePass := true) (maxDischargeDepth := 99) only [*, S2, Nat.reduceLT, f1, t1, p1])
          exact congrArg (Value.int .i64) (maxI ta E)
        · by_cases hf1 : b[k] < fa
          · have f1 : frO (spanK p x b (hh : Int) (k + 1)) = b[k] := g1 (.inr hf1)
            clear g1 g2 hnxt frng htk har hkd
            (repeat' first
    | with_reducible first | exact ⟨⟩ | (refine gB ?_; intros) | refine gT ?_ ?_
    | refine gs ?_
    | ((with_reducible refine at_f 101 ?_); refine ret_k (ref23isOut) fun _ _ _ => ?_)
    | ((with_reducible refine at_f 29 ?_); refine ret_k (hend9 _ FR FR) fun _ _ _ => ?_)
    | simp (maxDischargeDepth := 3) only [↓X, ↓Y, ↓Q, S1, ↓reduceIte, Nat.reduceEqDiff, Nat.reduceAdd, Int.reduceLT, Int.reduceLE, Int.reduceNeg, Int.reduceBEq, Int.reduceBNe, Int.reduceEq, Nat.reduceLeDiff, Nat.reduceMul, Nat.reduceLT, *, stepV, stepC, hho, hio]
    | simp (singlePass := true) (maxDischargeDepth := 99) only [*, S2, Nat.reduceLT, stepV, stepC, hho, hio])
            refine next_k hk hlt ?_ FR
            (repeat' first
    | with_reducible first | exact ⟨⟩ | (refine gB ?_; intros) | refine gT ?_ ?_
    | refine gs ?_
    | simp (maxDischargeDepth := 3) only [↓X, ↓Y, ↓Q, S1, ↓reduceIte, Nat.reduceEqDiff, Nat.reduceAdd, Int.reduceLT, Int.reduceLE, Int.reduceNeg, Int.reduceBEq, Int.reduceBNe, Int.reduceEq, Nat.reduceLeDiff, Nat.reduceMul, Nat.reduceLT, *, f1, t1, p1]
    | simp (singlePass := true) (maxDischargeDepth := 99) only [*, S2, Nat.reduceLT, f1, t1, p1])
            exact congrArg (Value.int .i64) (maxI ta E)
          · have f1 : frO (spanK p x b (hh : Int) (k + 1)) = fa := g2 hf0 hf1
            clear g1 g2 hnxt frng htk har hkd
            (repeat' first
    | with_reducible first | exact ⟨⟩ | (refine gB ?_; intros) | refine gT ?_ ?_
    | refine gs ?_
    | ((with_reducible refine at_f 101 ?_); refine ret_k (ref23isOut) fun _ _ _ => ?_)
    | ((with_reducible refine at_f 29 ?_); refine ret_k (hend9 _ FR FR) fun _ _ _ => ?_)
    | simp (maxDischargeDepth := 3) only [↓X, ↓Y, ↓Q, S1, ↓reduceIte, Nat.reduceEqDiff, Nat.reduceAdd, Int.reduceLT, Int.reduceLE, Int.reduceNeg, Int.reduceBEq, Int.reduceBNe, Int.reduceEq, Nat.reduceLeDiff, Nat.reduceMul, Nat.reduceLT, *, stepV, stepC, hho, hio]
    | simp (singlePass := true) (maxDischargeDepth := 99) only [*, S2, Nat.reduceLT, stepV, stepC, hho, hio])
            refine next_k hk hlt ?_ FR
            (repeat' first
    | with_reducible first | exact ⟨⟩ | (refine gB ?_; intros) | refine gT ?_ ?_
    | refine gs ?_
    | simp (maxDischargeDepth := 3) only [↓X, ↓Y, ↓Q, S1, ↓reduceIte, Nat.reduceEqDiff, Nat.reduceAdd, Int.reduceLT, Int.reduceLE, Int.reduceNeg, Int.reduceBEq, Int.reduceBNe, Int.reduceEq, Nat.reduceLeDiff, Nat.reduceMul, Nat.reduceLT, *, f1, t1, p1]
    | simp (singlePass := true) (maxDischargeDepth := 99) only [*, S2, Nat.reduceLT, f1, t1, p1])
            exact congrArg (Value.int .i64) (maxI ta E)
    · rintro g4 wk0 nk sk bk ⟨hi4, hf4, ha, hb4, ho4⟩
      simp (maxDischargeDepth := 3) only [U, ↓reduceIte, Nat.reduceEqDiff, *] at hf4
      have hcl := frO_close (o := openK p b (hh : Int) p.steps.length) (v := spanK p x b (hh : Int) p.steps.length) (fun a c e => (span_rng hFF.out hbb.out _ (Nat.le_refl _) a c e).1)
      have c1 : Hid (frO (spanS p x b (hh : Int)) = frO (spanK p x b (hh : Int) p.steps.length)) := hcl.1
      have c2 : Hid (toO (spanS p x b (hh : Int)) = if 0 ≤ frO (spanK p x b (hh : Int) p.steps.length) ∧ openK p b (hh : Int) p.steps.length = true then 10000000 else toO (spanK p x b (hh : Int) p.steps.length)) := hcl.2
      clear hcl hz0 hz1 hz2
      generalize frO (spanK p x b (hh : Int) p.steps.length) = fa at *
      generalize toO (spanK p x b (hh : Int) p.steps.length) = ta at *
      generalize openK p b (hh : Int) p.steps.length = op at *
      by_cases hf0 : 0 ≤ fa
      · cases op
        · replace c2 : Hid (toO (spanS p x b (hh : Int)) = ta) := by
            have := c2.out
            show toO (spanS p x b (hh : Int)) = ta
            simpa using this
          (repeat' first
    | with_reducible first | exact ⟨⟩ | (refine gB ?_; intros) | refine gT ?_ ?_
    | refine gs ?_
    | refine sx ?_)
          rename_i ba wa na ka sa qa za
          clear za
          have Ka : Blk wa ba 3 (intC fa) := ka.2.1 _ ka.2.2.1
          have xa : Ext w3 wa := FR
          refine appG2 (e := 3) (sz := 1) (by_ := 8) (z := .int .i64 0) (c := intC) fa KR KR rfl (by decide) (by decide) (I3.out.fu.ext xa) Ka rfl (by simp [intC, intV, one_int]) (by have := (hFl.out hh).1; omega) (Nat.le_trans I3.out.ext.size xa.size) fun u2 wb nb Tb hob hlb2 => ?_
          have ou2 := hob.one
          have hovb : Own wb w6.heap.size 3 1 v ((LT hh).map intC) := (I3.out.fv.ext xa).keep fun c hc => Tb.block c (Nat.lt_of_lt_of_le (I3.out.fv.lt c hc).2 xa.size) fun e9 => I3.out.ne c e9 hc
          have hxb : Ext w6 wb := (I3.out.ext.trans xa).trans' ⟨Tb.os, Tb.tape, Tb.output, Tb.size, fun c hc => Tb.block c (Nat.lt_of_lt_of_le hc (I3.out.ext.trans xa).size) fun e9 => by have := (I3.out.fu.lt c e9).1; omega⟩
          have sb := hxb.st
          have rb := Ext.refl wb
          have Tb' : Hid _ := Tb
          have hob' : Hid (Own wb w6.heap.size 3 1 u2 ((LF hh ++ [fa]).map intC)) := hob
          have hlb2' : Hid _ := hlb2
          have hovb' : Hid (Own wb w6.heap.size 3 1 v ((LT hh).map intC)) := hovb
          have xa' : Hid (Ext w3 wa) := xa
          clear Tb hob hlb2 hovb Ka ka sa qa xa sk
          (repeat' first
    | with_reducible first | exact ⟨⟩ | (refine gB ?_; intros) | refine gT ?_ ?_
    | refine gs ?_
    | refine sx ?_)
          rename_i bc wc nc kc sc qc zc
          clear zc
          have Kc : Blk wc bc 3 (intC ta) := kc.2.1 _ kc.2.2.1
          have xc : Ext wb wc := FR
          refine appG2 (e := 3) (sz := 1) (by_ := 8) (z := .int .i64 0) (c := intC) ta KR KR rfl (by decide) (by decide) (hovb'.out.ext xc) Kc rfl (by simp [intC, intV, one_int]) (by have := (hFl.out hh).2; omega) (Nat.le_trans hxb.size xc.size) fun v2 wd nd Td hod hld => ?_
          have ov2 := hod.one
          have I4 : Hid (OuI2 w6 (LF (hh + 1)) (LT (hh + 1)) u2 v2 wd) := by
            rw [hF1.out, hT1.out, c1.out, c2.out]
            exact OuI2.grow I3.out xa'.out Tb'.out hob'.out hlb2'.out xc Td hod hld
          have sd := I4.out.ext.st
          clear Td hod hld Kc kc sc qc xc I3 hob' hovb' Tb' hlb2' xa' sb hxb rb
          (repeat' first
    | with_reducible first | exact ⟨⟩ | (refine gB ?_; intros) | refine gT ?_ ?_
    | refine gs ?_
    | refine sx ?_)
          refine next_g hk3 hlt3 ?_
          (repeat' first
    | with_reducible first | exact ⟨⟩ | (refine gB ?_; intros) | refine gT ?_ ?_
    | refine gs ?_
    | refine sx ?_)
          exact ⟨_, _, rfl, rfl, I4.out⟩
        · replace c2 : Hid (toO (spanS p x b (hh : Int)) = 10000000) := by
            have := c2.out
            show toO (spanS p x b (hh : Int)) = 10000000
            simpa [hf0] using this
          (repeat' first
    | with_reducible first | exact ⟨⟩ | (refine gB ?_; intros) | refine gT ?_ ?_
    | refine gs ?_
    | refine sx ?_)
          rename_i ba wa na ka sa qa za
          clear za
          have Ka : Blk wa ba 3 (intC fa) := ka.2.1 _ ka.2.2.1
          have xa : Ext w3 wa := FR
          refine appG2 (e := 3) (sz := 1) (by_ := 8) (z := .int .i64 0) (c := intC) fa KR KR rfl (by decide) (by decide) (I3.out.fu.ext xa) Ka rfl (by simp [intC, intV, one_int]) (by have := (hFl.out hh).1; omega) (Nat.le_trans I3.out.ext.size xa.size) fun u2 wb nb Tb hob hlb2 => ?_
          have ou2 := hob.one
          have hovb : Own wb w6.heap.size 3 1 v ((LT hh).map intC) := (I3.out.fv.ext xa).keep fun c hc => Tb.block c (Nat.lt_of_lt_of_le (I3.out.fv.lt c hc).2 xa.size) fun e9 => I3.out.ne c e9 hc
          have hxb : Ext w6 wb := (I3.out.ext.trans xa).trans' ⟨Tb.os, Tb.tape, Tb.output, Tb.size, fun c hc => Tb.block c (Nat.lt_of_lt_of_le hc (I3.out.ext.trans xa).size) fun e9 => by have := (I3.out.fu.lt c e9).1; omega⟩
          have sb := hxb.st
          have rb := Ext.refl wb
          have Tb' : Hid _ := Tb
          have hob' : Hid (Own wb w6.heap.size 3 1 u2 ((LF hh ++ [fa]).map intC)) := hob
          have hlb2' : Hid _ := hlb2
          have hovb' : Hid (Own wb w6.heap.size 3 1 v ((LT hh).map intC)) := hovb
          have xa' : Hid (Ext w3 wa) := xa
          clear Tb hob hlb2 hovb Ka ka sa qa xa sk
          (repeat' first
    | with_reducible first | exact ⟨⟩ | (refine gB ?_; intros) | refine gT ?_ ?_
    | refine gs ?_
    | refine sx ?_)
          rename_i bc wc nc kc sc qc zc
          clear zc
          have Kc : Blk wc bc 3 (intC 10000000) := kc.2.1 _ kc.2.2.1
          have xc : Ext wb wc := FR
          refine appG2 (e := 3) (sz := 1) (by_ := 8) (z := .int .i64 0) (c := intC) 10000000 KR KR rfl (by decide) (by decide) (hovb'.out.ext xc) Kc rfl (by simp [intC, intV, one_int]) (by have := (hFl.out hh).2; omega) (Nat.le_trans hxb.size xc.size) fun v2 wd nd Td hod hld => ?_
          have ov2 := hod.one
          have I4 : Hid (OuI2 w6 (LF (hh + 1)) (LT (hh + 1)) u2 v2 wd) := by
            rw [hF1.out, hT1.out, c1.out, c2.out]
            exact OuI2.grow I3.out xa'.out Tb'.out hob'.out hlb2'.out xc Td hod hld
          have sd := I4.out.ext.st
          clear Td hod hld Kc kc sc qc xc I3 hob' hovb' Tb' hlb2' xa' sb hxb rb
          (repeat' first
    | with_reducible first | exact ⟨⟩ | (refine gB ?_; intros) | refine gT ?_ ?_
    | refine gs ?_
    | refine sx ?_)
          refine next_g hk3 hlt3 ?_
          (repeat' first
    | with_reducible first | exact ⟨⟩ | (refine gB ?_; intros) | refine gT ?_ ?_
    | refine gs ?_
    | refine sx ?_)
          exact ⟨_, _, rfl, rfl, I4.out⟩
      · replace c2 : Hid (toO (spanS p x b (hh : Int)) = ta) := by
          have := c2.out
          show toO (spanS p x b (hh : Int)) = ta
          simpa [hf0] using this
        (repeat' first
    | with_reducible first | exact ⟨⟩ | (refine gB ?_; intros) | refine gT ?_ ?_
    | refine gs ?_
    | refine sx ?_)
        rename_i ba wa na ka sa qa za
        clear za
        have Ka : Blk wa ba 3 (intC fa) := ka.2.1 _ ka.2.2.1
        have xa : Ext w3 wa := FR
        refine appG2 (e := 3) (sz := 1) (by_ := 8) (z := .int .i64 0) (c := intC) fa KR KR rfl (by decide) (by decide) (I3.out.fu.ext xa) Ka rfl (by simp [intC, intV, one_int]) (by have := (hFl.out hh).1; omega) (Nat.le_trans I3.out.ext.size xa.size) fun u2 wb nb Tb hob hlb2 => ?_
        have ou2 := hob.one
        have hovb : Own wb w6.heap.size 3 1 v ((LT hh).map intC) := (I3.out.fv.ext xa).keep fun c hc => Tb.block c (Nat.lt_of_lt_of_le (I3.out.fv.lt c hc).2 xa.size) fun e9 => I3.out.ne c e9 hc
        have hxb : Ext w6 wb := (I3.out.ext.trans xa).trans' ⟨Tb.os, Tb.tape, Tb.output, Tb.size, fun c hc => Tb.block c (Nat.lt_of_lt_of_le hc (I3.out.ext.trans xa).size) fun e9 => by have := (I3.out.fu.lt c e9).1; omega⟩
        have sb := hxb.st
        have rb := Ext.refl wb
        have Tb' : Hid _ := Tb
        have hob' : Hid (Own wb w6.heap.size 3 1 u2 ((LF hh ++ [fa]).map intC)) := hob
        have hlb2' : Hid _ := hlb2
        have hovb' : Hid (Own wb w6.heap.size 3 1 v ((LT hh).map intC)) := hovb
        have xa' : Hid (Ext w3 wa) := xa
        clear Tb hob hlb2 hovb Ka ka sa qa xa sk
        (repeat' first
    | with_reducible first | exact ⟨⟩ | (refine gB ?_; intros) | refine gT ?_ ?_
    | refine gs ?_
    | refine sx ?_)
        rename_i bc wc nc kc sc qc zc
        clear zc
        have Kc : Blk wc bc 3 (intC ta) := kc.2.1 _ kc.2.2.1
        have xc : Ext wb wc := FR
        refine appG2 (e := 3) (sz := 1) (by_ := 8) (z := .int .i64 0) (c := intC) ta KR KR rfl (by decide) (by decide) (hovb'.out.ext xc) Kc rfl (by simp [intC, intV, one_int]) (by have := (hFl.out hh).2; omega) (Nat.le_trans hxb.size xc.size) fun v2 wd nd Td hod hld => ?_
        have ov2 := hod.one
        have I4 : Hid (OuI2 w6 (LF (hh + 1)) (LT (hh + 1)) u2 v2 wd) := by
          rw [hF1.out, hT1.out, c1.out, c2.out]
          exact OuI2.grow I3.out xa'.out Tb'.out hob'.out hlb2'.out xc Td hod hld
        have sd := I4.out.ext.st
        clear Td hod hld Kc kc sc qc xc I3 hob' hovb' Tb' hlb2' xa' sb hxb rb
        (repeat' first
    | with_reducible first | exact ⟨⟩ | (refine gB ?_; intros) | refine gT ?_ ?_
    | refine gs ?_
    | refine sx ?_)
        refine next_g hk3 hlt3 ?_
        (repeat' first
    | with_reducible first | exact ⟨⟩ | (refine gB ?_; intros) | refine gT ?_ ?_
    | refine gs ?_
    | refine sx ?_)
        exact ⟨_, _, rfl, rfl, I4.out⟩
  · rintro g3 w3 n3 ⟨hi3, hf3, u, v, h10, h11, hp3⟩
    simp (maxDischargeDepth := 3) only [U, ↓reduceIte, Nat.reduceEqDiff, *] at hf3
    have hx3 : Ext w6 w3 := hp3.out.ext
    have s3 := hx3.st
    have r3 := Ext.refl w3
    have ou := hp3.out.fu.one
    have ov := hp3.out.fv.one
    have I3 : Hid (OuI2 w6 (LF s.hosts.length) (LT s.hosts.length) u v w3) := hp3
    have hww : w.heap.size ≤ w6.heap.size := hx6.size
    clear hp3
    (repeat' first
    | with_reducible first | exact ⟨⟩ | (refine gB ?_; intros) | refine gT ?_ ?_
    | refine gs ?_
    | refine sx ?_)
    exact ⟨_, _, rfl, by rw [← hend2.out.1]; exact I3.out.fu.more hww, by rw [← hend2.out.2]; exact I3.out.fv.more hww⟩
end
end Go.Proofs.YtopfddchckdhgaaGreat
/- The document's answer, layer 23: whether too many are out. -/
namespace Go.Proofs.YtopfddchckdhgaaGreat
set_option linter.unusedSimpArgs false
set_option linter.unusedVariables false
open Go Go.RowKit
set_option maxRecDepth 100000
set_option linter.unusedSectionVars false
set_option maxHeartbeats 2000000
def condS (s : SiteD) (p : PlanD) (x : TermsD) (b : List Int) (t : Int) (h : Int) : Bool := inSp t (spanS p x b h)
section
variable {w w' : World} {B B' : Nat} {f : FrV} {bv : Value} {s : SiteD} {p : PlanD} {x : TermsD} {b : List Int}
theorem hosts_take {k : Nat} (h : k < s.hosts.length) : (hostsN s).take (k + 1) = (hostsN s).take k ++ [(k : Int)] := by
  have hl : k < (hostsN s).length := by simpa [hostsN] using h
  rw [List.take_succ_eq_append_getElem hl]
  simp [hostsN]
theorem ref23crowded (hF : Fit s p x) (hb : BegD p b) (hB : B ≤ w.heap.size) (hB' : B' ≤ w.heap.size) (h : ArgT w B f s p x) (hv : Sl w B' none 1 bv (b.map intV)) : CallsV Tryz.prog 104 #[.agg (siteC f.u s).toArray, .agg #[f.sv, f.av], .agg (termsC f.q x).toArray, bv] w fun r w' => Ext w w' ∧ ∃ a m, r = .tuple #[intV a, intV m, .bool (crowdS s p x b).isSome] := by
  have hn : Now w := trivial
  have hx : Ext w w := Ext.refl w
  have ho := h.ones
  have hbv1 := hv.one
  have hbw : Bl B w w := Bl.refl hB
  have hbw' : Bl B' w w := Bl.refl hB'
  have hH16 : s.hosts.length ≤ 16 := by
    have h9 := (site_all hF.site).2.2.2.2
    simp only [sizesB, btw, Bool.and_eq_true, decide_eq_true_eq] at h9
    omega
  by_cases hbl0 : x.blast = 0
  · have hc0 : crowdS s p x b = none := by unfold crowdS; rw [if_pos hbl0]
    have hbe : (x.blast == 0) = true := by simpa using hbl0
    rw [hc0]
    clear hF hb h hv
    (refine callsV_of Tryz.func104 rfl KR KR ?_; rw [Tryz.results104])
    (repeat' first
    | with_reducible first | exact ⟨⟩ | (refine gB ?_; intros) | refine gT ?_ ?_
    | refine gs ?_
    | refine sxRefA232 ?_)
    exact ⟨_, _, rfl⟩
  have hbe : (x.blast == 0) = false := by simpa using hbl0
  have hbp : Hid (0 ≤ x.blast) := hF.blast.1
  have hout : Hid (∀ w' (h1 : Bl B w w') (h2 : Bl B' w w'), CallsV Tryz.prog 63 #[.agg (siteC f.u s).toArray, .agg #[f.sv, f.av], .agg (termsC f.q x).toArray, bv] w' fun r w'' => Ext w' w'' ∧ ∃ u v, r = .tuple #[u, v] ∧ Own w'' w'.heap.size 3 1 u (((hostsN s).map fun h => frO (spanS p x b h)).map intC) ∧ Own w'' w'.heap.size 3 1 v (((hostsN s).map fun h => toO (spanS p x b h)).map intC)) := fun w' h1 h2 => ref23outs hF hb h1.size h2.size (h.bl h1) (hv.bl h2)
  have hFF : Hid (Fit s p x) := hF
  have hbb : Hid (BegD p b) := hb
  have hcf := fun {seen : Int → Prop} {f9 : Bool} {a9 m9 : Int} (hf9 : Found s p x b seen f9 a9 m9) hs9 => Found.crowd hF hbl0 hf9 hs9
  replace hcf : Hid _ := @hcf
  clear hF hb h hv
  (refine callsV_of Tryz.func104 rfl KR KR ?_; rw [Tryz.results104])
  (repeat' first
    | with_reducible first | exact ⟨⟩ | (refine gB ?_; intros) | refine gT ?_ ?_
    | refine gs ?_
    | refine sxRefA232 ?_)
  rename_i b4 w4 n4 k4 s4 q4 b5 w5 n5 k5 s5 q5 b6 w6 n6 k6 s6 q6
  refine call_k (hout.out _ FR FR) ?_
  rintro _ w7 n7 s7 ⟨u, v, rfl, hu, hv⟩
  have ou := hu.one
  have ov := hv.one
  have hFL : Hid (∀ k (h : k < ((hostsN s).map fun h => frO (spanS p x b h)).length), ((hostsN s).map fun h => frO (spanS p x b h))[k] = frO (spanS p x b (k : Int))) := fun k h => by simp [hostsN]
  have hTL : Hid (∀ k (h : k < ((hostsN s).map fun h => toO (spanS p x b h)).length), ((hostsN s).map fun h => toO (spanS p x b h))[k] = toO (spanS p x b (k : Int))) := fun k h => by simp [hostsN]
  have hFn : Hid (((hostsN s).map fun h => frO (spanS p x b h)).length = s.hosts.length) := by
    show ((hostsN s).map fun h => frO (spanS p x b h)).length = s.hosts.length
    simp [hostsN]
  have hTn : Hid (((hostsN s).map fun h => toO (spanS p x b h)).length = s.hosts.length) := by
    show ((hostsN s).map fun h => toO (spanS p x b h)).length = s.hosts.length
    simp [hostsN]
  generalize ((hostsN s).map fun h => frO (spanS p x b h)) = FL at *
  generalize ((hostsN s).map fun h => toO (spanS p x b h)) = TL at *
  have KU := (hu.sl1 (f := intV)).k (Nat.le_refl _)
  have KV := (hv.sl1 (f := intV)).k (Nat.le_refl _)
  have bl7 : Bl w7.heap.size w7 w7 := Bl.refl (Nat.le_refl _)
  have hFm : FL.length ≤ 16 := by rw [hFn.out]; exact hH16
  clear hu hv hout
  (repeat' first
    | with_reducible first | exact ⟨⟩ | (refine gB ?_; intros) | refine gT ?_ ?_
    | refine gs ?_
    | refine sx ?_)
  refine loop_k FL.length (fun g0 k g _ => g 16 = .int .i64 k ∧ (g 6 = g0 6 ∧ g 11 = g0 11 ∧ g 12 = g0 12) ∧ ∃ (a m : Int) (f9 : Bool), g 13 = .int .i64 a ∧ g 14 = .int .i64 m ∧ g 15 = .bool f9 ∧ Hid (Found s p x b (fun y => 0 ≤ y ∧ y < (k : Int)) f9 a m)) KR (by omega) ?_ ?_ ?_
  · (repeat' first
    | with_reducible first | exact ⟨⟩ | (refine gB ?_; intros) | refine gT ?_ ?_
    | refine gs ?_
    | refine sx ?_)
    refine ⟨_, _, _, rfl, rfl, rfl, ?_⟩
    exact ⟨fun y hy => by omega, fun h9 => by cases h9⟩
  · rintro hh m4 g4 wk hk hlt nk sk bk hw ⟨hi4, hf4, a, m, f9, h13, h14, h15, hfo⟩
    simp (maxDischargeDepth := 3) only [U, ↓reduceIte, Nat.reduceEqDiff, *] at hf4
    have hhH : hh < s.hosts.length := by rw [← hFn.out]; exact hlt
    have hseen : Hid (∀ y : Int, (0 ≤ y ∧ y < ((hh + 1 : Nat) : Int)) ↔ (0 ≤ y ∧ y < (hh : Int)) ∨ y = (hh : Int)) := fun y => by omega
    have hF1 := hFL.out hh hlt
    have hhI : (hh : Int) < (FL.length : Int) := by omega
    cases hsp : spanS p x b (hh : Int) with
    | none =>
      rw [hsp] at hF1
      have ht : FL[hh] = -1 := hF1
      have hfo' : Hid (Found s p x b (fun y => 0 ≤ y ∧ y < ((hh + 1 : Nat) : Int)) f9 a m) := Found.skip hfo.out hseen.out hsp
      have hbn : ¬ x.blast < 0 := by have := hbp.out; omega
      clear hF1 hfo hsp
      (repeat' first
    | with_reducible first | exact ⟨⟩ | (refine gB ?_; intros) | refine gT ?_ ?_
    | refine gs ?_
    | simp (maxDischargeDepth := 3) only [↓X, ↓Y, ↓Q, S1, ↓reduceIte, Nat.reduceEqDiff, Nat.reduceAdd, Int.reduceLT, Int.reduceLE, Int.reduceNeg, Int.reduceBEq, Int.reduceBNe, Int.reduceEq, Nat.reduceLeDiff, Nat.reduceMul, Nat.reduceLT, *, ht]
    | simp (singlePass := true) (maxDischargeDepth := 99) only [*, S2, Nat.reduceLT, ht])
      refine loop_k FL.length (fun g0 k g _ => g 18 = .int .i64 k ∧ (g 6 = g0 6 ∧ g 11 = g0 11 ∧ g 12 = g0 12 ∧ g 13 = g0 13 ∧ g 14 = g0 14 ∧ g 15 = g0 15 ∧ g 16 = g0 16) ∧ g 17 = .int .i64 0) KR (by omega) ?_ ?_ ?_
      · (repeat' first
    | with_reducible first | exact ⟨⟩ | (refine gB ?_; intros) | refine gT ?_ ?_
    | refine gs ?_
    | refine sx ?_)
      · rintro kk m5 g5 wj hkj hltj nj sj bj hwj ⟨hi5, hf5, h17⟩
        simp (maxDischargeDepth := 3) only [U, ↓reduceIte, Nat.reduceEqDiff, *] at hf5
        (repeat' first
    | with_reducible first | exact ⟨⟩ | (refine gB ?_; intros) | refine gT ?_ ?_
    | refine gs ?_
    | simp (maxDischargeDepth := 3) only [↓X, ↓Y, ↓Q, S1, ↓reduceIte, Nat.reduceEqDiff, Nat.reduceAdd, Int.reduceLT, Int.reduceLE, Int.reduceNeg, Int.reduceBEq, Int.reduceBNe, Int.reduceEq, Nat.reduceLeDiff, Nat.reduceMul, Nat.reduceLT, *, ht]
    | simp (singlePass := true) (maxDischargeDepth := 99) only [*, S2, Nat.reduceLT, ht])
        refine next_k hkj hltj ?_ FR
        (repeat' first
    | with_reducible first | exact ⟨⟩ | (refine gB ?_; intros) | refine gT ?_ ?_
    | refine gs ?_
    | refine sx ?_)
      · rintro g5 wj nj sj bj ⟨hi5, hf5, h17⟩
        simp (maxDischargeDepth := 3) only [U, ↓reduceIte, Nat.reduceEqDiff, *] at hf5
        (repeat' first
    | with_reducible first | exact ⟨⟩ | (refine gB ?_; intros) | refine gT ?_ ?_
    | refine gs ?_
    | simp (maxDischargeDepth := 3) only [↓X, ↓Y, ↓Q, S1, ↓reduceIte, Nat.reduceEqDiff, Nat.reduceAdd, Int.reduceLT, Int.reduceLE, Int.reduceNeg, Int.reduceBEq, Int.reduceBNe, Int.reduceEq, Nat.reduceLeDiff, Nat.reduceMul, Nat.reduceLT, *, ht]
    | simp (singlePass := true) (maxDischargeDepth := 99) only [*, S2, Nat.reduceLT, ht])
        refine next_k hk hlt ?_ FR
        (repeat' first
    | with_reducible first | exact ⟨⟩ | (refine gB ?_; intros) | refine gT ?_ ?_
    | refine gs ?_
    | refine sx ?_)
        exact ⟨_, _, _, rfl, rfl, rfl, hfo'.out⟩
    | some y =>
      obtain ⟨a0, c0⟩ := y
      have hr0 := spanS_rng hFF.out hbb.out hsp
      rw [hsp] at hF1
      have ht : FL[hh] = a0 := hF1
      have ha0 : ¬ a0 < 0 := by omega
      have ha00 : 0 ≤ a0 := by omega
      obtain ⟨CN, hCN⟩ : ∃ CN : Nat → Nat, CN = fun k => ((hostsN s).take k).countP fun y => inSp a0 (spanS p x b y) := ⟨_, rfl⟩
      have hC0 : CN 0 = 0 := by rw [hCN]; rfl
      have hC1 : Hid (∀ k, k < s.hosts.length → CN (k + 1) = CN k + if inSp a0 (spanS p x b (k : Int)) = true then 1 else 0) := fun k hk => by
        rw [hCN]
        simp only [hosts_take hk, List.countP_append, List.countP_cons, List.countP_nil, Nat.zero_add]
      have hCl : Hid (∀ k, CN k ≤ 16) := fun k => by
        rw [hCN]
        have h9 : ((hostsN s).take k).countP (fun y => inSp a0 (spanS p x b y)) ≤ ((hostsN s).take k).length := List.countP_le_length
        have h8 : ((hostsN s).take k).length ≤ s.hosts.length := by rw [List.length_take]; simp [hostsN]; omega
        exact Nat.le_trans h9 (Nat.le_trans h8 hH16)
      have hCe : Hid (CN FL.length = cntS s p x b a0) := by
        show CN FL.length = cntS s p x b a0
        rw [hCN, hFn.out]
        show ((hostsN s).take s.hosts.length).countP _ = _
        rw [List.take_of_length_le (by simp [hostsN])]; rfl
      have hmore := Found.more hfo.out hseen.out hsp
      clear hCN hF1 hfo hsp hr0
      (repeat' first
    | with_reducible first | exact ⟨⟩ | (refine gB ?_; intros) | refine gT ?_ ?_
    | refine gs ?_
    | simp (maxDischargeDepth := 3) only [↓X, ↓Y, ↓Q, S1, ↓reduceIte, Nat.reduceEqDiff, Nat.reduceAdd, Int.reduceLT, Int.reduceLE, Int.reduceNeg, Int.reduceBEq, Int.reduceBNe, Int.reduceEq, Nat.reduceLeDiff, Nat.reduceMul, Nat.reduceLT, *, ht]
    | simp (singlePass := true) (maxDischargeDepth := 99) only [*, S2, Nat.reduceLT, ht])
      refine loop_k FL.length (fun g0 k g _ => g 18 = .int .i64 k ∧ (g 6 = g0 6 ∧ g 11 = g0 11 ∧ g 12 = g0 12 ∧ g 13 = g0 13 ∧ g 14 = g0 14 ∧ g 15 = g0 15 ∧ g 16 = g0 16) ∧ g 17 = .int .i64 ((CN k : Nat) : Int)) KR (by omega) ?_ ?_ ?_
      · (repeat' first
    | with_reducible first | exact ⟨⟩ | (refine gB ?_; intros) | refine gT ?_ ?_
    | refine gs ?_
    | simp (maxDischargeDepth := 3) only [↓X, ↓Y, ↓Q, S1, ↓reduceIte, Nat.reduceEqDiff, Nat.reduceAdd, Int.reduceLT, Int.reduceLE, Int.reduceNeg, Int.reduceBEq, Int.reduceBNe, Int.reduceEq, Nat.reduceLeDiff, Nat.reduceMul, Nat.reduceLT, *, hC0]
    | simp (singlePass := true) (maxDischargeDepth := 99) only [*, S2, Nat.reduceLT, hC0])
      · replace hmore : Hid _ := hmore
        rintro kk m5 g5 wj hkj hltj nj sj bj hwj ⟨hi5, hf5, h17⟩
        simp (maxDischargeDepth := 3) only [U, ↓reduceIte, Nat.reduceEqDiff, *] at hf5
        have hkH : kk < s.hosts.length := by rw [← hFn.out]; exact hltj
        have hkT : kk < TL.length := by rw [hTn.out]; exact hkH
        have hkI : (kk : Int) < (FL.length : Int) := by omega
        have hkTI : (kk : Int) < (TL.length : Int) := by omega
        have hFa := hFL.out kk hltj
        have hTa := hTL.out kk hkT
        have hc9 := hC1.out kk hkH
        have hcl := hCl.out kk
        have hcw : IntKind.i64.wrap (((CN kk : Nat) : Int) + 1) = ((CN kk + 1 : Nat) : Int) := by rw [wrap_i64_id] <;> omega
        cases hsq : spanS p x b (kk : Int) with
        | none =>
          rw [hsq] at hFa hc9
          have hFk : FL[kk] = -1 := hFa
          have hcz : CN (kk + 1) = CN kk := hc9
          clear hFa hTa hc9 hsq
          (repeat' first
    | with_reducible first | exact ⟨⟩ | (refine gB ?_; intros) | refine gT ?_ ?_
    | refine gs ?_
    | simp (maxDischargeDepth := 3) only [↓X, ↓Y, ↓Q, S1, ↓reduceIte, Nat.reduceEqDiff, Nat.reduceAdd, Int.reduceLT, Int.reduceLE, Int.reduceNeg, Int.reduceBEq, Int.reduceBNe, Int.reduceEq, Nat.reduceLeDiff, Nat.reduceMul, Nat.reduceLT, *, hFk, ht]
    | simp (singlePass := true) (maxDischargeDepth := 99) only [*, S2, Nat.reduceLT, hFk, ht])
          refine next_k hkj hltj ?_ FR
          (repeat' first
    | with_reducible first | exact ⟨⟩ | (refine gB ?_; intros) | refine gT ?_ ?_
    | refine gs ?_
    | simp (maxDischargeDepth := 3) only [↓X, ↓Y, ↓Q, S1, ↓reduceIte, Nat.reduceEqDiff, Nat.reduceAdd, Int.reduceLT, Int.reduceLE, Int.reduceNeg, Int.reduceBEq, Int.reduceBNe, Int.reduceEq, Nat.reduceLeDiff, Nat.reduceMul, Nat.reduceLT, *, hcz]
    | simp (singlePass := true) (maxDischargeDepth := 99) only [*, S2, Nat.reduceLT, hcz])
        | some y1 =>
          obtain ⟨a1, c1⟩ := y1
          have hr1 := spanS_rng hFF.out hbb.out hsq
          rw [hsq] at hFa hTa hc9
          have hFk : FL[kk] = a1 := hFa
          have hTk : TL[kk] = c1 := hTa
          have ha1 : 0 ≤ a1 := hr1.1
          by_cases hc1 : a1 ≤ a0
          · by_cases hc2 : a0 < c1
            · have hcz : CN (kk + 1) = CN kk + 1 := by
                rw [hc9, if_pos]
                simp [inSp, hc1, hc2]
              clear hFa hTa hc9 hsq hr1
              (repeat' first
    | with_reducible first | exact ⟨⟩ | (refine gB ?_; intros) | refine gT ?_ ?_
    | refine gs ?_
    | simp (maxDischargeDepth := 3) only [↓X, ↓Y, ↓Q, S1, ↓reduceIte, Nat.reduceEqDiff, Nat.reduceAdd, Int.reduceLT, Int.reduceLE, Int.reduceNeg, Int.reduceBEq, Int.reduceBNe, Int.reduceEq, Nat.reduceLeDiff, Nat.reduceMul, Nat.reduceLT, *, hFk, hTk, ht, hcw]
    | simp (singlePass := true) (maxDischargeDepth := 99) only [*, S2, Nat.reduceLT, hFk, hTk, ht, hcw])
              refine next_k hkj hltj ?_ FR
              (repeat' first
    | with_reducible first | exact ⟨⟩ | (refine gB ?_; intros) | refine gT ?_ ?_
    | refine gs ?_
    | simp (maxDischargeDepth := 3) only [↓X, ↓Y, ↓Q, S1, ↓reduceIte, Nat.reduceEqDiff, Nat.reduceAdd, Int.reduceLT, Int.reduceLE, Int.reduceNeg, Int.reduceBEq, Int.reduceBNe, Int.reduceEq, Nat.reduceLeDiff, Nat.reduceMul, Nat.reduceLT, *, hcz]
    | simp (singlePass := true) (maxDischargeDepth := 99) only [*, S2, Nat.reduceLT, hcz])
            · have hcz : CN (kk + 1) = CN kk := by
                rw [hc9, if_neg]
                · rfl
                · simp [inSp, hc2]
              clear hFa hTa hc9 hsq hr1
              (repeat' first
    | with_reducible first | exact ⟨⟩ | (refine gB ?_; intros) | refine gT ?_ ?_
    | refine gs ?_
    | simp (maxDischargeDepth := 3) only [↓X, ↓Y, ↓Q, S1, ↓reduceIte, Nat.reduceEqDiff, Nat.reduceAdd, Int.reduceLT, Int.reduceLE, Int.reduceNeg, Int.reduceBEq, Int.reduceBNe, Int.reduceEq, Nat.reduceLeDiff, Nat.reduceMul, Nat.reduceLT, *, hFk, hTk, ht, hcw]
    | simp (singlePass := true) (maxDischargeDepth := 99) only [*, S2, Nat.reduceLT, hFk, hTk, ht, hcw])
              refine next_k hkj hltj ?_ FR
              (repeat' first
    | with_reducible first | exact ⟨⟩ | (refine gB ?_; intros) | refine gT ?_ ?_
    | refine gs ?_
    | simp (maxDischargeDepth := 3) only [↓X, ↓Y, ↓Q, S1, ↓reduceIte, Nat.reduceEqDiff, Nat.reduceAdd, Int.reduceLT, Int.reduceLE, Int.reduceNeg, Int.reduceBEq, Int.reduceBNe, Int.reduceEq, Nat.reduceLeDiff, Nat.reduceMul, Nat.reduceLT, *, hcz]
    | simp (singlePass := true) (maxDischargeDepth := 99) only [*, S2, Nat.reduceLT, hcz])
          · have hcz : CN (kk + 1) = CN kk := by
              rw [hc9, if_neg]
              · rfl
              · simp [inSp, hc1]
            clear hFa hTa hc9 hsq hr1
            (repeat' first
    | with_reducible first | exact ⟨⟩ | (refine gB ?_; intros) | refine gT ?_ ?_
    | refine gs ?_
    | simp (maxDischargeDepth := 3) only [↓X, ↓Y, ↓Q, S1, ↓reduceIte, Nat.reduceEqDiff, Nat.reduceAdd, Int.reduceLT, Int.reduceLE, Int.reduceNeg, Int.reduceBEq, Int.reduceBNe, Int.reduceEq, Nat.reduceLeDiff, Nat.reduceMul, Nat.reduceLT, *, hFk, hTk, ht, hcw]
    | simp (singlePass := true) (maxDischargeDepth := 99) only [*, S2, Nat.reduceLT, hFk, hTk, ht, hcw])
            refine next_k hkj hltj ?_ FR
            (repeat' first
    | with_reducible first | exact ⟨⟩ | (refine gB ?_; intros) | refine gT ?_ ?_
    | refine gs ?_
    | simp (maxDischargeDepth := 3) only [↓X, ↓Y, ↓Q, S1, ↓reduceIte, Nat.reduceEqDiff, Nat.reduceAdd, Int.reduceLT, Int.reduceLE, Int.reduceNeg, Int.reduceBEq, Int.reduceBNe, Int.reduceEq, Nat.reduceLeDiff, Nat.reduceMul, Nat.reduceLT, *, hcz]
    | simp (singlePass := true) (maxDischargeDepth := 99) only [*, S2, Nat.reduceLT, hcz])
      · rintro g5 wj nj sj bj ⟨hi5, hf5, h17⟩
        simp (maxDischargeDepth := 3) only [U, ↓reduceIte, Nat.reduceEqDiff, *] at hf5
        rw [hCe.out] at h17
        by_cases hbn : x.blast < (cntS s p x b a0 : Int)
        · by_cases hfa : f9 = false ∨ a0 < a
          · have hfo' : Hid (Found s p x b (fun y => 0 ≤ y ∧ y < ((hh + 1 : Nat) : Int)) true a0 (cntS s p x b a0)) := by
              have h9 := hmore
              rw [if_pos ⟨hbn, hfa⟩, if_pos ⟨hbn, hfa⟩, decide_eq_true hbn, Bool.or_true] at h9
              exact h9
            clear hmore
            rcases hfa with rfl | hfa
            · (repeat' first
    | with_reducible first | exact ⟨⟩ | (refine gB ?_; intros) | refine gT ?_ ?_
    | refine gs ?_
    | simp (maxDischargeDepth := 3) only [↓X, ↓Y, ↓Q, S1, ↓reduceIte, Nat.reduceEqDiff, Nat.reduceAdd, Int.reduceLT, Int.reduceLE, Int.reduceNeg, Int.reduceBEq, Int.reduceBNe, Int.reduceEq, Nat.reduceLeDiff, Nat.reduceMul, Nat.reduceLT, *, ht]
    | simp (singlePass := true) (maxDischargeDepth := 99) only [*, S2, Nat.reduceLT, ht])
              refine next_k hk hlt ?_ FR
              (repeat' first
    | with_reducible first | exact ⟨⟩ | (refine gB ?_; intros) | refine gT ?_ ?_
    | refine gs ?_
    | refine sx ?_)
              exact ⟨_, _, _, rfl, rfl, rfl, hfo'.out⟩
            · cases f9
              · (repeat' first
    | with_reducible first | exact ⟨⟩ | (refine gB ?_; intros) | refine gT ?_ ?_
    | refine gs ?_
    | simp (maxDischargeDepth := 3) only [↓X, ↓Y, ↓Q, S1, ↓reduceIte, Nat.reduceEqDiff, Nat.reduceAdd, Int.reduceLT, Int.reduceLE, Int.reduceNeg, Int.reduceBEq, Int.reduceBNe, Int.reduceEq, Nat.reduceLeDiff, Nat.reduceMul, Nat.reduceLT, *, ht]
    | simp (singlePass := true) (maxDischargeDepth := 99) only [*, S2, Nat.reduceLT, ht])
                refine next_k hk hlt ?_ FR
                (repeat' first
    | with_reducible first | exact ⟨⟩ | (refine gB ?_; intros) | refine gT ?_ ?_
    | refine gs ?_
    | refine sx ?_)
                exact ⟨_, _, _, rfl, rfl, rfl, hfo'.out⟩
              · (repeat' first
    | with_reducible first | exact ⟨⟩ | (refine gB ?_; intros) | refine gT ?_ ?_
    | refine gs ?_
    | simp (maxDischargeDepth := 3) only [↓X, ↓Y, ↓Q, S1, ↓reduceIte, Nat.reduceEqDiff, Nat.reduceAdd, Int.reduceLT, Int.reduceLE, Int.reduceNeg, Int.reduceBEq, Int.reduceBNe, Int.reduceEq, Nat.reduceLeDiff, Nat.reduceMul, Nat.reduceLT, *, ht]
    | simp (singlePass := true) (maxDischargeDepth := 99) only [*, S2, Nat.reduceLT, ht])
                refine next_k hk hlt ?_ FR
                (repeat' first
    | with_reducible first | exact ⟨⟩ | (refine gB ?_; intros) | refine gT ?_ ?_
    | refine gs ?_
    | refine sx ?_)
                exact ⟨_, _, _, rfl, rfl, rfl, hfo'.out⟩
          · have hf9 : f9 = true := by
              cases f9
              · exact absurd (.inl rfl) hfa
              · rfl
            have hna : ¬ a0 < a := fun h9 => hfa (.inr h9)
            subst hf9
            have hfo' : Hid (Found s p x b (fun y => 0 ≤ y ∧ y < ((hh + 1 : Nat) : Int)) true a m) := by
              have h9 := hmore
              rw [if_neg (fun h8 => hfa h8.2), if_neg (fun h8 => hfa h8.2), Bool.true_or] at h9
              exact h9
            clear hmore hfa
            (repeat' first
    | with_reducible first | exact ⟨⟩ | (refine gB ?_; intros) | refine gT ?_ ?_
    | refine gs ?_
    | simp (maxDischargeDepth := 3) only [↓X, ↓Y, ↓Q, S1, ↓reduceIte, Nat.reduceEqDiff, Nat.reduceAdd, Int.reduceLT, Int.reduceLE, Int.reduceNeg, Int.reduceBEq, Int.reduceBNe, Int.reduceEq, Nat.reduceLeDiff, Nat.reduceMul, Nat.reduceLT, *, ht]
    | simp (singlePass := true) (maxDischargeDepth := 99) only [*, S2, Nat.reduceLT, ht])
            refine next_k hk hlt ?_ FR
            (repeat' first
    | with_reducible first | exact ⟨⟩ | (refine gB ?_; intros) | refine gT ?_ ?_
    | refine gs ?_
    | refine sx ?_)
            exact ⟨_, _, _, rfl, rfl, rfl, hfo'.out⟩
        · have hfo' : Hid (Found s p x b (fun y => 0 ≤ y ∧ y < ((hh + 1 : Nat) : Int)) f9 a m) := by
            have h9 := hmore
            rw [if_neg (fun h8 => hbn h8.1), if_neg (fun h8 => hbn h8.1), decide_eq_false hbn, Bool.or_false] at h9
            exact h9
          clear hmore
          (repeat' first
    | with_reducible first | exact ⟨⟩ | (refine gB ?_; intros) | refine gT ?_ ?_
    | refine gs ?_
    | simp (maxDischargeDepth := 3) only [↓X, ↓Y, ↓Q, S1, ↓reduceIte, Nat.reduceEqDiff, Nat.reduceAdd, Int.reduceLT, Int.reduceLE, Int.reduceNeg, Int.reduceBEq, Int.reduceBNe, Int.reduceEq, Nat.reduceLeDiff, Nat.reduceMul, Nat.reduceLT, *, ht]
    | simp (singlePass := true) (maxDischargeDepth := 99) only [*, S2, Nat.reduceLT, ht])
          refine next_k hk hlt ?_ FR
          (repeat' first
    | with_reducible first | exact ⟨⟩ | (refine gB ?_; intros) | refine gT ?_ ?_
    | refine gs ?_
    | refine sx ?_)
          exact ⟨_, _, _, rfl, rfl, rfl, hfo'.out⟩
  · rintro g4 wk nk sk bk ⟨hi4, hf4, a, m, f9, h13, h14, h15, hfo⟩
    simp (maxDischargeDepth := 3) only [U, ↓reduceIte, Nat.reduceEqDiff, *] at hf4
    have hcr := hcf.out hfo.out fun h9 hs9 => by
      have h8 := mem_hosts.1 (spanS_host (b := b) hFF.out hs9)
      have h7 := hFn.out
      omega
    have hcr2 : (crowdS s p x b).isSome = f9 := by rw [hcr]; cases f9 <;> rfl
    rw [hcr2]
    clear hcr hcr2 hfo
    (repeat' first
    | with_reducible first | exact ⟨⟩ | (refine gB ?_; intros) | refine gT ?_ ?_
    | refine gs ?_
    | refine sx ?_)
    exact ⟨_, _, rfl⟩
end
end Go.Proofs.YtopfddchckdhgaaGreat
