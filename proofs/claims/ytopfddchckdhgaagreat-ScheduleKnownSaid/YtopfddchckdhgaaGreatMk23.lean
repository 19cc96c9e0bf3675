
/- The layer schedule: Make. -/
import Derived.Test.YtopfddchckdhgaaGreatVal23
import Derived.Scope
namespace Go.Proofs.YtopfddchckdhgaaGreat
set_option linter.unusedSimpArgs false
set_option linter.unusedVariables false
open Go Go.RowKit
set_option maxRecDepth 100000
set_option linter.unusedSectionVars false
set_option maxHeartbeats 4000000
theorem sxMk230 {p q : Prop} (hq : q) (h : p = q := by first | (simp (maxDischargeDepth := 3) only [↓X, ↓Y, ↓Q, S1, ↓reduceIte, Nat.reduceEqDiff, Nat.reduceAdd, Int.reduceLT, Int.reduceLE, Int.reduceNeg, Int.reduceBEq, Int.reduceBNe, Int.reduceEq, Nat.reduceLeDiff, Nat.reduceMul, Nat.reduceLT, *, siteC, termsC]; try exact rfl) | (simp (singlePass := true) (maxDischargeDepth := 99) only [*, S2, Nat.reduceLT, siteC, termsC]; try exact rfl)) : p := h ▸ hq
section
variable {s : SiteD} {p : PlanD} {x : TermsD} {b : List Int}
def stuckK (c : Sch) (b : List Int) (k : Nat) : Int := match (List.range k).find? (c.ready b) with
  | some i => i
  | none => -1
theorem stuckK_rng (c : Sch) (b : List Int) (k : Nat) : -1 ≤ stuckK c b k := by
  unfold stuckK
  split <;> omega
theorem stuckK_next {c : Sch} {b : List Int} {k : Nat} (h : c.ready b k = true) : stuckK c b (k + 1) = if stuckK c b k < 0 then (k : Int) else stuckK c b k := by
  unfold stuckK
  rw [List.range_succ, List.find?_append]
  cases h2 : (List.range k).find? (c.ready b) with
  | none => simp [h]
  | some i =>
    simp only [Option.some_or]
    rw [if_neg (by omega)]
theorem stuckK_skip {c : Sch} {b : List Int} {k : Nat} (h : c.ready b k = false) : stuckK c b (k + 1) = stuckK c b k := by
  unfold stuckK
  rw [List.range_succ, List.find?_append]
  cases h2 : (List.range k).find? (c.ready b) with
  | none => simp [h]
  | some i => simp
theorem pick_at {c : Sch} {b : List Int} {k : Nat} {t : Int} (hk : k < c.n) (hn : ∀ j, j < k → c.ready b j = true → c.early b j = none) (hr : c.ready b k = true) (ht : c.early b k = some t) : c.pick b = some (k, t) := by
  unfold Sch.pick
  refine List.findSome?_eq_some_iff.2 ⟨(List.range c.n).take k, k, (List.range c.n).drop (k + 1), ?_, by rw [if_pos hr, ht]; rfl, fun j hj => ?_⟩
  · have h1 : k < (List.range c.n).length := by rw [List.length_range]; exact hk
    have h2 := List.drop_eq_getElem_cons h1
    rw [List.getElem_range] at h2
    rw [← h2, List.take_append_drop]
  · have hjk : j < k := by
      obtain ⟨i, hi, e⟩ := List.getElem_of_mem hj
      rw [List.getElem_take, List.getElem_range] at e
      rw [List.length_take] at hi
      omega
    split
    · rename_i h; rw [hn j hjk h]; rfl
    · rfl
theorem pick_no {c : Sch} {b : List Int} (hn : ∀ j, j < c.n → c.ready b j = true → c.early b j = none) : c.pick b = none := by
  unfold Sch.pick
  rw [List.findSome?_eq_none_iff]
  intro j hj
  split
  · rename_i h; rw [hn j (List.mem_range.1 hj) h]; rfl
  · rfl
theorem unset_contains {b : List Int} : b.contains (-1) = decide (0 < Sch.unset b) := by
  rw [Bool.eq_iff_iff, List.contains_iff_mem, decide_eq_true_eq]
  unfold Sch.unset
  rw [List.length_pos_iff_exists_mem]
  constructor
  · intro h; exact ⟨-1, List.mem_filter.2 ⟨h, by simp⟩⟩
  · rintro ⟨a, ha⟩
    obtain ⟨h1, h2⟩ := List.mem_filter.1 ha
    have : a = -1 := by simpa using h2
    exact this ▸ h1
end
theorem scope_x {P : Program} {n : Nat} {c : Code} {q : Exit → Fr → World → Prop} {g : Fr} {w : World} (hd : dstsOk n c = true) (hg : ∀ l g w, q (.goto l) g w → False) (h : wpx P n c q g w) : wpx P n (.scope c) q g w := by
  show otherX P n (.scope c) q g w
  intro a ha
  refine wp_scope_straight (Go.wp_mono (wpx_sound c q g w a hd ha h) fun e a' w' ⟨g', ha', hq⟩ => ?_)
  cases e <;> first | exact ⟨g', ha', hq⟩ | exact (hg _ _ _ hq).elim
theorem label_x {P : Program} {n l : Nat} {q : Exit → Fr → World → Prop} {g : Fr} {w : World} (h : q .normal g w) : wpx P n (.label l) q g w := by
  show otherX P n (.label l) q g w
  intro a ha
  exact wp_label ⟨g, ha, h⟩
/-- While rounds are made. -/
structure MkI (w : World) (fb b4 b6 : Nat) (f : FrV) (bv : Value) (s : SiteD) (p : PlanD) (x : TermsD) (b : List Int) (w' : World) : Prop where
  ext : Ext w w'
  fr : FrO w' w.heap.size fb f bv s p x b
  k4 : Blk w' b4 33 [f.sv, f.av]
  k6 : Blk w' b6 45 [.slice none 0 0, .int .i64 0]
  beg : BegD p b
section
variable {w w' : World} {B fb b4 b6 : Nat} {f : FrV} {bv : Value} {s : SiteD} {p : PlanD} {x : TermsD} {b b' : List Int}
theorem MkI.to {w1 : World} (h : MkI w fb b4 b6 f bv s p x b w1) (hx : Ext w1 w') : MkI w fb b4 b6 f bv s p x b w' := ⟨h.ext.trans hx, h.fr.ext hx, h.k4.ext hx, h.k6.ext hx, h.beg⟩
theorem MkI.turn {w1 : World} (h : MkI w fb b4 b6 f bv s p x b w1) (ht : TBn (fun c => blockOf bv = some c) w1 w') (hf : FrO w' w.heap.size fb f bv s p x b') (hb : BegD p b') : MkI w fb b4 b6 f bv s p x b' w' := by
  refine ⟨h.ext.trans' ⟨ht.os, ht.tape, ht.output, ht.size, fun c hc => ht.block c (Nat.lt_of_lt_of_le hc h.ext.size) fun e => ?_⟩, hf, (ht.block b4 h.k4.lt fun e => ?_).trans h.k4, (ht.block b6 h.k6.lt fun e => ?_).trans h.k6, hb⟩
  · rw [h.fr.own.block] at e
    have := (h.fr.own.lt c e).1
    omega
  · rw [h.fr.own.block] at e
    exact h.fr.own.ne h.k4 (by decide) e
  · rw [h.fr.own.block] at e
    exact h.fr.own.ne h.k6 (by decide) e
theorem schedMake (hB : B ≤ w.heap.size) (h : ArgT w B f s p x) (hkd : ∀ t ∈ p.steps, 0 ≤ t.kind ∧ t.kind ≤ 255) : CallsV Tryz.prog 11 #[.agg (siteC f.u s).toArray, .agg #[f.sv, f.av], .agg (termsC f.q x).toArray] w fun r w' => Ext w w' ∧ ∃ tv, r = .tuple #[.agg #[tv, intV (makeS s p x).1.stop], intV (makeS s p x).2.1, intV (makeS s p x).2.2] ∧ Own w' w.heap.size 3 1 tv ((makeS s p x).1.begin_.map intC) := by
  have hn : Now w := trivial
  have hx : Ext w w := Ext.refl w
  have hbw : Bl B w w := Bl.refl hB
  have hA : Hid (∀ w', Bl B w w' → ArgT w' B f s p x) := fun w' hb => h.bl hb
  have hvl := fun w' (h1 : Bl B w w') => schedValid h1.size (hA.out w' h1) hkd
  have hs1 : f.u.f.oneCell' = true ∧ f.u.b.oneCell' = true ∧ f.u.l.oneCell' = true ∧ f.u.r.oneCell' = true ∧ f.u.k.oneCell' = true ∧ f.u.h.oneCell' = true := ⟨h.s.f.one, h.s.b.one, h.s.l.one, h.s.r.one, h.s.k.one, h.s.h.one⟩
  have hp1 : f.sv.oneCell' = true ∧ f.av.oneCell' = true := ⟨h.p.s.one, h.p.a.v.one⟩
  have hx1 : f.q.w.oneCell' = true ∧ f.q.a.oneCell' = true ∧ f.q.c.oneCell' = true ∧ f.q.t.oneCell' = true ∧ f.q.p.oneCell' = true := ⟨h.x.n.one, h.x.a.one, h.x.c, h.x.t.one, h.x.p.one⟩
  have hsW : SlWf f.sv ∧ isSl f.sv ∧ lenN f.sv = p.steps.length ∧ cellsL f.sv = [f.sv] := ⟨h.p.s.wf, h.p.s.sl, by simpa using h.p.s.len, cellsL_one h.p.s.one⟩
  clear h
  cases hv : validT s p x
  · have e : makeS s p x = (noT, -1, 1) := by unfold makeS; rw [hv]; rfl
    rw [e]
    rw [hv] at hvl
    clear hv e
    (refine callsV_of Tryz.func11 rfl KR KR ?_; rw [Tryz.results11])
    (repeat' first
    | with_reducible first | exact ⟨⟩ | (refine gB ?_; intros) | refine gT ?_ ?_
    | refine gs ?_
    | refine sxMk230 ?_)
    refine scope_x KR (fun _ _ _ h => h) ?_
    (repeat' first
    | with_reducible first | exact ⟨⟩ | (refine gB ?_; intros) | refine gT ?_ ?_
    | refine gs ?_
    | ((with_reducible refine at_f 20 ?_); refine ret_k (hvl _ FR) fun _ _ _ => ?_)
    | refine sxMk230 ?_)
    exact ⟨_, rfl, Own.nil _ _ _ _⟩
  · rw [hv] at hvl
    have hF : Hid (Fit s p x) := fit_of hv
    have hn12 : p.steps.length ≤ 12 := hF.out.n12
    have hmk : Hid (makeS s p x = match Sch.make (scS s p x) p.steps.length (List.replicate p.steps.length (-1)) with | (r, true) => (⟨r, Sch.stop (scS s p x) r⟩, -1, 0) | (r, false) => (noT, Sch.stuck (scS s p x) r, 7)) := by unfold makeS; rw [hv]; rfl
    obtain ⟨M, hM⟩ : ∃ M, M = makeS s p x := ⟨_, rfl⟩
    rw [← hM] at hmk ⊢
    clear hv hM
    (refine callsV_of Tryz.func11 rfl KR KR ?_; rw [Tryz.results11])
    (repeat' first
    | with_reducible first | exact ⟨⟩ | (refine gB ?_; intros) | refine gT ?_ ?_
    | refine gs ?_
    | refine sxMk230 ?_)
    refine scope_x KR (fun _ _ _ h => h) ?_
    (repeat' first
    | ((with_reducible refine wpd_at 3 ?_); refine wpd_hold ?_)
    | with_reducible first | exact ⟨⟩ | (refine gB ?_; intros) | refine gT ?_ ?_
    | refine gs ?_
    | ((with_reducible refine at_f 20 ?_); refine ret_k (hvl _ FR) fun _ _ _ => ?_)
    | refine sxMk230 ?_)
    rename_i b3 w3 n3 k3 s3 q3 b4 w4 n4 k4 s4 q4 b5 w5 n5 k5 s5 q5 b6 w6 n6 k6 s6 q6 w7 n7 s7
    have hx7 : Ext w w7 := FR
    have hB7 : Bl B w w7 := FR
    have r7 := Ext.refl w7
    have K4 : Blk w7 b4 33 [f.sv, f.av] := k4.2.1 _ FR
    have K6 : Blk w7 b6 45 [.slice none 0 0, .int .i64 0] := k6.2.1 _ FR
    have hw7 : w.heap.size ≤ w7.heap.size := hx7.size
    have hw6 : w.heap.size ≤ b6 := FR
    unfold wpdH
    refine wpd_rel 10 (fun iI v w9 => match iI with
      | 0 => v = .agg #[f.u.f, f.u.b, f.u.l, f.u.r, .int .i64 s.switches, f.u.k, f.u.h]
      | 1 => v = .agg #[f.sv, f.av]
      | 2 => v = .agg #[f.q.w, f.q.a, .int .i64 x.blast, f.q.c, f.q.t, f.q.p, .int .i64 x.first, .int .i64 x.last]
      | 3 => ∃ b, v = .slice (some ⟨b, 0, none⟩) 1 1 ∧ Blk w9 b 3 [.int .i64 (-1)] ∧ w7.heap.size ≤ b
      | 4 => v = .pointer (some ⟨b4, 0, none⟩)
      | 5 => v = f.sv
      | 6 => v = .int .i64 (p.steps.length : Nat)
      | 7 => ∃ c, v = .slice (some ⟨c, 0, none⟩) p.steps.length p.steps.length ∧ Blk w9 c 3 (List.replicate p.steps.length (.int .i64 (-1))) ∧ w7.heap.size ≤ c
      | 8 => ∃ c, v = .agg (frC f (.slice (some ⟨c, 0, none⟩) p.steps.length p.steps.length) s x).toArray ∧ Blk w9 c 3 (List.replicate p.steps.length (.int .i64 (-1))) ∧ w7.heap.size ≤ c
      | 9 => ∃ c d, v = .pointer (some ⟨d, 0, none⟩) ∧ Blk w9 d 86 (frC f (.slice (some ⟨c, 0, none⟩) p.steps.length p.steps.length) s x) ∧ Blk w9 c 3 (List.replicate p.steps.length (.int .i64 (-1))) ∧ w7.heap.size ≤ c
      | _ => False) KR KR KR ?_ ?_ ?_
    · intro iI v w1 w2 hR hx9
      match iI, hR with
      | 0, h => exact h
      | 1, h => exact h
      | 2, h => exact h
      | 3, ⟨b, e, h1, h2⟩ => exact ⟨b, e, h1.ext hx9, h2⟩
      | 4, h => exact h
      | 5, h => exact h
      | 6, h => exact h
      | 7, h => exact (let ⟨c, e, k, l⟩ := h; ⟨c, e, k.ext hx9, l⟩)
      | 8, h => exact (let ⟨c, e, k, l⟩ := h; ⟨c, e, k.ext hx9, l⟩)
      | 9, h => exact (let ⟨c, d, e, k1, k, l⟩ := h; ⟨c, d, e, k1.ext hx9, k.ext hx9, l⟩)
    · intro iI oO hi ho gF w9 hx9 hdep hag
      have s9 := hx9.st
      have n9 : Now w9 := trivial
      have r9 := Ext.refl w9
      have z9 := hx9.size
      rcases iI with _|_|_|_|_|_|_|_|_|_|iI
      · have e := Option.some.inj ho
        subst e
        have a3 := hag.at 3 KR
        simp only [S5, ↓reduceIte, Nat.reduceEqDiff, initF, *] at a3
        clear hag hdep ho
        refine relStep_off rfl ?_
        (repeat' first
    | with_reducible first | exact ⟨⟩ | (refine gB ?_; intros) | refine gT ?_ ?_
    | refine gs ?_
    | refine sxMk230 ?_)
      · have e := Option.some.inj ho
        subst e
        have a4 := hag.at 4 KR
        simp only [S5, ↓reduceIte, Nat.reduceEqDiff, initF, *] at a4
        clear hag hdep ho
        refine relStep_off rfl ?_
        (repeat' first
    | with_reducible first | exact ⟨⟩ | (refine gB ?_; intros) | refine gT ?_ ?_
    | refine gs ?_
    | refine sxMk230 ?_)
      · have e := Option.some.inj ho
        subst e
        have a5 := hag.at 5 KR
        simp only [S5, ↓reduceIte, Nat.reduceEqDiff, initF, *] at a5
        clear hag hdep ho
        refine relStep_off rfl ?_
        (repeat' first
    | with_reducible first | exact ⟨⟩ | (refine gB ?_; intros) | refine gT ?_ ?_
    | refine gs ?_
    | refine sxMk230 ?_)
      · have e := Option.some.inj ho
        subst e
        clear hag hdep ho
        refine relStep_off rfl ?_
        (repeat' first
    | with_reducible first | exact ⟨⟩ | (refine gB ?_; intros) | refine gT ?_ ?_
    | refine gs ?_
    | refine sxMk230 ?_)
        first
          | (rename_i b10 w10 n10 k10 s10 q10; exact ⟨_, rfl, k10.2.1 _ k10.2.2.1, FR⟩)
          | (rename_i b10 w10 n10 k10 s10 q10 l10; exact ⟨_, rfl, k10.2.1 _ k10.2.2.1, FR⟩)
      · have e := Option.some.inj ho
        subst e
        have a4 := hag.at 4 KR
        simp only [S5, ↓reduceIte, Nat.reduceEqDiff, initF, *] at a4
        clear hag hdep ho
        refine relStep_off rfl ?_
        (repeat' first
    | with_reducible first | exact ⟨⟩ | (refine gB ?_; intros) | refine gT ?_ ?_
    | refine gs ?_
    | refine sxMk230 ?_)
      · have e := Option.some.inj ho
        subst e
        have d4 : (gF 22) = .pointer (some ⟨b4, 0, none⟩) := hdep ⟨4, .data⟩ (by simp) rfl _ _ rfl rfl
        clear hag hdep ho
        refine relStep_off rfl ?_
        (repeat' first
    | with_reducible first | exact ⟨⟩ | (refine gB ?_; intros) | refine gT ?_ ?_
    | refine gs ?_
    | refine sxMk230 ?_)
      · have e := Option.some.inj ho
        subst e
        have d5 : (gF 23) = f.sv := hdep ⟨5, .data⟩ (by simp) rfl _ _ rfl rfl
        clear hag hdep ho
        refine relStep_off rfl ?_
        (repeat' first
    | with_reducible first | exact ⟨⟩ | (refine gB ?_; intros) | refine gT ?_ ?_
    | refine gs ?_
    | refine sxMk230 ?_)
      · have e := Option.some.inj ho
        subst e
        have d3 : ∃ b, (gF 21) = .slice (some ⟨b, 0, none⟩) 1 1 ∧ Blk w9 b 3 [.int .i64 (-1)] ∧ w7.heap.size ≤ b := hdep ⟨3, .data⟩ (by simp) rfl _ _ rfl rfl
        obtain ⟨b3, e3, hb3, q3⟩ := d3
        have k3 := hb3.bk
        have nw3 := Nw.of q3
        have d6 : (gF 24) = .int .i64 (p.steps.length : Nat) := hdep ⟨6, .data⟩ (by simp) rfl _ _ rfl rfl
        clear hag hdep ho
        refine relStep_off rfl ?_
        (repeat' first
    | with_reducible first | exact ⟨⟩ | (refine gB ?_; intros) | refine gT ?_ ?_
    | refine gs ?_
    | refine sxMk230 ?_)
        refine CallsV.mono (slicesRepeat1 hn12 hb3) fun v w10 hh => ⟨hh.1, ?_⟩
        obtain ⟨_, c, e, k, l⟩ := hh
        exact ⟨c, e, k, Nat.le_trans z9 l⟩
      · have e := Option.some.inj ho
        subst e
        have d0 : (gF 18) = .agg #[f.u.f, f.u.b, f.u.l, f.u.r, .int .i64 s.switches, f.u.k, f.u.h] := hdep ⟨0, .data⟩ (by simp) rfl _ _ rfl rfl
        have d1 : (gF 19) = .agg #[f.sv, f.av] := hdep ⟨1, .data⟩ (by simp) rfl _ _ rfl rfl
        have d2 : (gF 20) = .agg #[f.q.w, f.q.a, .int .i64 x.blast, f.q.c, f.q.t, f.q.p, .int .i64 x.first, .int .i64 x.last] := hdep ⟨2, .data⟩ (by simp) rfl _ _ rfl rfl
        have d7 : ∃ c, (gF 25) = .slice (some ⟨c, 0, none⟩) p.steps.length p.steps.length ∧ Blk w9 c 3 (List.replicate p.steps.length (.int .i64 (-1))) ∧ w7.heap.size ≤ c := hdep ⟨7, .data⟩ (by simp) rfl _ _ rfl rfl
        obtain ⟨c7, e7, k7, l7⟩ := d7
        have kk7 := k7.bk
        clear hag hdep ho
        refine relStep_off rfl ?_
        (repeat' first
    | with_reducible first | exact ⟨⟩ | (refine gB ?_; intros) | refine gT ?_ ?_
    | refine gs ?_
    | refine sxMk230 ?_)
        exact ⟨c7, rfl, k7, l7⟩
      · have e := Option.some.inj ho
        subst e
        have d8 : ∃ c, (gF 26) = .agg (frC f (.slice (some ⟨c, 0, none⟩) p.steps.length p.steps.length) s x).toArray ∧ Blk w9 c 3 (List.replicate p.steps.length (.int .i64 (-1))) ∧ w7.heap.size ≤ c := hdep ⟨8, .data⟩ (by simp) rfl _ _ rfl rfl
        obtain ⟨c8, e8, k8, l8⟩ := d8
        have kk8 := k8.bk
        clear hag hdep ho
        refine relStep_off rfl ?_
        (repeat' first
    | with_reducible first | exact ⟨⟩ | (refine gB ?_; intros) | refine gT ?_ ?_
    | refine gs ?_
    | refine sxMk230 ?_)
        rename_i b10 w10 n10 k10 s10 q10
        exact ⟨c8, b10, rfl, k10.2.1 _ k10.2.2.1, kk8.2.1 _ FR, l8⟩
      · omega
    · intro g9 w9 hx9 hR hag
      have s9 := hx9.st
      have n9 : Now w9 := trivial
      have r9 := Ext.refl w9
      have z9 := hx9.size
      have d9 : ∃ c d, (g9 27) = .pointer (some ⟨d, 0, none⟩) ∧ Blk w9 d 86 (frC f (.slice (some ⟨c, 0, none⟩) p.steps.length p.steps.length) s x) ∧ Blk w9 c 3 (List.replicate p.steps.length (.int .i64 (-1))) ∧ w7.heap.size ≤ c := hR 9 _ _ (by decide) rfl rfl
      obtain ⟨c9, d9, e9, k91, k92, l9⟩ := d9
      have a4 := hag.at 4 KR
      have a6 := hag.at 6 KR
      have a45 := hag.at 45 KR
      simp only [S5, ↓reduceIte, Nat.reduceEqDiff, initF, *] at a4 a6 a45
      clear hag hR
      simp only [List.drop_succ_cons, List.drop_zero]
      (repeat' first
    | with_reducible first | exact ⟨⟩ | (refine gB ?_; intros) | refine gT ?_ ?_
    | refine gs ?_
    | refine sx ?_)
      obtain ⟨wz, hwz⟩ : ∃ wz, wz = w9 := ⟨_, rfl⟩
      subst hwz
      have hx79 : Ext w7 wz := FR
      have hxz : Ext w wz := hx7.trans hx79
      have hBz : Bl B w wz := FR
      obtain ⟨bv, hbv⟩ : ∃ bv, bv = Value.slice (some ⟨c9, 0, none⟩) p.steps.length p.steps.length := ⟨_, rfl⟩
      have k91z : Blk wz d9 86 (frC f (.slice (some ⟨c9, 0, none⟩) p.steps.length p.steps.length) s x) := k91.ext FR
      have k92z : Blk wz c9 3 (List.replicate p.steps.length (.int .i64 (-1))) := k92.ext FR
      rw [← hbv] at k91z
      have hO : FrO wz w.heap.size d9 f bv s p x (List.replicate p.steps.length (-1)) := ⟨k91z, (hA.out wz hBz).more hB, by
        rw [hbv]
        have := Own.ofBlk (w := wz) (B := w.heap.size) (e := 3) (sz := 1) (b := c9) (cs := (List.replicate p.steps.length (-1)).map intC) (by rw [flat_intC]; simpa using k92z) (fun c hc => by obtain ⟨y, _, rfl⟩ := List.mem_map.1 hc; rfl) (Nat.le_trans hw7 l9) (by simp; omega)
        simpa using this, hxz.size⟩
      have I0 : Hid (MkI w d9 b4 b6 f bv s p x (List.replicate p.steps.length (-1)) wz) := ⟨hxz, hO, K4.ext hx79, K6.ext hx79, BegD.new p⟩
      clear hO k91z k92z k91 k92 hbv k3 k4 k5 k6 s3 s4 s5 s6 q3 q4 q5 q6 n3 n4 n5 n6 hvl
      refine label_x ?_
      (repeat' first
    | with_reducible first | exact ⟨⟩ | (refine gB ?_; intros) | refine gT ?_ ?_
    | refine gs ?_
    | refine sx ?_)
      refine loop_y p.steps.length (fun g0 m g w' => (g 4 = g0 4 ∧ g 6 = g0 6 ∧ g 9 = g0 9) ∧ Hid (∃ b, MkI w d9 b4 b6 f bv s p x b w' ∧ Sch.unset b = m ∧ Sch.make (scS s p x) m b = Sch.make (scS s p x) p.steps.length (List.replicate p.steps.length (-1)))) KR ?_ ?_
      · (repeat' first
    | with_reducible first | exact ⟨⟩ | (refine gB ?_; intros) | refine gT ?_ ?_
    | refine gs ?_
    | refine sx ?_)
        all_goals exact ⟨_, I0.out, Sch.init_unset (scS s p x), rfl⟩
      · rintro m g1 w1 n1 ⟨hf1, hp1⟩
        simp (maxDischargeDepth := 3) only [U, ↓reduceIte, Nat.reduceEqDiff, *] at hf1
        obtain ⟨b, I1, hum, hmke⟩ := hp1.out
        have hx1w : Ext w w1 := I1.ext
        have I1' : Hid (MkI w d9 b4 b6 f bv s p x b w1) := I1
        have hum' : Hid (Sch.unset b = m) := hum
        have hmke' : Hid (Sch.make (scS s p x) m b = Sch.make (scS s p x) p.steps.length (List.replicate p.steps.length (-1))) := hmke
        have hk1 := I1.fr.r.k
        have k41 := I1.k4.bk
        have k61 := I1.k6.bk
        have hct := fun w' (h2 : Ext w1 w') => slicesContainsI (x := -1) (Nat.le_refl _) (I1'.out.fr.r.ext h2).beg
        rw [unset_contains] at hct
        have r1 := Ext.refl w1
        have hbl : b.length = p.steps.length := I1.beg.len
        replace hct : Hid _ := hct
        replace hbl : Hid _ := hbl
        clear hp1 I1 hum hmke I0
        by_cases h0 : 0 < Sch.unset b
        rotate_left
        · have hct0 := hct.out
          rw [decide_eq_false h0] at hct0
          have hu0 : Sch.unset b = 0 := by omega
          have hMe : Hid (M = (⟨b, Sch.stop (scS s p x) b⟩, -1, 0)) := by
            rw [hmk.out, ← hmke'.out, ← hum'.out, hu0]; rfl
          have hla := fun w' (h2 : Ext w1 w') => frLast hF.out I1'.out.beg (I1'.out.fr.r.ext h2)
          have hOK := I1'.out.fr.own.o
          have hne6 : ¬ blockOf bv = some b6 := by
            rw [I1'.out.fr.own.block]
            exact I1'.out.fr.own.ne I1'.out.k6 (by decide)
          clear h0 hu0
          (repeat' first
    | ((with_reducible refine wpd_at 15 ?_); refine wpd_cmid (m := 7) KR KR KR rfl ?_)
    | with_reducible first | exact ⟨⟩ | (refine gB ?_; intros) | refine gT ?_ ?_
    | refine gs ?_
    | ((with_reducible refine at_f 22 ?_); refine ret_k (hct0 _ FR) fun _ _ _ => ?_)
    | ((with_reducible refine at_q 25 ?_); refine qret_k (fun _ _ _ => hla _ FR) ?_)
    | refine sx ?_)
          rw [hMe.out]
          exact ⟨bv, rfl, hOK.1 _ FR⟩
        · have hct1 := hct.out
          rw [decide_eq_true h0] at hct1
          (repeat' first
    | with_reducible first | exact ⟨⟩ | (refine gB ?_; intros) | refine gT ?_ ?_
    | refine gs ?_
    | ((with_reducible refine at_f 22 ?_); refine ret_k (hct1 _ FR) fun _ _ _ => ?_)
    | refine sx ?_)
          rename_i w2 n2 s2
          have hx12 : Ext w1 w2 := FR
          have I2 : Hid (MkI w d9 b4 b6 f bv s p x b w2) := I1'.out.to hx12
          have hm1 : Hid (0 < m) := by have := hum'.out; show 0 < m; omega
          have hmaxn : p.steps.length ≤ 9223372036854775807 := by omega
          clear hk1 k41 k61 h0 hct1 s2
          refine loop_g p.steps.length (fun g0 k g w' => g 36 = .int .i64 (k : Int) ∧ (g 4 = g0 4 ∧ g 6 = g0 6 ∧ g 9 = g0 9 ∧ g 35 = g0 35) ∧ g 10 = .int .i64 (stuckK (scS s p x) b k) ∧ Hid (MkI w d9 b4 b6 f bv s p x b w' ∧ ∀ j, j < k → Sch.ready (scS s p x) b j = true → Sch.early (scS s p x) b j = none)) KR ?_ ?_ ?_
          · (repeat' first
    | with_reducible first | exact ⟨⟩ | (refine gB ?_; intros) | refine gT ?_ ?_
    | refine gs ?_
    | refine sx ?_)
            exact ⟨rfl, I2.out, fun j hj => absurd hj (by omega)⟩
          · rintro k m3 g3 w3 hk3 hlt n3 ⟨hi3, hf3, h10, hp3⟩
            simp (maxDischargeDepth := 3) only [U, ↓reduceIte, Nat.reduceEqDiff, *] at hf3
            obtain ⟨I3, hno⟩ := hp3.out
            have I3' : Hid (MkI w d9 b4 b6 f bv s p x b w3) := I3
            have hno' : Hid (∀ j, j < k → Sch.ready (scS s p x) b j = true → Sch.early (scS s p x) b j = none) := hno
            have k43 := I3.k4.bk
            have hw : IntKind.i64.wrap ((k : Int) + 1) = ((k + 1 : Nat) : Int) := by rw [wrap_i64_id] <;> omega
            have hrd := fun w' (h2 : Ext w3 w') => frReady hF.out I3'.out.beg (I3'.out.fr.r.ext h2) hlt
            have r3 := Ext.refl w3
            have hkl : Hid (k < b.length) := by rw [hbl.out]; exact hlt
            clear hp3 I3 hno
            cases hr : Sch.ready (scS s p x) b k <;> rw [hr] at hrd
            · have hno2 : Hid (∀ j, j < k + 1 → Sch.ready (scS s p x) b j = true → Sch.early (scS s p x) b j = none) := fun j hj hrj => by
                rcases Nat.lt_or_eq_of_le (Nat.le_of_lt_succ hj) with h1 | rfl
                · exact hno'.out j h1 hrj
                · rw [hr] at hrj; cases hrj
              have hsk := stuckK_skip (k := k) hr
              replace hr : Hid _ := hr
              (repeat' first
    | with_reducible first | exact ⟨⟩ | (refine gB ?_; intros) | refine gT ?_ ?_
    | refine gs ?_
    | ((with_reducible refine at_f 23 ?_); refine ret_k (hrd _ FR) fun _ _ _ => ?_)
    | refine sx ?_)
              refine next_g hk3 hlt ?_
              (repeat' first
    | with_reducible first | exact ⟨⟩ | (refine gB ?_; intros) | refine gT ?_ ?_
    | refine gs ?_
    | simp (maxDischargeDepth := 3) only [↓X, ↓Y, ↓Q, S1, ↓reduceIte, Nat.reduceEqDiff, Nat.reduceAdd, Int.reduceLT, Int.reduceLE, Int.reduceNeg, Int.reduceBEq, Int.reduceBNe, Int.reduceEq, Nat.reduceLeDiff, Nat.reduceMul, Nat.reduceLT, *, hsk]
    | simp (singlePass := true) (maxDischargeDepth := 99) only [*, S2, Nat.reduceLT, hsk])
              exact ⟨I3'.out.to FR, hno2.out⟩
            · have hun : Hid (Sch.at_ b k = -1) := (Sch.ready_iff.1 hr).1
              have hr' : Hid (Sch.ready (scS s p x) b k = true) := hr
              clear hr
              (repeat' first
    | with_reducible first | exact ⟨⟩ | (refine gB ?_; intros) | refine gT ?_ ?_
    | refine gs ?_
    | ((with_reducible refine at_f 23 ?_); refine ret_k (hrd _ FR) fun _ _ _ => ?_)
    | refine sx ?_)
              rename_i w4 n4 s4
              have hx34 : Ext w3 w4 := FR
              have I4 : Hid (MkI w d9 b4 b6 f bv s p x b w4) := I3'.out.to hx34
              refine CallsV.mono (frPlace hF.out I4.out.beg I4.out.fr hlt hun.out) ?_
              rintro _ w5 ⟨T5, rfl, O5⟩
              have n5 : Now w5 := trivial
              have r5 := Ext.refl w5
              cases he : Sch.early (scS s p x) b k with
              | some t =>
                rw [he] at O5
                simp only at O5
                have h4 := (Sch.least_some he).2.1
                have htr : 0 ≤ t ∧ t ≤ 1000000 := by
                  have h5 := (Sch.poss_iff.1 h4).1
                  have h6 : x.first ≤ t := h5.1
                  have h7 : t + takeS p x k ≤ x.last := h5.2.1
                  have := hF.out.first
                  have := hF.out.last
                  have := hF.out.take k hlt
                  omega
                have I5 : Hid (MkI w d9 b4 b6 f bv s p x (b.set k t) w5) := I4.out.turn T5 O5 (I4.out.beg.set (by omega))
                have hpk := pick_at (c := scS s p x) (b := b) (k := k) (t := t) hlt hno'.out hr'.out he
                have hus := Sch.unset_set hkl.out hun.out (show t ≠ -1 by omega)
                have F : Hid (Sch.unset (b.set k t) = m - 1 ∧ Sch.make (scS s p x) (m - 1) (b.set k t) = Sch.make (scS s p x) p.steps.length (List.replicate p.steps.length (-1))) := by
                  have h1 := hum'.out
                  have h2 := hm1.out
                  refine ⟨by omega, ?_⟩
                  rw [← hmke'.out]
                  obtain ⟨m', rfl⟩ : ∃ m', m = m' + 1 := ⟨m - 1, by omega⟩
                  show Sch.make (scS s p x) m' (b.set k t) = _
                  rw [Sch.make, hpk]
                clear T5 O5 he h4 htr hpk hus I4 s4
                (repeat' first
    | with_reducible first | exact ⟨⟩ | (refine gB ?_; intros) | refine gT ?_ ?_
    | refine gs ?_
    | simp (maxDischargeDepth := 3) only [↓X, ↓Y, ↓Q, S1, ↓reduceIte, Nat.reduceEqDiff, Nat.reduceAdd, Int.reduceLT, Int.reduceLE, Int.reduceNeg, Int.reduceBEq, Int.reduceBNe, Int.reduceEq, Nat.reduceLeDiff, Nat.reduceMul, Nat.reduceLT, *, Option.isSome_some]
    | simp (singlePass := true) (maxDischargeDepth := 99) only [*, S2, Nat.reduceLT, Option.isSome_some])
                refine next_y (m' := m - 1) (by have := hm1.out; omega) ?_
                (repeat' first
    | with_reducible first | exact ⟨⟩ | (refine gB ?_; intros) | refine gT ?_ ?_
    | refine gs ?_
    | refine sx ?_)
                all_goals exact ⟨_, I5.out, F.out.1, F.out.2⟩
              | none =>
                rw [he] at O5
                simp only at O5
                have I5 : Hid (MkI w d9 b4 b6 f bv s p x b w5) := I4.out.turn T5 O5 I4.out.beg
                have hno2 : Hid (∀ j, j < k + 1 → Sch.ready (scS s p x) b j = true → Sch.early (scS s p x) b j = none) := fun j hj hrj => by
                  rcases Nat.lt_or_eq_of_le (Nat.le_of_lt_succ hj) with h1 | rfl
                  · exact hno'.out j h1 hrj
                  · exact he
                have hsk := stuckK_next (k := k) hr'.out
                clear T5 O5 he I4 s4
                (repeat' first
    | with_reducible first | exact ⟨⟩ | (refine gB ?_; intros) | refine gT ?_ ?_
    | refine gs ?_
    | simp (maxDischargeDepth := 3) only [↓X, ↓Y, ↓Q, S1, ↓reduceIte, Nat.reduceEqDiff, Nat.reduceAdd, Int.reduceLT, Int.reduceLE, Int.reduceNeg, Int.reduceBEq, Int.reduceBNe, Int.reduceEq, Nat.reduceLeDiff, Nat.reduceMul, Nat.reduceLT, *, Option.isSome_none]
    | simp (singlePass := true) (maxDischargeDepth := 99) only [*, S2, Nat.reduceLT, Option.isSome_none])
                all_goals
                  refine next_g hk3 hlt ?_
                  (repeat' first
    | with_reducible first | exact ⟨⟩ | (refine gB ?_; intros) | refine gT ?_ ?_
    | refine gs ?_
    | simp (maxDischargeDepth := 3) only [↓X, ↓Y, ↓Q, S1, ↓reduceIte, Nat.reduceEqDiff, Nat.reduceAdd, Int.reduceLT, Int.reduceLE, Int.reduceNeg, Int.reduceBEq, Int.reduceBNe, Int.reduceEq, Nat.reduceLeDiff, Nat.reduceMul, Nat.reduceLT, *, hsk]
    | simp (singlePass := true) (maxDischargeDepth := 99) only [*, S2, Nat.reduceLT, hsk])
                  exact ⟨I5.out, hno2.out⟩
          · rintro g3 w3 n3 ⟨hi3, hf3, h10, hp3⟩
            simp (maxDischargeDepth := 3) only [U, ↓reduceIte, Nat.reduceEqDiff, *] at hf3
            obtain ⟨I3, hno⟩ := hp3.out
            have hx3 : Ext w w3 := I3.ext
            have k63 := I3.k6.bk
            have hMe : Hid (M = (noT, stuckK (scS s p x) b p.steps.length, 7)) := by
              have h1 : Sch.make (scS s p x) m b = (b, false) := by
                have h2 := hm1.out
                obtain ⟨m', rfl⟩ : ∃ m', m = m' + 1 := ⟨m - 1, by omega⟩
                rw [Sch.make, pick_no hno]
              rw [hmk.out, ← hmke'.out, h1]
              rfl
            have r3 := Ext.refl w3
            clear hp3 I3 hno
            (repeat' first
    | with_reducible first | exact ⟨⟩ | (refine gB ?_; intros) | refine gT ?_ ?_
    | refine gs ?_
    | refine sx ?_)
            rw [hMe.out]
            exact ⟨_, rfl, Own.nil _ _ _ _⟩
end
end Go.Proofs.YtopfddchckdhgaaGreat
