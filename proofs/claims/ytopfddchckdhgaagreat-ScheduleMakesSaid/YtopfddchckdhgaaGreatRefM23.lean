/- The document's answer, layer 23: Make. -/
import Derived.Test.YtopfddchckdhgaaGreatRefG23
import Derived.Test.YtopfddchckdhgaaGreatRefD23
import Derived.Test.YtopfddchckdhgaaGreatAwk23
namespace Go.Proofs.YtopfddchckdhgaaGreat
set_option linter.unusedSimpArgs false
set_option linter.unusedVariables false
open Go Go.RowKit
set_option maxRecDepth 100000
set_option linter.unusedSectionVars false
set_option maxHeartbeats 2000000
theorem sxRefM230 {p q : Prop} (hq : q) (h : p = q := by first | (simp (maxDischargeDepth := 3) only [↓X, ↓Y, ↓Q, S1, ↓reduceIte, Nat.reduceEqDiff, Nat.reduceAdd, Int.reduceLT, Int.reduceLE, Int.reduceNeg, Int.reduceBEq, Int.reduceBNe, Int.reduceEq, Nat.reduceLeDiff, Nat.reduceMul, Nat.reduceLT, *, siteC, termsC]; try exact rfl) | (simp (singlePass := true) (maxDischargeDepth := 99) only [*, S2, Nat.reduceLT, siteC, termsC]; try exact rfl)) : p := h ▸ hq
theorem sxRefM232 {p q : Prop} (hq : q) (h : p = q := by first | (simp (maxDischargeDepth := 3) only [↓X, ↓Y, ↓Q, S1, ↓reduceIte, Nat.reduceEqDiff, Nat.reduceAdd, Int.reduceLT, Int.reduceLE, Int.reduceNeg, Int.reduceBEq, Int.reduceBNe, Int.reduceEq, Nat.reduceLeDiff, Nat.reduceMul, Nat.reduceLT, *, cutX]; try exact rfl) | (simp (singlePass := true) (maxDischargeDepth := 99) only [*, S2, Nat.reduceLT, cutX]; try exact rfl)) : p := h ▸ hq
structure RmI (w : World) (b3 b4 b5 b6 : Nat) (cS cP cT : List Value) (tv : Value) (Bq : Nat) (b : List Int) (w' : World) : Prop where
  ext : Ext w w'
  k3 : Blk w' b3 29 cS
  k4 : Blk w' b4 33 cP
  k5 : Blk w' b5 41 cT
  k6 : Blk w' b6 45 [.slice none 0 0, .int .i64 0]
  own : Own w' Bq 3 1 tv (b.map intC)
  size : Bq ≤ w'.heap.size
section
variable {w w' w'' : World} {b3 b4 b5 b6 : Nat} {cS cP cT : List Value} {tv : Value} {Bq : Nat} {b : List Int}
theorem RmI.ext_ (h : RmI w b3 b4 b5 b6 cS cP cT tv Bq b w') (hx : Ext w' w'') : RmI w b3 b4 b5 b6 cS cP cT tv Bq b w'' := ⟨h.ext.trans hx, h.k3.ext hx, h.k4.ext hx, h.k5.ext hx, h.k6.ext hx, h.own.ext hx, Nat.le_trans h.size hx.size⟩
theorem RmI.set {g i : Nat} {t : Int} (hw : w.heap.size ≤ Bq) (h : RmI w b3 b4 b5 b6 cS cP cT tv Bq b w') (hg : blockOf tv = some g) (hc : Chg w' w'' g) (ho : Own w'' Bq 3 1 tv ((b.map intC).set i [intV t])) : RmI w b3 b4 b5 b6 cS cP cT tv Bq (b.set i t) w'' := by
  rw [h.own.block] at hg
  obtain ⟨cur, hb⟩ : ∃ cur, Blk w' g 3 cur := by
    rcases h.own.1.2 with ⟨rfl, _⟩ | ⟨g', cap, cur, rfl, _, hgc, _⟩
    · simp [Value.ownBlock] at hg
    · obtain rfl : g' = g := Option.some.inj hg
      exact ⟨cur.toList, hgc⟩
  have hl := (h.own.lt g hg).1
  have ty : ∀ {c T T' : Nat} {l l' : List Value}, Blk w' c T l → Blk w' c T' l' → T = T' := fun h1 h2 => by
    unfold Blk at h1 h2
    rw [h1] at h2
    injection h2 with h2
    injection h2
  have key : ∀ {c T cs}, Blk w' c T cs → ¬ T = 3 → Blk w'' c T cs := fun {c T cs} hk hn => hc.blk hk fun e => by subst e; exact hn (ty hk hb)
  exact ⟨h.ext.trans' (hc.below (Nat.le_trans hw hl) h.ext.size), key h.k3 (by decide), key h.k4 (by decide), key h.k5 (by decide), key h.k6 (by decide), by rw [List.map_set]; exact ho, Nat.le_trans h.size hc.size⟩
end
theorem RmI.chg {w w1 w' w'' : World} {b3 b4 b5 b6 g : Nat} {cS cP cT : List Value} {tv : Value} {Bq : Nat} {b : List Int} (h : RmI w b3 b4 b5 b6 cS cP cT tv Bq b w1) (hx : Ext w1 w') (hg : w1.heap.size ≤ g) (hc : Chg w' w'' g) : RmI w b3 b4 b5 b6 cS cP cT tv Bq b w'' := by
  have key : ∀ {c T cs}, Blk w1 c T cs → Blk w'' c T cs := fun {c T cs} hk => hc.blk (hk.ext hx) (by have := hk.lt; omega)
  have h9 := h.ext_ hx
  exact ⟨h9.ext.trans' (hc.below (Nat.le_trans h.ext.size hg) h9.ext.size), key h.k3, key h.k4, key h.k5, key h.k6, h9.own.keep fun c hcc => hc.block c (h9.own.lt c hcc).2 (by have := (h.own.lt c hcc).2; omega), Nat.le_trans h9.size hc.size⟩
/-- Placed, or not yet. -/
def RmD (a b : Value) (P Q : Prop) (k : Int) : Prop := (a = .bool true ∧ P) ∨ (a = .bool false ∧ b = .int .i64 k ∧ Q)
def stk (c : Sch) (b : List Int) (i : Nat) : Int := match (List.range i).find? (c.ready b) with
  | none => -1
  | some j => (j : Int)
theorem stk_next {c : Sch} {b : List Int} {i : Nat} : stk c b (i + 1) = if stk c b i < 0 ∧ c.ready b i = true then (i : Int) else stk c b i := by
  unfold stk
  rw [List.range_succ, List.find?_append]
  cases h : (List.range i).find? (c.ready b) with
  | none =>
    simp only [Option.none_or, List.find?_cons, List.find?_nil]
    cases hr : c.ready b i <;> simp
  | some j =>
    have : ¬ ((j : Int) < 0) := by omega
    simp [this]
theorem early_pos {s : SiteD} {p : PlanD} {x : TermsD} {b : List Int} {i : Nat} {t : Int} (hF : Fit s p x) (hi : i < p.steps.length) (h : Sch.early (scS s p x) b i = some t) : 0 ≤ t ∧ t ≤ 1000000 := by
  obtain ⟨_, h2, _⟩ := Sch.least_some h
  have h3 := (Sch.poss_iff.1 h2).1
  have h4 : x.first ≤ t := h3.1
  have h5 : t + takeS p x i ≤ x.last := h3.2.1
  have := hF.first
  have := hF.last
  have := hF.take i hi
  omega
theorem stk_all {c : Sch} {b : List Int} : stk c b c.n = Sch.stuck c b := by
  unfold stk Sch.stuck
  cases (List.range c.n).find? (c.ready b) <;> rfl
theorem pick_none_of {c : Sch} {b : List Int} (h : ∀ i, i < c.n → c.ready b i = true → c.early b i = none) : c.pick b = none := by
  unfold Sch.pick
  rw [List.findSome?_eq_none_iff]
  intro i hi
  have hi' := List.mem_range.1 hi
  split
  · rename_i hr
    rw [h i hi' hr]; rfl
  · rfl
theorem pick_some_of {c : Sch} {b : List Int} {i : Nat} {t : Int} (hi : i < c.n) (h : ∀ j, j < i → c.ready b j = true → c.early b j = none) (hr : c.ready b i = true) (he : c.early b i = some t) : c.pick b = some (i, t) := by
  unfold Sch.pick
  have e : List.range c.n = List.range i ++ (i :: (List.range' (i + 1) (c.n - i - 1))) := by
    rw [show i :: List.range' (i + 1) (c.n - i - 1) = List.range' i (c.n - i) by
      obtain ⟨m, hm⟩ : ∃ m, c.n - i = m + 1 := ⟨c.n - i - 1, by omega⟩
      rw [hm, List.range'_succ]; rfl]
    rw [List.range_eq_range', List.range_eq_range', show c.n = i + (c.n - i) by omega]
    have := List.range'_append (s := 0) (m := i) (n := c.n - i) (step := 1)
    simp only [Nat.zero_add, Nat.one_mul] at this
    rw [show i + (c.n - i) - i = c.n - i by omega]
    exact this.symm
  rw [e, List.findSome?_append]
  have h0 : (List.range i).findSome? (fun i => if c.ready b i = true then (c.early b i).map fun t => (i, t) else none) = none := by
    rw [List.findSome?_eq_none_iff]
    intro j hj
    have hj' := List.mem_range.1 hj
    split
    · rename_i hr9
      rw [h j hj' hr9]; rfl
    · rfl
  rw [h0, Option.none_or, List.findSome?_cons, if_pos hr, he]
  rfl
section
variable {w w' : World} {B : Nat} {f : FrV} {s : SiteD} {p : PlanD} {x : TermsD}
theorem ref23Make (hB : B ≤ w.heap.size) (h : ArgT w B f s p x) (hkd : ∀ t ∈ p.steps, 0 ≤ t.kind ∧ t.kind ≤ 255) (hdm : (∀ y ∈ x.windows, 0 ≤ y.domain ∧ y.domain ≤ 255) ∧ ∀ y ∈ x.areas, 0 ≤ y.domain ∧ y.domain ≤ 255) : CallsV Tryz.prog 12 #[.agg (siteC f.u s).toArray, .agg #[f.sv, f.av], .agg (termsC f.q x).toArray] w fun r w' => Ext w w' ∧ ∃ tv, r = .tuple #[.agg #[tv, intV (makeS s p x).1.stop], intV (makeS s p x).2.1, intV (makeS s p x).2.2] ∧ Own w' w.heap.size 3 1 tv ((makeS s p x).1.begin_.map intC) := by
  have hn : Now w := trivial
  have hx : Ext w w := Ext.refl w
  have ho := h.ones
  have hbw : Bl B w w := Bl.refl hB
  have hval := fun w' (h1 : Bl B w w') => ref23Valid h1.size (h.bl h1) hkd hdm
  have hms := h.p.s.max_
  cases hv : validT s p x
  · rw [hv] at hval
    have e : makeS s p x = (noT, -1, 1) := by unfold makeS; rw [if_neg (by rw [hv]; decide)]
    rw [e]
    clear h hkd hdm hv e
    (refine callsV_of Tryz.func12 rfl KR KR ?_; rw [Tryz.results12])
    (repeat' first
    | with_reducible first | exact ⟨⟩ | (refine gB ?_; intros) | refine gT ?_ ?_
    | refine gs ?_
    | ((with_reducible refine at_f 26 ?_); refine ret_k (hval _ FR) fun _ _ _ => ?_)
    | simp (maxDischargeDepth := 3) only [↓X, ↓Y, ↓Q, S1, ↓reduceIte, Nat.reduceEqDiff, Nat.reduceAdd, Int.reduceLT, Int.reduceLE, Int.reduceNeg, Int.reduceBEq, Int.reduceBNe, Int.reduceEq, Nat.reduceLeDiff, Nat.reduceMul, Nat.reduceLT, *, siteC, termsC, noT]
    | simp (singlePass := true) (maxDischargeDepth := 99) only [*, S2, Nat.reduceLT, siteC, termsC, noT])
    exact ⟨_, rfl, Own.nil _ _ _ _⟩
  rw [hv] at hval
  have hF : Hid (Fit s p x) := fit_of hv
  have hn12 := (fit_of hv).n12
  have hA : Hid (∀ w', Ext w w' → ArgT w' B f s p x) := fun w' hx => h.bl (Bl.ext hbw hx)
  have KS := h.p.s.k hB
  have hMt : ∀ r, Sch.make (scS s p x) p.steps.length (List.replicate p.steps.length (-1)) = (r, true) → makeS s p x = (⟨r, Sch.stop (scS s p x) r⟩, -1, 0) := fun r hr => by unfold makeS; rw [if_pos hv, hr]
  have hMf : ∀ r, Sch.make (scS s p x) p.steps.length (List.replicate p.steps.length (-1)) = (r, false) → makeS s p x = (noT, Sch.stuck (scS s p x) r, 7) := fun r hr => by unfold makeS; rw [if_pos hv, hr]
  generalize makeS s p x = Z at *
  replace hMt : Hid _ := hMt
  replace hMf : Hid _ := hMf
  clear h hkd hdm hv
  (refine callsV_of Tryz.func12 rfl KR KR ?_; rw [Tryz.results12])
  (repeat' first
    | with_reducible first | exact ⟨⟩ | (refine gB ?_; intros) | refine gT ?_ ?_
    | refine gs ?_
    | ((with_reducible refine at_f 26 ?_); refine ret_k (hval _ FR) fun _ _ _ => ?_)
    | refine sxRefM230 ?_)
  rename_i b3 w3 n3 k3 s3 q3 b4 w4 n4 k4 s4 q4 b5 w5 n5 k5 s5 q5 b6 w6 n6 k6 s6 q6 wv nv sv9
  have hxv : Ext w wv := FR
  have K3 : Blk wv b3 29 [f.u.f, f.u.b, f.u.l, f.u.r, .int .i64 s.switches, f.u.k, f.u.h] := k3.2.1 _ FR
  have K4 : Blk wv b4 33 [f.sv, f.av] := k4.2.1 _ FR
  have K5 : Blk wv b5 41 [f.q.w, f.q.a, .int .i64 x.blast, f.q.c, f.q.t, f.q.p, .int .i64 x.first, .int .i64 x.last] := k5.2.1 _ FR
  have K6 : Blk wv b6 45 [.slice none 0 0, .int .i64 0] := k6.2.1 _ FR
  have hwv : Hid (w.heap.size ≤ wv.heap.size) := hxv.size
  have hb6l : Hid (w.heap.size ≤ b6) := show w.heap.size ≤ b6 by exact FR
  have hrk : Hid (∀ b w' tv, RmI w b3 b4 b5 b6 [f.u.f, f.u.b, f.u.l, f.u.r, .int .i64 s.switches, f.u.k, f.u.h] [f.sv, f.av] [f.q.w, f.q.a, .int .i64 x.blast, f.q.c, f.q.t, f.q.p, .int .i64 x.first, .int .i64 x.last] tv wv.heap.size b w' → BegD p b → ∀ i, i < p.steps.length → Ret Tryz.prog 27 #[.agg #[f.sv, f.av], tv, .int .i64 i] w' (.bool (Sch.ready (scS s p x) b i)) ∧ Ret Tryz.prog 28 #[.agg (siteC f.u s).toArray, .agg #[f.sv, f.av], .agg (termsC f.q x).toArray, tv, .int .i64 i] w' (intV (Sch.optI (Sch.early (scS s p x) b i))) ∧ Ret Tryz.prog 29 #[.agg #[f.sv, f.av], .agg (termsC f.q x).toArray, tv, .int .i64 i] w' (intV (Sch.at_ b i + takeS p x i))) := fun b w' tv hI hb i hi =>
    have hBw : B ≤ w'.heap.size := Nat.le_trans hB hI.ext.size
    ⟨ref23ready hF.out hb hBw (Nat.le_refl _) (hA.out _ hI.ext) (hI.own.sl1 (f := intV)) hi, ref23earliest hF.out hb hBw (Nat.le_refl _) (hA.out _ hI.ext) (hI.own.sl1 (f := intV)) hi, ref23end hF.out hb hBw (Nat.le_refl _) (hA.out _ hI.ext) (hI.own.sl1 (f := intV)) hi⟩
  have bv9 : Bl B w wv := FR
  have kv4 := K4.bk
  have rv := Ext.refl wv
  clear k3 k4 k5 k6 s3 s4 s5 s6 q3 q4 q5 q6 sv9 hval hbw hx
  have sv9 := hxv.st
  refine loop_g p.steps.length (fun g0 k g w' => g 10 = .int .i64 (k : Int) ∧ (g 3 = g0 3 ∧ g 4 = g0 4 ∧ g 5 = g0 5 ∧ g 6 = g0 6 ∧ g 45 = g0 45) ∧ ∃ tv, g 9 = tv ∧ Hid (Ext wv w' ∧ Own w' wv.heap.size 3 1 tv ((List.replicate k (-1)).map intC))) KR ?_ ?_ ?_
  · (repeat' first
    | with_reducible first | exact ⟨⟩ | (refine gB ?_; intros) | refine gT ?_ ?_
    | refine gs ?_
    | refine sx ?_)
    first | exact ⟨_, rfl, Ext.refl _, Own.nil _ _ _ _⟩ | exact ⟨_, rfl, Own.nil _ _ _ _⟩
  · rintro k m g3 wk hk3 hlt n3 ⟨hi3, hf3, tv, h9, hp3⟩
    simp (maxDischargeDepth := 3) only [U, ↓reduceIte, Nat.reduceEqDiff, *] at hf3
    obtain ⟨hxk, hO⟩ := hp3.out
    have sk := hxk.st
    have rk := Ext.refl wk
    have otv := hO.one
    have hO3 : Hid (Own wk wv.heap.size 3 1 tv ((List.replicate k (-1)).map intC)) := hO
    have hw : IntKind.i64.wrap ((k : Int) + 1) = ((k + 1 : Nat) : Int) := by rw [wrap_i64_id] <;> omega
    have hltI : (k : Int) < (p.steps.length : Int) := by omega
    clear hp3 hO
    (repeat' first
    | with_reducible first | exact ⟨⟩ | (refine gB ?_; intros) | refine gT ?_ ?_
    | refine gs ?_
    | refine sx ?_)
    rename_i bx wx nx kx sx9 qx zx
    clear zx
    have Kx : Blk wx bx 3 (intC (-1)) := kx.2.1 _ kx.2.2.1
    have xx : Ext wv wx := FR
    refine append_k (e := 3) (sz := 1) (by_ := 8) (z := .int .i64 0) (c := intC) (-1) KR KR rfl (by decide) (by decide) (hO3.out.ext (show Ext wk wx from FR)) Kx rfl (by simp [intC, intV, one_int]) (by rw [List.length_replicate]; omega) xx.size fun v' wy ny sy hoy => ?_
    have xy : Ext wv wy := FR
    have oy := hoy.one
    have I4 : Hid (Ext wv wy ∧ Own wy wv.heap.size 3 1 v' ((List.replicate (k + 1) (-1)).map intC)) := ⟨xy, by rw [show List.replicate (k + 1) (-1 : Int) = List.replicate k (-1) ++ [-1] from List.replicate_succ']; exact hoy⟩
    clear hoy hO3 Kx kx sx9 qx
    (repeat' first
    | with_reducible first | exact ⟨⟩ | (refine gB ?_; intros) | refine gT ?_ ?_
    | refine gs ?_
    | refine sx ?_)
    refine next_g hk3 hlt ?_
    (repeat' first
    | with_reducible first | exact ⟨⟩ | (refine gB ?_; intros) | refine gT ?_ ?_
    | refine gs ?_
    | refine sx ?_)
    exact ⟨_, rfl, I4.out.2⟩
  · rintro g3 wk n3 ⟨hi3, hf3, tv, h9, hp3⟩
    simp (maxDischargeDepth := 3) only [U, ↓reduceIte, Nat.reduceEqDiff, *] at hf3
    obtain ⟨hxk, hO⟩ := hp3.out
    have otv := hO.one
    have sk := hxk.st
    have I0 : Hid (∃ b, RmI w b3 b4 b5 b6 [f.u.f, f.u.b, f.u.l, f.u.r, .int .i64 s.switches, f.u.k, f.u.h] [f.sv, f.av] [f.q.w, f.q.a, .int .i64 x.blast, f.q.c, f.q.t, f.q.p, .int .i64 x.first, .int .i64 x.last] tv wv.heap.size b wk ∧ BegD p b ∧ Sch.make (scS s p x) p.steps.length (List.replicate p.steps.length (-1)) = Sch.make (scS s p x) (p.steps.length - 0) b) := ⟨_, ⟨hxv.trans hxk, K3.ext hxk, K4.ext hxk, K5.ext hxk, K6.ext hxk, hO, hxk.size⟩, BegD.new p, rfl⟩
    clear hp3 hO K3 K4 K5 K6
    (repeat' first
    | with_reducible first | exact ⟨⟩ | (refine gB ?_; intros) | refine gT ?_ ?_
    | refine gs ?_
    | refine sx ?_)
    refine loop_g p.steps.length (fun g0 r g w' => g 11 = .int .i64 (r : Int) ∧ (g 3 = g0 3 ∧ g 4 = g0 4 ∧ g 5 = g0 5 ∧ g 6 = g0 6 ∧ g 9 = g0 9) ∧ Hid (∃ b, RmI w b3 b4 b5 b6 [f.u.f, f.u.b, f.u.l, f.u.r, .int .i64 s.switches, f.u.k, f.u.h] [f.sv, f.av] [f.q.w, f.q.a, .int .i64 x.blast, f.q.c, f.q.t, f.q.p, .int .i64 x.first, .int .i64 x.last] tv wv.heap.size b w' ∧ BegD p b ∧ Sch.make (scS s p x) p.steps.length (List.replicate p.steps.length (-1)) = Sch.make (scS s p x) (p.steps.length - r) b)) KR ?_ ?_ ?_
    · (repeat' first
    | with_reducible first | exact ⟨⟩ | (refine gB ?_; intros) | refine gT ?_ ?_
    | refine gs ?_
    | refine sx ?_)
      all_goals exact I0.out
    · clear I0
      rintro r m g4 wl hk4 hlt4 n4 ⟨hi4, hf4, hp4⟩
      simp (maxDischargeDepth := 3) only [U, ↓reduceIte, Nat.reduceEqDiff, *] at hf4
      obtain ⟨b, hI, hbD, hmk⟩ := hp4.out
      have hI' : Hid (RmI w b3 b4 b5 b6 [f.u.f, f.u.b, f.u.l, f.u.r, .int .i64 s.switches, f.u.k, f.u.h] [f.sv, f.av] [f.q.w, f.q.a, .int .i64 x.blast, f.q.c, f.q.t, f.q.p, .int .i64 x.first, .int .i64 x.last] tv wv.heap.size b wl) := hI
      have hxl : Ext w wl := hI.ext
      have sl := hxl.st
      have rl := Ext.refl wl
      have bll : Bl B w wl := Bl.ext (Bl.refl hB) hxl
      have kl4 := hI.k4.bk
      have hw : IntKind.i64.wrap ((r : Int) + 1) = ((r + 1 : Nat) : Int) := by rw [wrap_i64_id] <;> omega
      have hltI : (r : Int) < (p.steps.length : Int) := by omega
      have hbl : Hid (b.length = p.steps.length) := hbD.len
      have hbD' : Hid (BegD p b) := hbD
      have hmk' : Hid (Sch.make (scS s p x) p.steps.length (List.replicate p.steps.length (-1)) = Sch.make (scS s p x) ((p.steps.length - (r + 1)) + 1) b) := by
        show Sch.make (scS s p x) p.steps.length (List.replicate p.steps.length (-1)) = Sch.make (scS s p x) ((p.steps.length - (r + 1)) + 1) b
        rw [show (p.steps.length - (r + 1)) + 1 = p.steps.length - r by omega]; exact hmk
      clear hp4 hI hmk hbD
      (repeat' first
    | with_reducible first | exact ⟨⟩ | (refine gB ?_; intros) | refine gT ?_ ?_
    | refine gs ?_
    | refine sx ?_)
      refine loop_cut 4 (fun g' w' => (g' 3 = .pointer (some ⟨b3, 0, none⟩) ∧ g' 4 = .pointer (some ⟨b4, 0, none⟩) ∧ g' 5 = .pointer (some ⟨b5, 0, none⟩) ∧ g' 6 = .pointer (some ⟨b6, 0, none⟩) ∧ g' 9 = tv) ∧ g' 11 = .int .i64 (r : Int) ∧ RmD (g' 13) (g' 12) (Hid (∃ i9 t9, Sch.pick (scS s p x) b = some (i9, t9) ∧ RmI w b3 b4 b5 b6 [f.u.f, f.u.b, f.u.l, f.u.r, .int .i64 s.switches, f.u.k, f.u.h] [f.sv, f.av] [f.q.w, f.q.a, .int .i64 x.blast, f.q.c, f.q.t, f.q.p, .int .i64 x.first, .int .i64 x.last] tv wv.heap.size (b.set i9 t9) w')) (Hid (Sch.pick (scS s p x) b = none ∧ RmI w b3 b4 b5 b6 [f.u.f, f.u.b, f.u.l, f.u.r, .int .i64 s.switches, f.u.k, f.u.h] [f.sv, f.av] [f.q.w, f.q.a, .int .i64 x.blast, f.q.c, f.q.t, f.q.p, .int .i64 x.first, .int .i64 x.last] tv wv.heap.size b w')) (Sch.stuck (scS s p x) b)) ?_ ?_
      · refine loop_g p.steps.length (fun g0 i g w' => g 14 = .int .i64 (i : Int) ∧ (g 3 = g0 3 ∧ g 4 = g0 4 ∧ g 5 = g0 5 ∧ g 6 = g0 6 ∧ g 9 = g0 9 ∧ g 11 = g0 11) ∧ RmD (g 13) (g 12) (Hid (∃ i9 t9, Sch.pick (scS s p x) b = some (i9, t9) ∧ RmI w b3 b4 b5 b6 [f.u.f, f.u.b, f.u.l, f.u.r, .int .i64 s.switches, f.u.k, f.u.h] [f.sv, f.av] [f.q.w, f.q.a, .int .i64 x.blast, f.q.c, f.q.t, f.q.p, .int .i64 x.first, .int .i64 x.last] tv wv.heap.size (b.set i9 t9) w')) (Hid ((∀ j, j < i → Sch.ready (scS s p x) b j = true → Sch.early (scS s p x) b j = none) ∧ RmI w b3 b4 b5 b6 [f.u.f, f.u.b, f.u.l, f.u.r, .int .i64 s.switches, f.u.k, f.u.h] [f.sv, f.av] [f.q.w, f.q.a, .int .i64 x.blast, f.q.c, f.q.t, f.q.p, .int .i64 x.first, .int .i64 x.last] tv wv.heap.size b w')) (stk (scS s p x) b i)) KR ?_ ?_ ?_
        · (repeat' first
    | with_reducible first | exact ⟨⟩ | (refine gB ?_; intros) | refine gT ?_ ?_
    | refine gs ?_
    | refine sx ?_)
          exact .inr ⟨rfl, rfl, fun j hj => absurd hj (by omega), hI'.out⟩
        · rintro i m5 g5 wi hk5 hi n5 ⟨hi5, hf5, hd⟩
          simp (maxDischargeDepth := 3) only [U, ↓reduceIte, Nat.reduceEqDiff, *] at hf5
          have hiI : (i : Int) < (p.steps.length : Int) := by omega
          have hw2 : IntKind.i64.wrap ((i : Int) + 1) = ((i + 1 : Nat) : Int) := by rw [wrap_i64_id] <;> omega
          rcases hd with ⟨e13, hP⟩ | ⟨e13, e12, hQ⟩
          · obtain ⟨i9, t9, hp9, hI9⟩ := hP.out
            have ki4 := hI9.k4.bk
            have si := hI9.ext.st
            have ri := Ext.refl wi
            have bli : Bl B w wi := Bl.ext (Bl.refl hB) hI9.ext
            have hP' : Hid (∃ i9 t9, Sch.pick (scS s p x) b = some (i9, t9) ∧ RmI w b3 b4 b5 b6 [f.u.f, f.u.b, f.u.l, f.u.r, .int .i64 s.switches, f.u.k, f.u.h] [f.sv, f.av] [f.q.w, f.q.a, .int .i64 x.blast, f.q.c, f.q.t, f.q.p, .int .i64 x.first, .int .i64 x.last] tv wv.heap.size (b.set i9 t9) wi) := ⟨i9, t9, hp9, hI9⟩
            clear hP hp9 hI9
            (repeat' first
    | with_reducible first | exact ⟨⟩ | (refine gB ?_; intros) | refine gT ?_ ?_
    | refine gs ?_
    | refine sxRefM232 ?_)
            first | exact .inl ⟨rfl, hP'⟩ | exact .inl ⟨rfl, trivial⟩ | exact .inl ⟨trivial, trivial⟩
          · have hIi : Hid (RmI w b3 b4 b5 b6 [f.u.f, f.u.b, f.u.l, f.u.r, .int .i64 s.switches, f.u.k, f.u.h] [f.sv, f.av] [f.q.w, f.q.a, .int .i64 x.blast, f.q.c, f.q.t, f.q.p, .int .i64 x.first, .int .i64 x.last] tv wv.heap.size b wi) := hQ.out.2
            have ki4 := hIi.out.k4.bk
            have si := hIi.out.ext.st
            have ri := Ext.refl wi
            have bli : Bl B w wi := Bl.ext (Bl.refl hB) hIi.out.ext
            have hno : Hid (∀ j, j < i → Sch.ready (scS s p x) b j = true → Sch.early (scS s p x) b j = none) := hQ.out.1
            have hrd := fun w' (hx : Ext wi w') => (hrk.out b w' tv (hIi.out.ext_ hx) hbD'.out i hi).1
            have her := fun w' (hx : Ext wi w') => (hrk.out b w' tv (hIi.out.ext_ hx) hbD'.out i hi).2.1
            have hsn := stk_next (c := (scS s p x)) (b := b) (i := i)
            have k3i := (show Blk wi b3 29 [f.u.f, f.u.b, f.u.l, f.u.r, .int .i64 s.switches, f.u.k, f.u.h] from hIi.out.k3).bk
            have k5i := (show Blk wi b5 41 [f.q.w, f.q.a, .int .i64 x.blast, f.q.c, f.q.t, f.q.p, .int .i64 x.first, .int .i64 x.last] from hIi.out.k5).bk
            have osv := ho
            generalize hst : stk (scS s p x) b i = st at *
            clear hQ
            cases hr9 : Sch.ready (scS s p x) b i
            · rw [hr9] at hrd
              have hs2 : stk (scS s p x) b (i + 1) = st := by rw [hsn, if_neg (fun h => by rw [hr9] at h; cases h.2)]
              have hq2 : ∀ w', Ext wi w' → Hid ((∀ j, j < (i + 1) → Sch.ready (scS s p x) b j = true → Sch.early (scS s p x) b j = none) ∧ RmI w b3 b4 b5 b6 [f.u.f, f.u.b, f.u.l, f.u.r, .int .i64 s.switches, f.u.k, f.u.h] [f.sv, f.av] [f.q.w, f.q.a, .int .i64 x.blast, f.q.c, f.q.t, f.q.p, .int .i64 x.first, .int .i64 x.last] tv wv.heap.size b w') := fun w' hx => ⟨(fun j hj hrj => by
                rcases Nat.lt_or_eq_of_le (Nat.le_of_lt_succ hj) with h9 | rfl
                · exact hno.out j h9 hrj
                · rw [hr9] at hrj; cases hrj), hIi.out.ext_ hx⟩
              replace hq2 : Hid _ := hq2
              clear hsn her hno hst hr9
              (repeat' first
    | with_reducible first | exact ⟨⟩ | (refine gB ?_; intros) | refine gT ?_ ?_
    | refine gs ?_
    | ((with_reducible refine at_f 27 ?_); refine ret_k (hrd _ FR) fun _ _ _ => ?_)
    | refine sxRefM230 ?_)
              refine next_g hk5 hi ?_
              (repeat' first
    | with_reducible first | exact ⟨⟩ | (refine gB ?_; intros) | refine gT ?_ ?_
    | refine gs ?_
    | simp (maxDischargeDepth := 3) only [↓X, ↓Y, ↓Q, S1, ↓reduceIte, Nat.reduceEqDiff, Nat.reduceAdd, Int.reduceLT, Int.reduceLE, Int.reduceNeg, Int.reduceBEq, Int.reduceBNe, Int.reduceEq, Nat.reduceLeDiff, Nat.reduceMul, Nat.reduceLT, *, hs2]
    | simp (singlePass := true) (maxDischargeDepth := 99) only [*, S2, Nat.reduceLT, hs2])
              exact .inr ⟨rfl, rfl, hq2.out _ FR⟩
            · rw [hr9] at hrd
              cases he9 : Sch.early (scS s p x) b i with
              | none =>
                rw [he9] at her
                have her' : ∀ w', Ext wi w' → Ret Tryz.prog 28 #[.agg (siteC f.u s).toArray, .agg #[f.sv, f.av], .agg (termsC f.q x).toArray, tv, .int .i64 i] w' (intV (-1)) := her
                have hq2 : ∀ w', Ext wi w' → Hid ((∀ j, j < (i + 1) → Sch.ready (scS s p x) b j = true → Sch.early (scS s p x) b j = none) ∧ RmI w b3 b4 b5 b6 [f.u.f, f.u.b, f.u.l, f.u.r, .int .i64 s.switches, f.u.k, f.u.h] [f.sv, f.av] [f.q.w, f.q.a, .int .i64 x.blast, f.q.c, f.q.t, f.q.p, .int .i64 x.first, .int .i64 x.last] tv wv.heap.size b w') := fun w' hx => ⟨(fun j hj hrj => by
                  rcases Nat.lt_or_eq_of_le (Nat.le_of_lt_succ hj) with h9 | rfl
                  · exact hno.out j h9 hrj
                  · exact he9), hIi.out.ext_ hx⟩
                replace hq2 : Hid _ := hq2
                by_cases hs0 : st < 0
                · have hs2 : stk (scS s p x) b (i + 1) = (i : Int) := by rw [hsn, if_pos ⟨hs0, hr9⟩]
                  clear hsn her hno hst hr9 he9
                  (repeat' first
    | with_reducible first | exact ⟨⟩ | (refine gB ?_; intros) | refine gT ?_ ?_
    | refine gs ?_
    | ((with_reducible refine at_f 27 ?_); refine ret_k (hrd _ FR) fun _ _ _ => ?_)
    | ((with_reducible refine at_f 28 ?_); refine ret_k (her' _ FR) fun _ _ _ => ?_)
    | refine sxRefM230 ?_)
                  refine next_g hk5 hi ?_
                  (repeat' first
    | with_reducible first | exact ⟨⟩ | (refine gB ?_; intros) | refine gT ?_ ?_
    | refine gs ?_
    | simp (maxDischargeDepth := 3) only [↓X, ↓Y, ↓Q, S1, ↓reduceIte, Nat.reduceEqDiff, Nat.reduceAdd, Int.reduceLT, Int.reduceLE, Int.reduceNeg, Int.reduceBEq, Int.reduceBNe, Int.reduceEq, Nat.reduceLeDiff, Nat.reduceMul, Nat.reduceLT, *, hs2]
    | simp (singlePass := true) (maxDischargeDepth := 99) only [*, S2, Nat.reduceLT, hs2])
                  exact .inr ⟨rfl, rfl, hq2.out _ FR⟩
                · have hs2 : stk (scS s p x) b (i + 1) = st := by rw [hsn, if_neg (fun h => hs0 h.1)]
                  clear hsn her hno hst hr9 he9
                  (repeat' first
    | with_reducible first | exact ⟨⟩ | (refine gB ?_; intros) | refine gT ?_ ?_
    | refine gs ?_
    | ((with_reducible refine at_f 27 ?_); refine ret_k (hrd _ FR) fun _ _ _ => ?_)
    | ((with_reducible refine at_f 28 ?_); refine ret_k (her' _ FR) fun _ _ _ => ?_)
    | refine sxRefM230 ?_)
                  refine next_g hk5 hi ?_
                  (repeat' first
    | with_reducible first | exact ⟨⟩ | (refine gB ?_; intros) | refine gT ?_ ?_
    | refine gs ?_
    | simp (maxDischargeDepth := 3) only [↓X, ↓Y, ↓Q, S1, ↓reduceIte, Nat.reduceEqDiff, Nat.reduceAdd, Int.reduceLT, Int.reduceLE, Int.reduceNeg, Int.reduceBEq, Int.reduceBNe, Int.reduceEq, Nat.reduceLeDiff, Nat.reduceMul, Nat.reduceLT, *, hs2]
    | simp (singlePass := true) (maxDischargeDepth := 99) only [*, S2, Nat.reduceLT, hs2])
                  exact .inr ⟨rfl, rfl, hq2.out _ FR⟩
              | some t =>
                rw [he9] at her
                have her' : ∀ w', Ext wi w' → Ret Tryz.prog 28 #[.agg (siteC f.u s).toArray, .agg #[f.sv, f.av], .agg (termsC f.q x).toArray, tv, .int .i64 i] w' (intV t) := her
                have htp := early_pos hF.out hi he9
                have ht0 : ¬ t < 0 := by omega
                have ht00 : 0 ≤ t := htp.1
                have hpk : Hid (Sch.pick (scS s p x) b = some (i, t)) := pick_some_of (c := (scS s p x)) hi hno.out hr9 he9
                have KO := (hIi.out.own.sl1 (f := intV)).v (Nat.le_refl _)
                have hib : i < b.length := by rw [hbl.out]; exact hi
                have hibI : (i : Int) < (b.length : Int) := by omega
                clear hsn her hno hst hr9 he9
                (repeat' first
    | with_reducible first | exact ⟨⟩ | (refine gB ?_; intros) | refine gT ?_ ?_
    | refine gs ?_
    | ((with_reducible refine at_f 27 ?_); refine ret_k (hrd _ FR) fun _ _ _ => ?_)
    | ((with_reducible refine at_f 28 ?_); refine ret_k (her' _ FR) fun _ _ _ => ?_)
    | refine sxRefM230 ?_)
                rename_i wA nA sA wB nB sB
                have xB : Ext wi wB := FR
                refine own_setE KR (hIi.out.own.ext xB) (by rw [List.length_map]; exact hib) rfl fun g wC nC hg hgB hgl hoC sC cC => ?_
                have I9 : Hid (RmI w b3 b4 b5 b6 [f.u.f, f.u.b, f.u.l, f.u.r, .int .i64 s.switches, f.u.k, f.u.h] [f.sv, f.av] [f.q.w, f.q.a, .int .i64 x.blast, f.q.c, f.q.t, f.q.p, .int .i64 x.first, .int .i64 x.last] tv wv.heap.size (b.set i t) wC) := RmI.set hwv.out (hIi.out.ext_ xB) hg cC hoC
                have kC4 := I9.out.k4.bk
                have siC := I9.out.ext.st
                have rC := Ext.refl wC
                have blC : Bl B w wC := Bl.ext (Bl.refl hB) I9.out.ext
                clear hg hgB hgl hoC sC cC ki4 k3i k5i si ri bli sA sB xB hIi KO hrd her'
                (repeat' first
    | with_reducible first | exact ⟨⟩ | (refine gB ?_; intros) | refine gT ?_ ?_
    | refine gs ?_
    | refine sx ?_)
                refine next_g hk5 hi ?_
                (repeat' first
    | with_reducible first | exact ⟨⟩ | (refine gB ?_; intros) | refine gT ?_ ?_
    | refine gs ?_
    | refine sx ?_)
                exact .inl ⟨rfl, i, t, hpk.out, I9.out⟩
        · rintro g5 wi n5 ⟨hi5, hf5, hd⟩
          simp (maxDischargeDepth := 3) only [U, ↓reduceIte, Nat.reduceEqDiff, *] at hf5
          rcases hd with ⟨e13, hP⟩ | ⟨e13, e12, hQ⟩
          · obtain ⟨i9, t9, hp9, hI9⟩ := hP.out
            have ki4 := hI9.k4.bk
            have si := hI9.ext.st
            have ri := Ext.refl wi
            have bli : Bl B w wi := Bl.ext (Bl.refl hB) hI9.ext
            have hP' : Hid (∃ i9 t9, Sch.pick (scS s p x) b = some (i9, t9) ∧ RmI w b3 b4 b5 b6 [f.u.f, f.u.b, f.u.l, f.u.r, .int .i64 s.switches, f.u.k, f.u.h] [f.sv, f.av] [f.q.w, f.q.a, .int .i64 x.blast, f.q.c, f.q.t, f.q.p, .int .i64 x.first, .int .i64 x.last] tv wv.heap.size (b.set i9 t9) wi) := ⟨i9, t9, hp9, hI9⟩
            clear hP hp9 hI9
            (repeat' first
    | with_reducible first | exact ⟨⟩ | (refine gB ?_; intros) | refine gT ?_ ?_
    | refine gs ?_
    | refine sxRefM232 ?_)
            first | exact .inl ⟨rfl, hP'⟩ | exact .inl ⟨rfl, trivial⟩ | exact .inl ⟨trivial, trivial⟩
          · have hIi : Hid (RmI w b3 b4 b5 b6 [f.u.f, f.u.b, f.u.l, f.u.r, .int .i64 s.switches, f.u.k, f.u.h] [f.sv, f.av] [f.q.w, f.q.a, .int .i64 x.blast, f.q.c, f.q.t, f.q.p, .int .i64 x.first, .int .i64 x.last] tv wv.heap.size b wi) := hQ.out.2
            have ki4 := hIi.out.k4.bk
            have si := hIi.out.ext.st
            have ri := Ext.refl wi
            have bli : Bl B w wi := Bl.ext (Bl.refl hB) hIi.out.ext
            have hpn : Hid (Sch.pick (scS s p x) b = none) := pick_none_of (c := (scS s p x)) hQ.out.1
            have hsa : stk (scS s p x) b p.steps.length = Sch.stuck (scS s p x) b := stk_all (c := (scS s p x))
            rw [hsa] at e12
            clear hQ hsa
            (repeat' first
    | with_reducible first | exact ⟨⟩ | (refine gB ?_; intros) | refine gT ?_ ?_
    | refine gs ?_
    | refine sxRefM232 ?_)
            exact .inr ⟨rfl, rfl, hpn.out, hIi.out⟩
      · rintro g5 w5 ⟨⟨f3, f4, f5, f6, f9⟩, f11, hd⟩
        have n5 : Now w5 := trivial
        rcases hd with ⟨e13, hP⟩ | ⟨e13, e12, hQ⟩
        · obtain ⟨i9, t9, hp9, hI9⟩ := hP.out
          have hrt : BegD p (b.set i9 t9) := by
            obtain ⟨h1, h2, h3⟩ := Sch.pick_some hp9
            have := early_pos hF.out h1 h3
            exact hbD'.out.set (by omega)
          have I4 : Hid (∃ b, RmI w b3 b4 b5 b6 [f.u.f, f.u.b, f.u.l, f.u.r, .int .i64 s.switches, f.u.k, f.u.h] [f.sv, f.av] [f.q.w, f.q.a, .int .i64 x.blast, f.q.c, f.q.t, f.q.p, .int .i64 x.first, .int .i64 x.last] tv wv.heap.size b w5 ∧ BegD p b ∧ Sch.make (scS s p x) p.steps.length (List.replicate p.steps.length (-1)) = Sch.make (scS s p x) (p.steps.length - (r + 1)) b) := ⟨_, hI9, hrt, by rw [hmk'.out, Sch.make, hp9]⟩
          have r5 := Ext.refl w5
          clear hP hp9 hI9 hrt
          (repeat' first
    | with_reducible first | exact ⟨⟩ | (refine gB ?_; intros) | refine gT ?_ ?_
    | refine gs ?_
    | refine sx ?_)
          refine next_g hk4 hlt4 ?_
          (repeat' first
    | with_reducible first | exact ⟨⟩ | (refine gB ?_; intros) | refine gT ?_ ?_
    | refine gs ?_
    | refine sx ?_)
          all_goals exact I4.out
        · have hz := hMf.out b (by rw [hmk'.out, Sch.make, hQ.out.1])
          rw [hz]
          have k65 := hQ.out.2.k6.bk
          have s5 := hQ.out.2.ext.st
          have x5 : Ext w w5 := hQ.out.2.ext
          have r5 := Ext.refl w5
          have hb6 : w.heap.size ≤ b6 := by have := hb6l.out; omega
          clear hQ hz
          (repeat' first
    | with_reducible first | exact ⟨⟩ | (refine gB ?_; intros) | refine gT ?_ ?_
    | refine gs ?_
    | simp (maxDischargeDepth := 3) only [↓X, ↓Y, ↓Q, S1, ↓reduceIte, Nat.reduceEqDiff, Nat.reduceAdd, Int.reduceLT, Int.reduceLE, Int.reduceNeg, Int.reduceBEq, Int.reduceBNe, Int.reduceEq, Nat.reduceLeDiff, Nat.reduceMul, Nat.reduceLT, *, noT]
    | simp (singlePass := true) (maxDischargeDepth := 99) only [*, S2, Nat.reduceLT, noT])
          exact ⟨_, rfl, Own.nil _ _ _ _⟩
    · clear I0
      rintro g4 wl n4 ⟨hi4, hf4, hp4⟩
      simp (maxDischargeDepth := 3) only [U, ↓reduceIte, Nat.reduceEqDiff, *] at hf4
      obtain ⟨b, hI, hbD, hmk⟩ := hp4.out
      rw [Nat.sub_self] at hmk
      have hz := hMt.out b (by rw [hmk]; rfl)
      rw [hz]
      have hI' : Hid (RmI w b3 b4 b5 b6 [f.u.f, f.u.b, f.u.l, f.u.r, .int .i64 s.switches, f.u.k, f.u.h] [f.sv, f.av] [f.q.w, f.q.a, .int .i64 x.blast, f.q.c, f.q.t, f.q.p, .int .i64 x.first, .int .i64 x.last] tv wv.heap.size b wl) := hI
      have hxl : Ext w wl := hI.ext
      have sl := hxl.st
      have rl := Ext.refl wl
      have bll : Bl B w wl := Bl.ext (Bl.refl hB) hxl
      have kl5 := hI.k5.bk
      have kl4 := hI.k4.bk
      have hbl : Hid (b.length = p.steps.length) := hbD.len
      have hbD' : Hid (BegD p b) := hbD
      have KO := (hI.own.sl1 (f := intV)).k (Nat.le_refl _)
      have blo : Bl wl.heap.size wl wl := Bl.refl (Nat.le_refl _)
      have hb12 : b.length ≤ 12 := by rw [hbD.len]; exact hn12
      have hstp : Hid (Sch.stop (scS s p x) b = ((List.range b.length).foldl (fun m i => max m (Sch.endT (scS s p x) b i)) x.first)) := by
        show Sch.stop (scS s p x) b = ((List.range b.length).foldl (fun m i => max m (Sch.endT (scS s p x) b i)) x.first)
        rw [hbD.len]; rfl
      clear hp4 hI hmk hbD hz hMt hMf
      (repeat' first
    | with_reducible first | exact ⟨⟩ | (refine gB ?_; intros) | refine gT ?_ ?_
    | refine gs ?_
    | refine sx ?_)
      rename_i b16 wa na ka sa qa wb nb kb sb
      have hxlb : Ext wl wb := FR
      have h16 : wl.heap.size ≤ b16 := FR
      have K16 : Hid (Blk wb b16 45 [tv, .int .i64 ((List.range 0).foldl (fun m i => max m (Sch.endT (scS s p x) b i)) x.first)]) := show Blk wb b16 45 [tv, .int .i64 x.first] by exact kb.2.1 _ kb.2.2.1
      have hl16 : b16 < wb.heap.size := kb.2.2.2.1
      have hxwb : Ext w wb := FR
      have blb : Bl wl.heap.size wl wb := FR
      have hb6w : Hid (Blk wb b6 45 [.slice none 0 0, .int .i64 0] ∧ ¬ b6 = b16) := ⟨hI'.out.k6.ext hxlb, by have := hI'.out.k6.lt; omega⟩
      have k5b := (show Blk wb b5 41 [f.q.w, f.q.a, .int .i64 x.blast, f.q.c, f.q.t, f.q.p, .int .i64 x.first, .int .i64 x.last] from hI'.out.k5.ext hxlb).bk
      have k4b := (show Blk wb b4 33 [f.sv, f.av] from hI'.out.k4.ext hxlb).bk
      have n5 : ¬ b5 = b16 := by have := hI'.out.k5.lt; omega
      have n4' : ¬ b4 = b16 := by have := hI'.out.k4.lt; omega
      clear ka kb sa sb qa na blo bll kl5 kl4
      (repeat' first
    | with_reducible first | exact ⟨⟩ | (refine gB ?_; intros) | refine gT ?_ ?_
    | refine gs ?_
    | refine sx ?_)
      refine loop_b b16 b.length (fun g0 k g w' => g 17 = .int .i64 k ∧ (g 4 = g0 4 ∧ g 5 = g0 5 ∧ g 6 = g0 6 ∧ g 9 = g0 9 ∧ g 16 = g0 16 ∧ g 45 = g0 45) ∧ Hid (Blk w' b16 45 [tv, .int .i64 ((List.range k).foldl (fun m i => max m (Sch.endT (scS s p x) b i)) x.first)])) KR (by omega) hl16 ?_ ?_ ?_
      · (repeat' first
    | with_reducible first | exact ⟨⟩ | (refine gB ?_; intros) | refine gT ?_ ?_
    | refine gs ?_
    | refine sx ?_)
        all_goals exact K16.out
      · clear K16
        rintro k m g5 wk hk hlt nk sk ck hbk hw ⟨hi5, hf5, hQ⟩
        simp (maxDischargeDepth := 3) only [U, ↓reduceIte, Nat.reduceEqDiff, *] at hf5
        have hcg : Cg b16 wb wk := FR
        have hIk : Hid (RmI w b3 b4 b5 b6 [f.u.f, f.u.b, f.u.l, f.u.r, .int .i64 s.switches, f.u.k, f.u.h] [f.sv, f.av] [f.q.w, f.q.a, .int .i64 x.blast, f.q.c, f.q.t, f.q.p, .int .i64 x.first, .int .i64 x.last] tv wv.heap.size b wk) := RmI.chg hI'.out hxlb h16 hcg
        have hkn : k < p.steps.length := by rw [← hbl.out]; exact hlt
        have hen := fun w' (hx : Ext wk w') => (hrk.out b w' tv (hIk.out.ext_ hx) hbD'.out k hkn).2.2
        have k16 := hQ.out.bk
        have rk := Ext.refl wk
        have hltI : (k : Int) < (b.length : Int) := by omega
        have hnx : Hid (((List.range (k + 1)).foldl (fun m i => max m (Sch.endT (scS s p x) b i)) x.first) = max ((List.range k).foldl (fun m i => max m (Sch.endT (scS s p x) b i)) x.first) (Sch.at_ b k + takeS p x k)) := by
          show ((List.range (k + 1)).foldl (fun m i => max m (Sch.endT (scS s p x) b i)) x.first) = max ((List.range k).foldl (fun m i => max m (Sch.endT (scS s p x) b i)) x.first) (Sch.at_ b k + takeS p x k)
          rw [List.range_succ, List.foldl_append]; rfl
        generalize ((List.range k).foldl (fun m i => max m (Sch.endT (scS s p x) b i)) x.first) = q at *
        generalize Sch.at_ b k + takeS p x k = E at *
        clear hQ
        have k4k := hIk.out.k4.bk
        have k5k := hIk.out.k5.bk
        (repeat' first
    | ((with_reducible refine wpd_at 28 ?_); refine wpd_hold ?_)
    | with_reducible first | exact ⟨⟩ | (refine gB ?_; intros) | refine gT ?_ ?_
    | refine gs ?_
    | refine sx ?_)
        unfold wpdH
        refine wpd_rel 7 (fun iI v w9 => match iI with
          | 0 => v = .pointer (some ⟨b16, 1, none⟩)
          | 1 => v = .int .i64 q
          | 2 => v = .agg #[f.sv, f.av]
          | 3 => v = .agg #[f.q.w, f.q.a, .int .i64 x.blast, f.q.c, f.q.t, f.q.p, .int .i64 x.first, .int .i64 x.last]
          | 4 => v = tv
          | 5 => v = .int .i64 (k : Int)
          | 6 => v = .int .i64 E
          | _ => False) KR KR KR ?_ ?_ ?_
        · intro iI v w1 w2 hR hx9
          match iI, hR with
          | 0, h => exact h
          | 1, h => exact h
          | 2, h => exact h
          | 3, h => exact h
          | 4, h => exact h
          | 5, h => exact h
          | 6, h => exact h
        · intro iI oO hi ho gF w9 hx9 hdep hag
          have s9 := hx9.st
          have n9 : Now w9 := trivial
          have r9 := Ext.refl w9
          have z9 := hx9.size
          rcases iI with _|_|_|_|_|_|_|iI
          have e := Option.some.inj ho
          subst e
          have a16 := hag.at 16 KR
          simp only [S5, ↓reduceIte, Nat.reduceEqDiff, initF, *] at a16
          clear hag hdep ho
          refine relStep_off rfl ?_
          rotate_left
          have e := Option.some.inj ho
          subst e
          have d0 : (gF 86) = .pointer (some ⟨b16, 1, none⟩) := hdep ⟨0, .data⟩ (by simp) rfl _ _ rfl rfl
          clear hag hdep ho
          refine relStep_off rfl ?_
          rotate_left
          have e := Option.some.inj ho
          subst e
          have a4 := hag.at 4 KR
          simp only [S5, ↓reduceIte, Nat.reduceEqDiff, initF, *] at a4
          clear hag hdep ho
          refine relStep_off rfl ?_
          rotate_left
          have e := Option.some.inj ho
          subst e
          have a5 := hag.at 5 KR
          simp only [S5, ↓reduceIte, Nat.reduceEqDiff, initF, *] at a5
          clear hag hdep ho
          refine relStep_off rfl ?_
          rotate_left
          have e := Option.some.inj ho
          subst e
          have a9 := hag.at 9 KR
          simp only [S5, ↓reduceIte, Nat.reduceEqDiff, initF, *] at a9
          clear hag hdep ho
          refine relStep_off rfl ?_
          rotate_left
          have e := Option.some.inj ho
          subst e
          have a17 := hag.at 17 KR
          simp only [S5, ↓reduceIte, Nat.reduceEqDiff, initF, *] at a17
          clear hag hdep ho
          refine relStep_off rfl ?_
          rotate_left
          · have e := Option.some.inj ho
            subst e
            have d2 : (gF 88) = .agg #[f.sv, f.av] := hdep ⟨2, .data⟩ (by simp) rfl _ _ rfl rfl
            have d3 : (gF 89) = .agg #[f.q.w, f.q.a, .int .i64 x.blast, f.q.c, f.q.t, f.q.p, .int .i64 x.first, .int .i64 x.last] := hdep ⟨3, .data⟩ (by simp) rfl _ _ rfl rfl
            have d4 : (gF 90) = tv := hdep ⟨4, .data⟩ (by simp) rfl _ _ rfl rfl
            have d5 : (gF 91) = .int .i64 (k : Int) := hdep ⟨5, .data⟩ (by simp) rfl _ _ rfl rfl
            clear hag hdep ho
            refine relStep_off rfl ?_
            (repeat' first
    | with_reducible first | exact ⟨⟩ | (refine gB ?_; intros) | refine gT ?_ ?_
    | refine gs ?_
    | refine sx ?_)
            refine CallsV.mono (hen _ FR) fun v w10 hh => ⟨hh.2, hh.1⟩
          · omega
          all_goals (repeat' first
    | with_reducible first | exact ⟨⟩ | (refine gB ?_; intros) | refine gT ?_ ?_
    | refine gs ?_
    | refine sx ?_)
        · intro g9 w9 hx9 hR hag
          have s9 := hx9.st
          have n9 : Now w9 := trivial
          have r9 := Ext.refl w9
          have z9 := hx9.size
          have d1 : (g9 87) = .int .i64 q := hR 1 _ _ (by decide) rfl rfl
          have d6 : (g9 92) = .int .i64 E := hR 6 _ _ (by decide) rfl rfl
          have a4 := hag.at 4 KR
          have a5 := hag.at 5 KR
          have a6 := hag.at 6 KR
          have a9 := hag.at 9 KR
          have a16 := hag.at 16 KR
          have a17 := hag.at 17 KR
          have a45 := hag.at 45 KR
          simp only [S5, ↓reduceIte, Nat.reduceEqDiff, initF, *] at a4 a5 a6 a9 a16 a17 a45
          clear hag hR
          simp only [List.drop_succ_cons, List.drop_zero]
          (repeat' first
    | with_reducible first | exact ⟨⟩ | (refine gB ?_; intros) | refine gT ?_ ?_
    | refine gs ?_
    | refine sx ?_)
          refine fun hb => store_intro (i := 1) KR hb (by simp) rfl fun wz hbz cz => ?_
          have nz : Now wz := trivial
          simp only [List.set_cons_zero, List.set_cons_succ] at hbz
          have sz : Sc w9 wz b16 := cz.sc
          have I4 : Hid (Blk wz b16 45 [tv, .int .i64 ((List.range (k + 1)).foldl (fun m i => max m (Sch.endT (scS s p x) b i)) x.first)]) := by
            show Blk wz b16 45 [tv, .int .i64 ((List.range (k + 1)).foldl (fun m i => max m (Sch.endT (scS s p x) b i)) x.first)]
            rw [hnx.out, ← maxI]; exact hbz
          clear hbz cz k16 k4k k5k
          (repeat' first
    | with_reducible first | exact ⟨⟩ | (refine gB ?_; intros) | refine gT ?_ ?_
    | refine gs ?_
    | refine sx ?_)
          refine next_b hk hlt ?_ FR
          (repeat' first
    | with_reducible first | exact ⟨⟩ | (refine gB ?_; intros) | refine gT ?_ ?_
    | refine gs ?_
    | refine sx ?_)
          all_goals exact I4.out
      · rintro g5 wk nk sk ck hbk ⟨hi5, hf5, hQ⟩
        simp (maxDischargeDepth := 3) only [U, ↓reduceIte, Nat.reduceEqDiff, *] at hf5
        have hcg : Cg b16 wb wk := FR
        have hIk : Hid (RmI w b3 b4 b5 b6 [f.u.f, f.u.b, f.u.l, f.u.r, .int .i64 s.switches, f.u.k, f.u.h] [f.sv, f.av] [f.q.w, f.q.a, .int .i64 x.blast, f.q.c, f.q.t, f.q.p, .int .i64 x.first, .int .i64 x.last] tv wv.heap.size b wk) := RmI.chg hI'.out hxlb h16 hcg
        have k16 := hQ.out.bk
        have k6k := hIk.out.k6.bk
        have hwk : Ext w wk := hIk.out.ext
        have hq2 : ((List.range b.length).foldl (fun m i => max m (Sch.endT (scS s p x) b i)) x.first) = Sch.stop (scS s p x) b := hstp.out.symm
        rw [hq2] at hQ
        have k16' := hQ.out.bk
        have n6 : ¬ b6 = b16 := hb6w.out.2
        have hb6 : w.heap.size ≤ b6 := by have := hb6l.out; omega
        have rk := Ext.refl wk
        have swk := hwk.st
        clear k16 hQ hq2 sk ck hcg
        (repeat' first
    | with_reducible first | exact ⟨⟩ | (refine gB ?_; intros) | refine gT ?_ ?_
    | refine gs ?_
    | refine sx ?_)
        rename_i wz nz kz sz
        exact ⟨tv, rfl, ((hIk.out.own.keep fun c hc => (sz.1 c wk ⟨(hIk.out.own.lt c hc).2, rfl⟩ (fun e => hIk.out.own.ne hIk.out.k6 (by decide) (e ▸ hc))).2).more hwv.out)⟩
end
end Go.Proofs.YtopfddchckdhgaaGreat
/- The statement ScheduleMakes, walked. -/
namespace Go.Proofs.YtopfddchckdhgaaGreat
set_option linter.unusedSimpArgs false
set_option linter.unusedVariables false
open Go Go.RowKit
set_option maxRecDepth 100000
set_option linter.unusedSectionVars false
set_option maxHeartbeats 2000000
section
variable {w w' : World} {B : Nat} {f : FrV} {s : SiteD} {p : PlanD} {x : TermsD}
theorem law23small (hB : B ≤ w.heap.size) (h : ArgT w B f s p x) : RetB Tryz.prog 9 #[.agg (siteC f.u s).toArray, .agg #[f.sv, f.av], .agg (termsC f.q x).toArray] w := by
  unfold RetB
  have hn : Now w := trivial
  have hx : Ext w w := Ext.refl w
  have ho := h.ones
  have hbw : Bl B w w := Bl.refl hB
  have KH := h.s.h.k hB
  have KS := h.p.s.k hB
  have KT := h.x.t.k hB
  have KP := h.x.p.k hB
  have KN := h.x.n.k hB
  have KA := h.x.a.k hB
  have haW : SlWf f.av ∧ isSl f.av ∧ lenN f.av = p.after.length := ⟨h.p.a.v.wf, h.p.a.v.sl, by rw [h.p.a.v.len, h.p.a.len]⟩
  clear h
  (refine callsV_of Tryz.func9 rfl KR KR ?_; rw [Tryz.results9])
  (repeat' first
    | with_reducible first | exact ⟨⟩ | (refine gB ?_; intros) | refine gT ?_ ?_
    | refine gs ?_
    | refine sxRefM230 ?_)
  all_goals first | exact ⟨_, rfl⟩ | exact ⟨⟨_, rfl⟩, FR⟩ | trace_state
theorem same_refl (t : TableD) : sameT t t = true := by simp [sameT]
theorem lawScheduleMakes (hB : B ≤ w.heap.size) (h : ArgT w B f s p x) (hkd : ∀ t ∈ p.steps, 0 ≤ t.kind ∧ t.kind ≤ 255) (hdm : (∀ y ∈ x.windows, 0 ≤ y.domain ∧ y.domain ≤ 255) ∧ ∀ y ∈ x.areas, 0 ≤ y.domain ∧ y.domain ≤ 255) : Ret Tryz.prog 3 #[.agg (siteC f.u s).toArray, .agg #[f.sv, f.av], .agg (termsC f.q x).toArray] w (.bool true) := by
  have hn : Now w := trivial
  have hx : Ext w w := Ext.refl w
  have ho := h.ones
  have hA : Hid (∀ w', Ext w w' → ArgT w' B f s p x ∧ B ≤ w'.heap.size) := fun w' hx => ⟨h.bl (Bl.ext (Bl.refl hB) hx), Nat.le_trans hB hx.size⟩
  have hsm := fun w' (hx : Ext w w') => law23small (hA.out w' hx).2 (hA.out w' hx).1
  have hm1 := fun w' (hx : Ext w w') => schedMake (hA.out w' hx).2 (hA.out w' hx).1 hkd
  have hm2 := fun w' (hx : Ext w w') => ref23Make (hA.out w' hx).2 (hA.out w' hx).1 hkd hdm
  have hsr := same_refl (makeS s p x).1
  generalize makeS s p x = Z at *
  obtain ⟨⟨zb, zs⟩, zi, ze⟩ := Z
  simp only at hm1 hm2 hsr
  replace hm1 : Hid _ := hm1
  replace hm2 : Hid _ := hm2
  replace hsm : Hid _ := hsm
  clear h hkd hdm
  (refine callsV_of Tryz.func3 rfl KR KR ?_; rw [Tryz.results3])
  (repeat' first
    | with_reducible first | exact ⟨⟩ | (refine gB ?_; intros) | refine gT ?_ ?_
    | refine gs ?_
    | refine sxRefM230 ?_)
  refine retb_k (hsm.out _ FR) fun bs w1 n1 s1 => ?_
  cases bs
  · (repeat' first
    | with_reducible first | exact ⟨⟩ | (refine gB ?_; intros) | refine gT ?_ ?_
    | refine gs ?_
    | ((with_reducible refine at_f 10 ?_); refine ret_k (law23awake) fun _ _ _ => ?_)
    | refine sx ?_)
  (repeat' first
    | with_reducible first | exact ⟨⟩ | (refine gB ?_; intros) | refine gT ?_ ?_
    | refine gs ?_
    | refine sx ?_)
  refine call_k (hm1.out _ FR) ?_
  rintro _ w2 n2 s2 ⟨t1, rfl, o1⟩
  have ot1 := o1.one
  have r2 := Ext.refl w2
  (repeat' first
    | with_reducible first | exact ⟨⟩ | (refine gB ?_; intros) | refine gT ?_ ?_
    | refine gs ?_
    | refine sx ?_)
  refine call_k (hm2.out _ FR) ?_
  rintro _ w3 n3 s3 ⟨t2, rfl, o2⟩
  have ot2 := o2.one
  have r3 := Ext.refl w3
  have o13 := o1.ext (show Ext w2 w3 from FR)
  clear o1
  (repeat' first
    | with_reducible first | exact ⟨⟩ | (refine gB ?_; intros) | refine gT ?_ ?_
    | refine gs ?_
    | refine sx ?_)
  rename_i b10 w4 n4 k4 s4 q4 w5 n5 k5 s5
  have x35 : Ext w3 w5 := FR
  have hsame := refSame (m := zs) (n := zs) (Nat.le_refl _) (Nat.le_refl _) ((o13.ext x35).sl1 (f := intV)) ((o2.ext x35).sl1 (f := intV))
  rw [hsr] at hsame
  refine ret_k hsame fun w6 n6 s6 => ?_
  clear hsame o13 o2
  (repeat' first
    | with_reducible first | exact ⟨⟩ | (refine gB ?_; intros) | refine gT ?_ ?_
    | refine gs ?_
    | ((with_reducible refine at_f 10 ?_); refine ret_k (law23awake) fun _ _ _ => ?_)
    | refine sx ?_)
end
end Go.Proofs.YtopfddchckdhgaaGreat
