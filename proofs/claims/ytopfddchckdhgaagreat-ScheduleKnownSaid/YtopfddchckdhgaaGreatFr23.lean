
/- The layer schedule: frames; how long a step takes, when it ends, whether an area has its host. -/
import Derived.Test.YtopfddchckdhgaaGreatPureL23
import Derived.Test.YtopfddchckdhgaaGreatMapR
namespace Go.Proofs.YtopfddchckdhgaaGreat
set_option linter.unusedSimpArgs false
set_option linter.unusedVariables false
open Go Go.RowKit
set_option maxRecDepth 100000
set_option linter.unusedSectionVars false
set_option maxHeartbeats 2000000
theorem sxFr230 {p q : Prop} (hq : q) (h : p = q := by first | (simp (maxDischargeDepth := 3) only [↓X, ↓Y, ↓Q, S1, ↓reduceIte, Nat.reduceEqDiff, Nat.reduceAdd, Int.reduceLT, Int.reduceLE, Int.reduceNeg, Int.reduceBEq, Int.reduceBNe, Int.reduceEq, Nat.reduceLeDiff, Nat.reduceMul, Nat.reduceLT, *, stepV, stepC]; try exact rfl) | (simp (singlePass := true) (maxDischargeDepth := 99) only [*, S2, Nat.reduceLT, stepV, stepC]; try exact rfl)) : p := h ▸ hq
theorem sxFr232 {p q : Prop} (hq : q) (h : p = q := by first | (simp (maxDischargeDepth := 3) only [↓X, ↓Y, ↓Q, S1, ↓reduceIte, Nat.reduceEqDiff, Nat.reduceAdd, Int.reduceLT, Int.reduceLE, Int.reduceNeg, Int.reduceBEq, Int.reduceBNe, Int.reduceEq, Nat.reduceLeDiff, Nat.reduceMul, Nat.reduceLT, *, windowV]; try exact rfl) | (simp (singlePass := true) (maxDischargeDepth := 99) only [*, S2, Nat.reduceLT, windowV]; try exact rfl)) : p := h ▸ hq
/-- A row of rows of numbers. -/
structure LL3 (w : World) (B : Nat) (v : Value) (vs : List Value) (ll : List (List Int)) : Prop where
  v : Sl w B none 1 v vs
  len : vs.length = ll.length
  at_ : ∀ i (h : i < ll.length), ∃ u, vs[i]? = some u ∧ Sl w B none 1 u (ll[i].map intV)
section
variable {w w' : World} {B B' : Nat}
theorem LL3.ext {v : Value} {vs : List Value} {ll : List (List Int)} (h : LL3 w B v vs ll) (hx : Ext w w') (hB : B ≤ w.heap.size) : LL3 w' B v vs ll :=
  ⟨h.v.ext hx hB, h.len, fun i hi => let ⟨u, h1, h2⟩ := h.at_ i hi; ⟨u, h1, h2.ext hx hB⟩⟩
theorem LL3.bl {v : Value} {vs : List Value} {ll : List (List Int)} (h : LL3 w B v vs ll) (hb : Bl B w w') : LL3 w' B v vs ll := ⟨h.v.bl hb, h.len, fun i hi => let ⟨u, h1, h2⟩ := h.at_ i hi; ⟨u, h1, h2.bl hb⟩⟩
theorem LL3.more {v : Value} {vs : List Value} {ll : List (List Int)} (h : LL3 w B v vs ll) (hB : B ≤ B') : LL3 w B' v vs ll := ⟨h.v.more hB, h.len, fun i hi => let ⟨u, h1, h2⟩ := h.at_ i hi; ⟨u, h1, h2.more hB⟩⟩
theorem LL3.get {v : Value} {vs : List Value} {ll : List (List Int)} (h : LL3 w B v vs ll) {i : Nat} (hi : i < ll.length) : ∃ u, rdv none w (elemAt v 1 i) = some u ∧ Sl w B none 1 u (ll[i].map intV) := by
  obtain ⟨u, h1, h2⟩ := h.at_ i hi
  have hlt : i < vs.length := by rw [h.len]; exact hi
  refine ⟨u, ?_, h2⟩
  rw [h.v.rd i hlt]
  rw [List.getElem?_eq_getElem hlt] at h1
  exact h1
structure PlanT (w : World) (B : Nat) (sv av : Value) (vs : List Value) (p : PlanD) : Prop where
  s : Sl w B (some 4) 4 sv (p.steps.map stepV)
  a : LL3 w B av vs p.after
structure TermsT (w : World) (B : Nat) (q : TermsVs) (x : TermsD) : Prop where
  n : Sl w B (some 4) 4 q.w (x.windows.map windowV)
  a : Sl w B (some 2) 2 q.a (x.areas.map areaV)
  t : Sl w B none 1 q.t (x.takes.map intV)
  p : Sl w B none 1 q.p (x.approved.map intV)
  c : q.c.oneCell' = true
/-- The values of a frame. -/
structure FrV where
  u : SiteVs
  sv : Value
  av : Value
  vs : List Value
  q : TermsVs
def frC (f : FrV) (bv : Value) (s : SiteD) (x : TermsD) : List Value := siteC f.u s ++ [f.sv, f.av] ++ termsC f.q x ++ [bv]
/-- What the call was given, at the world w. -/
structure ArgT (w : World) (B : Nat) (f : FrV) (s : SiteD) (p : PlanD) (x : TermsD) : Prop where
  s : SiteR w B f.u s
  p : PlanT w B f.sv f.av f.vs p
  x : TermsT w B f.q x
theorem ArgT.ext {f : FrV} {s : SiteD} {p : PlanD} {x : TermsD} (h : ArgT w B f s p x) (hx : Ext w w') (hB : B ≤ w.heap.size) : ArgT w' B f s p x :=
  ⟨h.s.ext hx hB, ⟨h.p.s.ext hx hB, h.p.a.ext hx hB⟩, ⟨h.x.n.ext hx hB, h.x.a.ext hx hB, h.x.t.ext hx hB, h.x.p.ext hx hB, h.x.c⟩⟩
theorem ArgT.bl {f : FrV} {s : SiteD} {p : PlanD} {x : TermsD} (h : ArgT w B f s p x) (hb : Bl B w w') : ArgT w' B f s p x :=
  ⟨⟨h.s.f.bl hb, h.s.b.bl hb, h.s.l.bl hb, h.s.r.bl hb, h.s.k.bl hb, h.s.h.bl hb⟩, ⟨h.p.s.bl hb, h.p.a.bl hb⟩, ⟨h.x.n.bl hb, h.x.a.bl hb, h.x.t.bl hb, h.x.p.bl hb, h.x.c⟩⟩
theorem ArgT.more {f : FrV} {s : SiteD} {p : PlanD} {x : TermsD} (h : ArgT w B f s p x) (hB : B ≤ B') : ArgT w B' f s p x :=
  ⟨⟨h.s.f.more hB, h.s.b.more hB, h.s.l.more hB, h.s.r.more hB, h.s.k.more hB, h.s.h.more hB⟩, ⟨h.p.s.more hB, h.p.a.more hB⟩, ⟨h.x.n.more hB, h.x.a.more hB, h.x.t.more hB, h.x.p.more hB, h.x.c⟩⟩
/-- A frame that can be read. -/
structure FrR (w : World) (fb : Nat) (f : FrV) (bv : Value) (s : SiteD) (p : PlanD) (x : TermsD) (b : List Int) : Prop where
  blk : Blk w fb 86 (frC f bv s x)
  arg : ArgT w w.heap.size f s p x
  beg : Sl w w.heap.size none 1 bv (b.map intV)
end
section
variable {w w' : World} {fb : Nat} {f : FrV} {bv : Value} {s : SiteD} {p : PlanD} {x : TermsD} {b : List Int}
theorem FrR.ext (h : FrR w fb f bv s p x b) (hx : Ext w w') : FrR w' fb f bv s p x b :=
  ⟨h.blk.ext hx, (h.arg.ext hx (Nat.le_refl _)).more hx.size, (h.beg.ext hx (Nat.le_refl _)).more hx.size⟩
/-- What the simplifier carries of a frame. -/
abbrev FrK (w : World) (fb : Nat) (f : FrV) (bv : Value) (s : SiteD) (p : PlanD) (x : TermsD) (b : List Int) : Prop :=
  Bk w fb 86 [f.u.f, f.u.b, f.u.l, f.u.r, intV s.switches, f.u.k, f.u.h, f.sv, f.av, f.q.w, f.q.a, intV x.blast, f.q.c, f.q.t, f.q.p, intV x.first, intV x.last, bv] ∧ Bl w.heap.size w w ∧ SlK w w.heap.size 4 (some 4) f.sv p.steps stepV ∧ SlFk w w.heap.size 4 f.sv p.steps stepV ∧ SlK w w.heap.size 4 (some 4) f.q.w x.windows windowV ∧ SlK w w.heap.size 2 (some 2) f.q.a x.areas areaV ∧ SlK w w.heap.size 1 none f.q.t x.takes intV ∧ SlK w w.heap.size 1 none f.q.p x.approved intV ∧ SlK w w.heap.size 1 none bv b intV ∧
    (∀ i, i < p.after.length → ∃ u, (∀ w', Bl w.heap.size w w' → rdv none w' (elemAt f.av 1 i) = some u) ∧ SlK w w.heap.size 1 none u (afterS p i) intV) ∧ SlWf f.av ∧ isSl f.av ∧ lenN f.av = p.after.length
theorem FrR.k (h : FrR w fb f bv s p x b) : FrK w fb f bv s p x b := by
  have hB := Nat.le_refl w.heap.size
  refine ⟨h.blk.bk, Bl.refl hB, h.arg.p.s.k hB, h.arg.p.s.fk, h.arg.x.n.k hB, h.arg.x.a.k hB, h.arg.x.t.k hB, h.arg.x.p.k hB, h.beg.k hB, fun i hi => ?_, h.arg.p.a.v.wf, h.arg.p.a.v.sl, by rw [h.arg.p.a.v.len, h.arg.p.a.len]⟩
  obtain ⟨u, h1, h2⟩ := h.arg.p.a.at_ i hi
  have hlt : i < f.vs.length := by rw [h.arg.p.a.len]; exact hi
  rw [← afterS_at hi] at h2
  refine ⟨u, fun w' hb => ?_, h2.k hB⟩
  rw [(h.arg.p.a.v.bl hb).rd i hlt]
  rw [List.getElem?_eq_getElem hlt] at h1
  exact h1
theorem kind_nat (hF : Fit s p x) {i : Nat} (hi : i < p.steps.length) : ∃ k : Nat, p.steps[i].kind = (k : Int) ∧ k < x.takes.length ∧ takeS p x i = x.takes.getD k 0 ∧ 1 ≤ k ∧ k ≤ 7 := by
  have h1 := hF.kind i hi
  rw [stepS_at hi] at h1
  have h2 := hF.takes
  refine ⟨p.steps[i].kind.toNat, by omega, by omega, ?_, by omega, by omega⟩
  unfold takeS
  rw [stepS_at hi, List.getD_eq_getElem?_getD]
theorem frTakes (hF : Fit s p x) (h : FrR w fb f bv s p x b) {i : Nat} (hi : i < p.steps.length) : Ret Tryz.prog 95 #[.pointer (some ⟨fb, 0, none⟩), .int .i64 i] w (intV (takeS p x i)) := by
  have hn : Now w := trivial
  have hx : Ext w w := Ext.refl w
  have hk := h.k
  obtain ⟨k, hk1, hk2, hk3, _, _⟩ := kind_nat hF hi
  rw [List.getD_eq_getElem?_getD, List.getElem?_eq_getElem hk2, Option.getD_some] at hk3
  rw [hk3]
  clear hk3 hF h
  (refine callsV_of Tryz.func95 rfl KR KR ?_; rw [Tryz.results95])
  (repeat' first
    | with_reducible first | exact ⟨⟩ | (refine gB ?_; intros) | refine gT ?_ ?_
    | refine gs ?_
    | refine sxFr230 ?_)
theorem frEnd (hF : Fit s p x) (hb : BegD p b) (h : FrR w fb f bv s p x b) {i : Nat} (hi : i < p.steps.length) : Ret Tryz.prog 55 #[.pointer (some ⟨fb, 0, none⟩), .int .i64 i] w (intV (Sch.at_ b i + takeS p x i)) := by
  have hn : Now w := trivial
  have hx : Ext w w := Ext.refl w
  have hk := h.k
  have hlb : i < b.length := by rw [hb.len]; exact hi
  have h1 := hb.at_ hi
  have h2 := hF.take i hi
  have ht := fun w' (h2 : Ext w w') => frTakes hF (h.ext h2) hi
  rw [at_at hlb] at h1 ⊢
  have hw : IntKind.i64.wrap (b[i] + takeS p x i) = b[i] + takeS p x i := by rw [wrap_i64_id] <;> omega
  clear hF h hb h1 h2
  (refine callsV_of Tryz.func55 rfl KR KR ?_; rw [Tryz.results55])
  (repeat' first
    | with_reducible first | exact ⟨⟩ | (refine gB ?_; intros) | refine gT ?_ ?_
    | refine gs ?_
    | ((with_reducible refine at_q 95 ?_); refine qret_k (fun _ _ _ => ht _ FR) ?_)
    | refine sx ?_)
theorem frHas (hF : Fit s p x) (h : FrR w fb f bv s p x b) {i : Nat} (hi : i < p.steps.length) {d n : Int} : Ret Tryz.prog 105 #[.pointer (some ⟨fb, 0, none⟩), .int .u8 d, .int .i64 n, .int .i64 i] w (.bool (inA s p i d n)) := by
  have hn : Now w := trivial
  have hx : Ext w w := Ext.refl w
  have hk := h.k
  have hd := fun w' (h2 : Ext w w') => siteDomainOf (w := w') (d := d) (h := p.steps[i].host) (Nat.le_refl _) (h.ext h2).arg.s
  unfold inA
  rw [stepS_at hi]
  clear hF h
  (refine callsV_of Tryz.func105 rfl KR KR ?_; rw [Tryz.results105])
  (repeat' first
    | with_reducible first | exact ⟨⟩ | (refine gB ?_; intros) | refine gT ?_ ?_
    | refine gs ?_
    | ((with_reducible refine at_q 129 ?_); refine qret_k (fun _ _ _ => hd _ FR) ?_)
    | refine sxFr230 ?_)
theorem frInTime (hF : Fit s p x) (hb : BegD p b) (h : FrR w fb f bv s p x b) {i : Nat} (hi : i < p.steps.length) : Ret Tryz.prog 66 #[.pointer (some ⟨fb, 0, none⟩), .int .i64 i] w (.tuple #[intV 0, .bool (timeB p x b i)]) := by
  have hn : Now w := trivial
  have hx : Ext w w := Ext.refl w
  have hk := h.k
  have hlb : i < b.length := by rw [hb.len]; exact hi
  have he := fun w' (h2 : Ext w w') => frEnd hF hb (h.ext h2) hi
  unfold timeB
  rw [at_at hlb] at he ⊢
  clear hF h hb
  (refine callsV_of Tryz.func66 rfl KR KR ?_; rw [Tryz.results66])
  (repeat' first
    | with_reducible first | exact ⟨⟩ | (refine gB ?_; intros) | refine gT ?_ ?_
    | refine gs ?_
    | ((with_reducible refine at_q 55 ?_); refine qret_k (fun _ _ _ => he _ FR) ?_)
    | refine sx ?_)
  all_goals simp_all
theorem find_at {α : Type} {l : List α} {q : α → Bool} {k : Nat} (hk : k < l.length) (h : ∀ j ∈ l.take k, q j = false) (hq : q l[k] = true) : l.find? q = some l[k] := by
  rw [List.find?_eq_some_iff_getElem]
  refine ⟨hq, k, hk, rfl, fun j hj => ?_⟩
  have := h l[j] (by rw [List.mem_take_iff_getElem]; exact ⟨j, by omega, rfl⟩)
  simpa using this
theorem frOrdered (hF : Fit s p x) (hb : BegD p b) (h : FrR w fb f bv s p x b) {i : Nat} (hi : i < p.steps.length) : Ret Tryz.prog 67 #[.pointer (some ⟨fb, 0, none⟩), .int .i64 i] w (.tuple #[intV ((orderJ p x b i).getD 0), .bool (orderJ p x b i).isNone]) := by
  have hn : Now w := trivial
  have hx : Ext w w := Ext.refl w
  have hk := h.k
  have hlb : i < b.length := by rw [hb.len]; exact hi
  have hia : i < p.after.length := by rw [hF.len]; exact hi
  obtain ⟨u, hu, hU⟩ := hk.2.2.2.2.2.2.2.2.2.1 i hia
  have hmax := (hU.2.2.2.2.2.2.1 w (Bl.refl (Nat.le_refl _))).max_
  have he := fun w' (h2 : Ext w w') j (hj : j < p.steps.length) => frEnd hF hb (h.ext h2) hj
  have hpl : Hid _ := hF.places i hi
  unfold orderJ
  rw [at_at hlb]
  clear hF h hb
  (refine callsV_of Tryz.func67 rfl KR KR ?_; rw [Tryz.results67])
  (repeat' first
    | with_reducible first | exact ⟨⟩ | (refine gB ?_; intros) | refine gT ?_ ?_
    | refine gs ?_
    | refine sx ?_)
  refine loop_k ((afterS p i).length) (fun g0 k g _ => g 17 = .int .i64 k ∧ (g 0 = g0 0 ∧ g 1 = g0 1 ∧ g 15 = g0 15 ∧ g 16 = g0 16) ∧ Hid (∀ j ∈ (afterS p i).take k, decide (b[i] < Sch.at_ b j.toNat + takeS p x j.toNat) = false)) KR (hmax) ?_ ?_ ?_
  · (repeat' first
    | with_reducible first | exact ⟨⟩ | (refine gB ?_; intros) | refine gT ?_ ?_
    | refine gs ?_
    | simp (maxDischargeDepth := 3) only [↓X, ↓Y, ↓Q, S1, ↓reduceIte, Nat.reduceEqDiff, Nat.reduceAdd, Int.reduceLT, Int.reduceLE, Int.reduceNeg, Int.reduceBEq, Int.reduceBNe, Int.reduceEq, Nat.reduceLeDiff, Nat.reduceMul, Nat.reduceLT, *, List.take_zero, List.all_nil, List.any_nil]
    | simp (singlePass := true) (maxDischargeDepth := 99) only [*, S2, Nat.reduceLT, List.take_zero, List.all_nil, List.any_nil])
    exact fun j hj => absurd hj (by simp)
  · rintro k m g wk hk hlt _ _ _ hw ⟨hi, hf, hp⟩
    simp (maxDischargeDepth := 3) only [U, ↓reduceIte, Nat.reduceEqDiff, *] at hf
    have hj := hpl.out _ (List.getElem_mem hlt)
    obtain ⟨j, hjn⟩ : ∃ j : Nat, (afterS p i)[k] = (j : Int) := ⟨(afterS p i)[k].toNat, by omega⟩
    have hjl : j < p.steps.length := by omega
    by_cases hc : b[i] < Sch.at_ b j + takeS p x j
    · have hq : (afterS p i).find? (fun j => decide (b[i] < Sch.at_ b j.toNat + takeS p x j.toNat)) = some (afterS p i)[k] := find_at hlt hp.out (by rw [hjn]; simpa using hc)
      rw [hq]
      simp only [Option.getD_some, Option.isNone_some]
      clear hpl hp hq hj
      (repeat' first
    | with_reducible first | exact ⟨⟩ | (refine gB ?_; intros) | refine gT ?_ ?_
    | refine gs ?_
    | ((with_reducible refine at_q 55 ?_); refine qret_k (fun _ _ _ => he _ FR _ hjl) ?_)
    | refine sx ?_)
    · have hq : Hid (∀ j ∈ (afterS p i).take (k + 1), decide (b[i] < Sch.at_ b j.toNat + takeS p x j.toNat) = false) := by
        intro y hy
        rw [List.take_succ_eq_append_getElem hlt] at hy
        rcases List.mem_append.1 hy with hy | hy
        · exact hp.out y hy
        · rw [List.mem_singleton.1 hy, hjn]
          simpa using hc
      clear hpl hp hj
      (repeat' first
    | with_reducible first | exact ⟨⟩ | (refine gB ?_; intros) | refine gT ?_ ?_
    | refine gs ?_
    | ((with_reducible refine at_q 55 ?_); refine qret_k (fun _ _ _ => he _ FR _ hjl) ?_)
    | refine sx ?_)
      refine next_k hk hlt ?_ FR
      (repeat' first
    | with_reducible first | exact ⟨⟩ | (refine gB ?_; intros) | refine gT ?_ ?_
    | refine gs ?_
    | refine sx ?_)
      all_goals exact hq.out
  · rintro g wk _ _ _ ⟨hi, hf, hp⟩
    simp (maxDischargeDepth := 3) only [U, ↓reduceIte, Nat.reduceEqDiff, *] at hf
    rw [List.take_length] at hp
    have hq : (afterS p i).find? (fun j => decide (b[i] < Sch.at_ b j.toNat + takeS p x j.toNat)) = none := List.find?_eq_none.2 fun j hj => by
      have := hp.out j hj
      simpa using this
    rw [hq]
    simp only [Option.getD_none, Option.isNone_none]
    (repeat' first
    | with_reducible first | exact ⟨⟩ | (refine gB ?_; intros) | refine gT ?_ ?_
    | refine gs ?_
    | refine sx ?_)
end
section
variable {w w' : World} {fb : Nat} {f : FrV} {bv : Value} {s : SiteD} {p : PlanD} {x : TermsD} {b : List Int}
theorem frInWindow (hF : Fit s p x) (hb : BegD p b) (h : FrR w fb f bv s p x b) {i : Nat} (hi : i < p.steps.length) : Ret Tryz.prog 68 #[.pointer (some ⟨fb, 0, none⟩), .int .i64 i] w (.tuple #[intV 0, .bool (winB s p x i (Sch.at_ b i))]) := by
  have hn : Now w := trivial
  have hx : Ext w w := Ext.refl w
  have hk := h.k
  have hlb : i < b.length := by rw [hb.len]; exact hi
  have hmax := h.arg.x.n.max_
  have he := fun w' (h2 : Ext w w') => frEnd hF hb (h.ext h2) hi
  have ha := fun w' (h2 : Ext w w') d n => frHas hF (h.ext h2) hi (d := d) (n := n)
  rw [at_at hlb] at he ⊢
  clear hF h hb
  have hwin : ∀ k (hk : k < x.windows.length), inA s p i x.windows[k].domain x.windows[k].index = true → x.windows[k].frm ≤ b[i] → b[i] + takeS p x i ≤ x.windows[k].til → winB s p x i b[i] = true := fun k hk h1 h2 h3 => by
    unfold winB
    rw [Bool.or_eq_true]
    right
    refine List.any_eq_true.2 ⟨_, List.getElem_mem hk, ?_⟩
    rw [h1, decide_eq_true h2, decide_eq_true h3]; rfl
  replace hwin : Hid _ := hwin
  obtain ⟨G, hG⟩ : ∃ G : Nat → Bool, G = fun k => (x.windows.take k).all fun w => !inA s p i w.domain w.index := ⟨_, rfl⟩
  have hG0 : G 0 = true := by rw [hG]; rfl
  have hGk : ∀ k (hk : k < x.windows.length), G (k + 1) = (G k && !inA s p i x.windows[k].domain x.windows[k].index) := fun k hk => by rw [hG]; exact all_take hk _
  have hGN : G x.windows.length = x.windows.all fun w => !inA s p i w.domain w.index := by rw [hG]; simp only [List.take_length]
  replace hGk : Hid _ := hGk
  replace hGN : Hid _ := hGN
  clear hG
  (refine callsV_of Tryz.func68 rfl KR KR ?_; rw [Tryz.results68])
  (repeat' first
    | with_reducible first | exact ⟨⟩ | (refine gB ?_; intros) | refine gT ?_ ?_
    | refine gs ?_
    | refine sx ?_)
  refine loop_k (x.windows.length) (fun g0 k g _ => g 16 = .int .i64 k ∧ (g 0 = g0 0 ∧ g 1 = g0 1 ∧ g 14 = g0 14 ∧ g 15 = g0 15) ∧ g 6 = .bool (G k) ∧ Hid (∀ j (hj : j < x.windows.length), j < k → ¬ (inA s p i x.windows[j].domain x.windows[j].index = true ∧ x.windows[j].frm ≤ b[i] ∧ b[i] + takeS p x i ≤ x.windows[j].til))) KR (hmax) ?_ ?_ ?_
  · (repeat' first
    | with_reducible first | exact ⟨⟩ | (refine gB ?_; intros) | refine gT ?_ ?_
    | refine gs ?_
    | simp (maxDischargeDepth := 3) only [↓X, ↓Y, ↓Q, S1, ↓reduceIte, Nat.reduceEqDiff, Nat.reduceAdd, Int.reduceLT, Int.reduceLE, Int.reduceNeg, Int.reduceBEq, Int.reduceBNe, Int.reduceEq, Nat.reduceLeDiff, Nat.reduceMul, Nat.reduceLT, *, hG0]
    | simp (singlePass := true) (maxDischargeDepth := 99) only [*, S2, Nat.reduceLT, hG0])
    exact fun j hj h => absurd h (by omega)
  · rintro k m g wk hk hlt _ _ _ hw ⟨hi, hf, hp⟩
    simp (maxDischargeDepth := 3) only [U, ↓reduceIte, Nat.reduceEqDiff, *] at hf
    obtain ⟨h6, hp⟩ := hp
    have hg := hGk.out k hlt
    have hwk := hwin.out k hlt
    cases hin : inA s p i x.windows[k].domain x.windows[k].index
    · rw [hin] at hg hwk
      rw [Bool.not_false, Bool.and_true] at hg
      have ha' := fun w' h2 => ha w' h2 x.windows[k].domain x.windows[k].index
      rw [hin] at ha'
      have hq : Hid (∀ j (hj : j < x.windows.length), j < k + 1 → ¬ (inA s p i x.windows[j].domain x.windows[j].index = true ∧ x.windows[j].frm ≤ b[i] ∧ b[i] + takeS p x i ≤ x.windows[j].til)) := fun j hj hjk ⟨h1, h2⟩ => by
        rcases Nat.lt_or_eq_of_le (Nat.le_of_lt_succ hjk) with h3 | rfl
        · exact hp.out j hj h3 ⟨h1, h2⟩
        · rw [hin] at h1; cases h1
      clear hp hwk hin hGk hwin ha
      (repeat' first
    | with_reducible first | exact ⟨⟩ | (refine gB ?_; intros) | refine gT ?_ ?_
    | refine gs ?_
    | ((with_reducible refine at_f 105 ?_); refine ret_k (ha' _ FR) fun _ _ _ => ?_)
    | refine sxFr232 ?_)
      refine next_k hk hlt ?_ FR
      (repeat' first
    | with_reducible first | exact ⟨⟩ | (refine gB ?_; intros) | refine gT ?_ ?_
    | refine gs ?_
    | simp (maxDischargeDepth := 3) only [↓X, ↓Y, ↓Q, S1, ↓reduceIte, Nat.reduceEqDiff, Nat.reduceAdd, Int.reduceLT, Int.reduceLE, Int.reduceNeg, Int.reduceBEq, Int.reduceBNe, Int.reduceEq, Nat.reduceLeDiff, Nat.reduceMul, Nat.reduceLT, *, hg]
    | simp (singlePass := true) (maxDischargeDepth := 99) only [*, S2, Nat.reduceLT, hg])
      all_goals exact hq.out
    · rw [hin] at hg hwk
      rw [Bool.not_true, Bool.and_false] at hg
      have ha' := fun w' h2 => ha w' h2 x.windows[k].domain x.windows[k].index
      rw [hin] at ha'
      by_cases hc : x.windows[k].frm ≤ b[i] ∧ b[i] + takeS p x i ≤ x.windows[k].til
      · obtain ⟨hc1, hc2⟩ := hc
        rw [hwk rfl hc1 hc2]
        clear hp hwk hin hGk hwin ha
        (repeat' first
    | with_reducible first | exact ⟨⟩ | (refine gB ?_; intros) | refine gT ?_ ?_
    | refine gs ?_
    | ((with_reducible refine at_f 105 ?_); refine ret_k (ha' _ FR) fun _ _ _ => ?_)
    | ((with_reducible refine at_q 55 ?_); refine qret_k (fun _ _ _ => he _ FR) ?_)
    | refine sxFr232 ?_)
      · have hq : Hid (∀ j (hj : j < x.windows.length), j < k + 1 → ¬ (inA s p i x.windows[j].domain x.windows[j].index = true ∧ x.windows[j].frm ≤ b[i] ∧ b[i] + takeS p x i ≤ x.windows[j].til)) := fun j hj hjk h1 => by
          rcases Nat.lt_or_eq_of_le (Nat.le_of_lt_succ hjk) with h3 | rfl
          · exact hp.out j hj h3 h1
          · exact hc h1.2
        have hc' : Hid _ := hc
        clear hp hwk hin hGk hwin ha hc
        (repeat' first
    | with_reducible first | exact ⟨⟩ | (refine gB ?_; intros) | refine gT ?_ ?_
    | refine gs ?_
    | ((with_reducible refine at_f 105 ?_); refine ret_k (ha' _ FR) fun _ _ _ => ?_)
    | ((with_reducible refine at_q 55 ?_); refine qret_k (fun _ _ _ => he _ FR) ?_)
    | refine sxFr232 ?_)
        · exact absurd ⟨by assumption, by assumption⟩ hc'.out
        all_goals
          refine next_k hk hlt ?_ FR
          (repeat' first
    | with_reducible first | exact ⟨⟩ | (refine gB ?_; intros) | refine gT ?_ ?_
    | refine gs ?_
    | simp (maxDischargeDepth := 3) only [↓X, ↓Y, ↓Q, S1, ↓reduceIte, Nat.reduceEqDiff, Nat.reduceAdd, Int.reduceLT, Int.reduceLE, Int.reduceNeg, Int.reduceBEq, Int.reduceBNe, Int.reduceEq, Nat.reduceLeDiff, Nat.reduceMul, Nat.reduceLT, *, hg]
    | simp (singlePass := true) (maxDischargeDepth := 99) only [*, S2, Nat.reduceLT, hg])
          all_goals exact hq.out
  · rintro g wk _ _ _ ⟨hi, hf, hp⟩
    simp (maxDischargeDepth := 3) only [U, ↓reduceIte, Nat.reduceEqDiff, *] at hf
    obtain ⟨h6, hp⟩ := hp
    have e : winB s p x i b[i] = G x.windows.length := by
      rw [hGN.out]
      unfold winB
      rw [show (x.windows.any fun w => inA s p i w.domain w.index && (decide (w.frm ≤ b[i]) && decide (b[i] + takeS p x i ≤ w.til))) = false from List.any_eq_false.2 fun w hw => by
        obtain ⟨j, hj, rfl⟩ := List.getElem_of_mem hw
        have := hp.out j hj hj
        simpa using this, Bool.or_false]
    rw [e]
    (repeat' first
    | with_reducible first | exact ⟨⟩ | (refine gB ?_; intros) | refine gT ?_ ?_
    | refine gs ?_
    | refine sx ?_)
theorem frApproved1 (hF : Fit s p x) (h : FrR w fb f bv s p x b) {i : Nat} (hi : i < p.steps.length) {b1 b2 : Nat} (h1 : Blk w b1 83 [.pointer (some ⟨fb, 0, none⟩)]) (h2 : Blk w b2 3 [.int .i64 i]) (a : AreaD) : Ret Tryz.prog 106 #[areaV a, .pointer (some ⟨b1, 0, none⟩), .pointer (some ⟨b2, 0, none⟩)] w (.bool (inA s p i a.domain a.index)) := by
  have hn : Now w := trivial
  have hx : Ext w w := Ext.refl w
  have ha := fun w' (h2 : Ext w w') => frHas hF (h.ext h2) hi (d := a.domain) (n := a.index)
  have k1 := h1.bk
  have k2 := h2.bk
  clear h hF h1 h2
  (refine callsV_of Tryz.func106 rfl KR KR ?_; rw [Tryz.results106])
  (repeat' first
    | with_reducible first | exact ⟨⟩ | (refine gB ?_; intros) | refine gT ?_ ?_
    | refine gs ?_
    | ((with_reducible refine at_f 105 ?_); refine ret_k (ha _ FR) fun _ _ _ => ?_)
    | simp (maxDischargeDepth := 3) only [↓X, ↓Y, ↓Q, S1, ↓reduceIte, Nat.reduceEqDiff, Nat.reduceAdd, Int.reduceLT, Int.reduceLE, Int.reduceNeg, Int.reduceBEq, Int.reduceBNe, Int.reduceEq, Nat.reduceLeDiff, Nat.reduceMul, Nat.reduceLT, *, areaV]
    | simp (singlePass := true) (maxDischargeDepth := 99) only [*, S2, Nat.reduceLT, areaV])
theorem frApproved (hF : Fit s p x) (hb : BegD p b) (h : FrR w fb f bv s p x b) {i : Nat} (hi : i < p.steps.length) : Ret Tryz.prog 69 #[.pointer (some ⟨fb, 0, none⟩), .int .i64 i] w (.tuple #[intV 0, .bool (appB s p x i (Sch.at_ b i))]) := by
  have hn : Now w := trivial
  have hx : Ext w w := Ext.refl w
  have hk := h.k
  have hlb : i < b.length := by rw [hb.len]; exact hi
  have hla : i < x.approved.length := by rw [hF.appr]; exact hi
  have hcal : callable Tryz.prog 106 = true := by kernel_rfl
  have hct := fun w' (h2 : Ext w w') b1 b2 (k1 : Blk w' b1 83 [.pointer (some ⟨fb, 0, none⟩)]) (k2 : Blk w' b2 3 [.int .i64 i]) => containsFunc_Area (Nat.le_refl _) (h.ext h2).arg.x.a hcal (caps := [.pointer (some ⟨b1, 0, none⟩), .pointer (some ⟨b2, 0, none⟩)]) fun a _ w'' hx => frApproved1 hF (h.ext (h2.trans hx)) hi (k1.ext hx) (k2.ext hx) a
  have e1 : appS x i = x.approved[i] := by simp [appS, hla]
  unfold appB
  rw [at_at hlb, e1]
  replace hct : Hid _ := hct
  clear hF h hb e1
  (refine callsV_of Tryz.func69 rfl KR KR ?_; rw [Tryz.results69])
  (repeat' first
    | with_reducible first | exact ⟨⟩ | (refine gB ?_; intros) | refine gT ?_ ?_
    | refine gs ?_
    | ((with_reducible refine at_f 91 ?_); refine ret_k (hct.out _ FR _ _ FR FR) fun _ _ _ => ?_)
    | refine sx ?_)
end
end Go.Proofs.YtopfddchckdhgaaGreat
