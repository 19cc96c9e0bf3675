/- The layer drift: Explain's search. -/
import Derived.Test.YtmcdgepfhpakiaaGreatLists30
import Derived.Test.YtmcdgepfhpakiaaGreatStep3
import Derived.Test.YtmcdgepfhpakiaaGreatRelS2
import Derived.Test.YtmcdgepfhpakiaaGreatOwn1
import Derived.Test.YtmcdgepfhpakiaaGreatStep
namespace Go.Proofs.YtmcdgepfhpakiaaGreat
set_option linter.unusedSimpArgs false
set_option linter.unusedVariables false
open Go Go.RowKit
set_option maxRecDepth 100000
set_option linter.unusedSectionVars false
set_option maxHeartbeats 2000000
/-- What a step at a place leads to. -/
def apS (s : SiteD) (wl : List ServiceD) (steps : List StepD) (x : WorldD) (i : Nat) : Option WorldD := match steps[i]? with
  | some st => if applyE s wl x st = 0 then some (applyW s wl x st) else none
  | none => none
def tryV (b3 b4 b5 b6 b7 : Nat) : Value := .func (.func 22) #[] #[.pointer (some ⟨b3, 0, none⟩), .pointer (some ⟨b4, 0, none⟩), .pointer (some ⟨b5, 0, none⟩), .pointer (some ⟨b6, 0, none⟩), .pointer (some ⟨b7, 0, none⟩)]
theorem ownW_frE {B b T : Nat} {v : Value} {w w' : World} {x : WorldD} {z : List Value} (h : OwnW B v w x) (hz : Blk w b T z) (hc : Chg w w' b) (h1 : T ≠ 76 := by decide) (h2 : T ≠ 78 := by decide) : OwnW B v w' x := by
  obtain ⟨p, q, e, o1, o2⟩ := h
  exact ⟨p, q, e, o1.fr hz hc (.inl h1), o2.fr hz hc (.inl h2)⟩
theorem SiteR.upE {w : World} {B B' : Nat} {u : SiteVs} {s : SiteD} (h : SiteR w B u s) (hB : B ≤ B') : SiteR w B' u s := ⟨h.f.more hB, h.b.more hB, h.l.more hB, h.r.more hB, h.k.more hB, h.h.more hB⟩
theorem WishR.upE {w : World} {B B' : Nat} {v : Value} {l : List SrvV} (h : WishR w B v l) (hB : B ≤ B') : WishR w B' v l := ⟨h.v.more hB, fun u hu => (h.a u hu).more hB, fun u hu => (h.n u hu).more hB⟩
abbrev tTry : TypeId := 70
/-- What the search has about it. -/
structure ExB (w : World) (B b3 b4 b5 b6 b7 : Nat) (u : SiteVs) (s : SiteD) (wv : Value) (l : List SrvV) (hs' rs' sv : Value) (seen : WorldD) (steps : List StepD) : Prop where
  hB : B ≤ w.heap.size
  k3 : Blk w b3 36 [hs', rs']
  k4 : Blk w b4 37 [sv]
  k5 : Blk w b5 29 (siteC u s)
  k6 : Blk w b6 32 [wv]
  k7 : Blk w b7 tTry [tryV b3 b4 b5 b6 b7]
  hs : SiteR w B u s
  hl : WishR w B wv l
  hseen : WorldR w B hs' rs' seen
  hst : Sl w B (some 4) 4 sv (steps.map stepV)
theorem ExB.ext {w w' : World} {B b3 b4 b5 b6 b7 : Nat} {u : SiteVs} {s : SiteD} {wv : Value} {l : List SrvV} {hs' rs' sv : Value} {seen : WorldD} {steps : List StepD} (h : ExB w B b3 b4 b5 b6 b7 u s wv l hs' rs' sv seen steps) (hx : Ext w w') : ExB w' B b3 b4 b5 b6 b7 u s wv l hs' rs' sv seen steps :=
  have hb : Bl B w w' := (Bl.refl h.hB).ext hx
  ⟨Nat.le_trans h.hB hx.size, h.k3.ext hx, h.k4.ext hx, h.k5.ext hx, h.k6.ext hx, h.k7.ext hx, (h.hs.sk h.hB).2.2.2.2.2.2 w' hb, (h.hl.sk h.hB).2.2 w' hb, (h.hseen.sk h.hB).2.2.2.2 w' hb, h.hst.bl hb⟩
/-- What the search hands back. -/
def TryR (B : Nat) (w' : World) (v : Value) (o : Option (List Nat)) : Prop := match o with
  | some l => ∃ u, v = .tuple #[u, .bool true] ∧ OwnN w' B u l
  | none => v = .tuple #[.slice none 0 0, .bool false]
section
variable {w : World} {B b3 b4 b5 b6 b7 : Nat} {u : SiteVs} {sd : SiteD} {wv : Value} {l : List SrvV} {hs' rs' sv h r : Value} {seen x : WorldD} {steps : List StepD}
theorem driftTry0 (f : Nat) (hE : ExB w B b3 b4 b5 b6 b7 u sd wv l hs' rs' sv seen steps) (hx0 : WorldR w w.heap.size h r x) :
    CallsV Tryz.prog 22 #[.agg #[h, r], .int .i64 (f : Nat), .int .i64 (0 : Nat), .pointer (some ⟨b3, 0, none⟩), .pointer (some ⟨b4, 0, none⟩), .pointer (some ⟨b5, 0, none⟩), .pointer (some ⟨b6, 0, none⟩), .pointer (some ⟨b7, 0, none⟩)] w fun v w' => Ext w w' ∧ TryR w.heap.size w' v (tryS (apS sd (l.map (·.x)) steps) seen steps.length 0 x f) := by
  have hn : Now w := trivial
  have hx : Ext w w := Ext.refl w
  have k3 := hE.k3.bk
  have hx' := hx0.sk (Nat.le_refl _)
  have hX := hx'.2.2.2.2
  have hsn := hE.hseen.sk hE.hB
  have hSn := hsn.2.2.2.2
  have hB := hE.hB
  have bB : Bl B w w := Bl.refl hB
  have bw : Bl w.heap.size w w := Bl.refl (Nat.le_refl _)
  clear hE
  (refine callsV_of Tryz.func22 rfl KR KR ?_; rw [Tryz.results22])
  (repeat' first
    | ((with_reducible refine at_row ?_); refine row1_a fun _ _ _ _ _ _ _ => ?_)
    | with_reducible first | (first | apply alloc_k | apply row_k); intro _ _ _ _ _ _ | (first | apply fork | apply forkp) <;> intro _ | refine forke (fun _ => ?_) fun _ _ => ?_ | refine tail_k fun _ _ _ => ?_ | refine ext_k fun _ _ _ => ?_ | refine need_a ?_ | refine st_agg KR rfl ON fun _ _ _ _ => ?_ | refine wpd_q_a ?_
    | ((with_reducible refine at_f 23 ?_); refine ret_k (worldSame (B := w.heap.size) (B' := B) (x := x) (y := seen) FR FR (hX _ FR) (hSn _ FR)) fun _ _ _ => ?_)
    | simp (maxDischargeDepth := 3) only [↓X, ↓Y, ↓Q, S1, ↓reduceIte, Nat.reduceEqDiff, Nat.reduceAdd, Int.reduceLT, Int.reduceLE, Int.reduceNeg, Int.reduceBEq, Int.reduceBNe, Int.reduceEq, Nat.reduceLeDiff, Nat.reduceMul, Nat.reduceLT, *]
    | simp (singlePass := true) (maxDischargeDepth := 99) only [*, S2, Nat.reduceLT])
  unfold tryS
  by_cases e : x = seen
  · rw [if_pos e, decide_eq_true e]
    exact ⟨_, rfl, Own.nil _ _ _ _⟩
  · rw [if_neg e, decide_eq_false e]
    rfl
theorem try_none {ap : WorldD → Nat → Option WorldD} {n m f k : Nat} {x : WorldD} (hf : f ≤ k) (h1 : (List.range' f (k - f)).findSome? (fun i => (ap x i).bind fun y => (tryS ap seen n m y (i + 1)).map (i :: ·)) = none) (h2 : (ap x k).bind (fun y => (tryS ap seen n m y (k + 1)).map (k :: ·)) = none) :
    (List.range' f (k + 1 - f)).findSome? (fun i => (ap x i).bind fun y => (tryS ap seen n m y (i + 1)).map (i :: ·)) = none := by
  have e : List.range' f (k + 1 - f) = List.range' f (k - f) ++ [k] := by
    rw [show k + 1 - f = (k - f) + 1 by omega, List.range'_concat]
    congr 1
    simp
    omega
  rw [e, List.findSome?_append, h1, Option.none_or]
  simp [h2]
theorem try_found {ap : WorldD → Nat → Option WorldD} {n m f k : Nat} {x y : WorldD} {rest : List Nat} (hf : f ≤ k) (hk : k < f + (n - m - f)) (h1 : (List.range' f (k - f)).findSome? (fun i => (ap x i).bind fun y => (tryS ap seen n m y (i + 1)).map (i :: ·)) = none) (h2 : ap x k = some y) (h3 : tryS ap seen n m y (k + 1) = some rest) :
    tryS ap seen n (m + 1) x f = some (k :: rest) := by
  have e : List.range' f (n - m - f) = List.range' f (k - f) ++ List.range' k (n - m - k) := by
    rw [show k = f + 1 * (k - f) by omega]
    rw [show List.range' f (f + 1 * (k - f) - f) = List.range' f (k - f) by congr 1; omega]
    rw [List.range'_append]
    congr 1
    omega
  unfold tryS
  rw [e, List.findSome?_append, h1, Option.none_or]
  have e2 : List.range' k (n - m - k) = k :: List.range' (k + 1) (n - m - k - 1) := by
    rw [show n - m - k = (n - m - k - 1) + 1 by omega, List.range'_succ]
    congr 1
  rw [e2, List.findSome?_cons, h2]
  simp [h3]
theorem try_len {ap : WorldD → Nat → Option WorldD} {n : Nat} : ∀ {m : Nat} {x : WorldD} {f : Nat} {r : List Nat}, m ≤ 12 → tryS ap seen n m x f = some r → r.length ≤ 13
  | m, x, f, r, hm, h => by
    have key : ∀ (m : Nat) (x : WorldD) (f : Nat) (r : List Nat), tryS ap seen n m x f = some r → r.length = m := by
      intro m
      induction m with
      | zero =>
        intro x f r h
        unfold tryS at h
        split at h
        · obtain rfl := Option.some.inj h; rfl
        · cases h
      | succ m ih =>
        intro x f r h
        unfold tryS at h
        obtain ⟨i, _, h1⟩ := List.exists_of_findSome?_eq_some h
        cases ha : ap x i with
        | none => rw [ha] at h1; cases h1
        | some y =>
          rw [ha] at h1
          obtain ⟨r', hr', rfl⟩ := Option.map_eq_some_iff.1 h1
          rw [List.length_cons, ih y (i + 1) r' hr']
    have := key m x f r h
    omega
theorem driftTryS (h12 : steps.length ≤ 12) (m f : Nat) (hm : m ≤ 12) (hf0 : f ≤ 13) (ih : ∀ {w : World} {h r : Value} {x : WorldD} (f : Nat), f ≤ 13 → ExB w B b3 b4 b5 b6 b7 u sd wv l hs' rs' sv seen steps → WorldR w w.heap.size h r x → CallsV Tryz.prog 22 #[.agg #[h, r], .int .i64 (f : Nat), .int .i64 (m : Nat), .pointer (some ⟨b3, 0, none⟩), .pointer (some ⟨b4, 0, none⟩), .pointer (some ⟨b5, 0, none⟩), .pointer (some ⟨b6, 0, none⟩), .pointer (some ⟨b7, 0, none⟩)] w fun v w' => Ext w w' ∧ TryR w.heap.size w' v (tryS (apS sd (l.map (·.x)) steps) seen steps.length m x f)) (hE : ExB w B b3 b4 b5 b6 b7 u sd wv l hs' rs' sv seen steps) (hx0 : WorldR w w.heap.size h r x) :
    CallsV Tryz.prog 22 #[.agg #[h, r], .int .i64 (f : Nat), .int .i64 (m + 1 : Nat), .pointer (some ⟨b3, 0, none⟩), .pointer (some ⟨b4, 0, none⟩), .pointer (some ⟨b5, 0, none⟩), .pointer (some ⟨b6, 0, none⟩), .pointer (some ⟨b7, 0, none⟩)] w fun v w' => Ext w w' ∧ TryR w.heap.size w' v (tryS (apS sd (l.map (·.x)) steps) seen steps.length (m + 1) x f) := by
  have hn : Now w := trivial
  have hx : Ext w w := Ext.refl w
  have k4 := hE.k4.bk
  have k5 := hE.k5.bk
  have k6 := hE.k6.bk
  have k7 := hE.k7.bk
  have hx' := hx0.sk (Nat.le_refl _)
  have hX := hx'.2.2.2.2
  have hB := hE.hB
  have hs' := hE.hs.sk hB
  have hl' := hE.hl.sk hB
  have hS := hs'.2.2.2.2.2.2
  have hW := hl'.2.2
  have hst' := hE.hst.k hB
  have bB : Bl B w w := Bl.refl hB
  have bw : Bl w.heap.size w w := Bl.refl (Nat.le_refl _)
  have hEx := fun w' (h : Ext w w') => hE.ext h
  have hcal : callable Tryz.prog 22 = true := by kernel_rfl
  have hm0 : ¬ ((m + 1 : Nat) : Int) = 0 := by omega
  have hm1 : (((m + 1 : Nat) : Int) == 0) = false := by simpa using hm0
  have hne : Hid (steps.length ≤ 12) := h12
  clear hE
  (refine callsV_of Tryz.func22 rfl KR KR ?_; rw [Tryz.results22])
  (repeat' first
    | ((with_reducible refine at_row ?_); refine row1_a fun _ _ _ _ _ _ _ => ?_)
    | with_reducible first | (first | apply alloc_k | apply row_k); intro _ _ _ _ _ _ | (first | apply fork | apply forkp) <;> intro _ | refine forke (fun _ => ?_) fun _ _ => ?_ | refine tail_k fun _ _ _ => ?_ | refine ext_k fun _ _ _ => ?_ | refine need_a ?_ | refine st_agg KR rfl ON fun _ _ _ _ => ?_ | refine wpd_q_a ?_
    | simp (maxDischargeDepth := 3) only [↓X, ↓Y, ↓Q, S1, ↓reduceIte, Nat.reduceEqDiff, Nat.reduceAdd, Int.reduceLT, Int.reduceLE, Int.reduceNeg, Int.reduceBEq, Int.reduceBNe, Int.reduceEq, Nat.reduceLeDiff, Nat.reduceMul, Nat.reduceLT, *, siteC]
    | simp (singlePass := true) (maxDischargeDepth := 99) only [*, S2, Nat.reduceLT, siteC])
  rename_i b8 w8 n8 k8 s8 q8
  have hx8 : Ext w w8 := FR
  refine loop_f f (f + (steps.length - m - f)) (fun g0 k g w' => g 13 = .int .i64 (k : Int) ∧ (g 2 = g0 2 ∧ g 4 = g0 4 ∧ g 5 = g0 5 ∧ g 6 = g0 6 ∧ g 7 = g0 7 ∧ g 8 = g0 8) ∧ Hid (Ext w8 w' ∧ f ≤ k ∧ (List.range' f (k - f)).findSome? (fun i => (apS sd (l.map (·.x)) steps x i).bind fun y => (tryS (apS sd (l.map (·.x)) steps) seen steps.length m y (i + 1)).map (i :: ·)) = none)) KR (by omega) ?_ ?_ ?_
  · (repeat' first
    | ((with_reducible refine at_row ?_); refine row1_a fun _ _ _ _ _ _ _ => ?_)
    | with_reducible first | (first | apply alloc_k | apply row_k); intro _ _ _ _ _ _ | (first | apply fork | apply forkp) <;> intro _ | refine forke (fun _ => ?_) fun _ _ => ?_ | refine tail_k fun _ _ _ => ?_ | refine ext_k fun _ _ _ => ?_ | refine need_a ?_ | refine st_agg KR rfl ON fun _ _ _ _ => ?_ | refine wpd_q_a ?_
    | simp (maxDischargeDepth := 3) only [↓X, ↓Y, ↓Q, S1, ↓reduceIte, Nat.reduceEqDiff, Nat.reduceAdd, Int.reduceLT, Int.reduceLE, Int.reduceNeg, Int.reduceBEq, Int.reduceBNe, Int.reduceEq, Nat.reduceLeDiff, Nat.reduceMul, Nat.reduceLT, *]
    | simp (singlePass := true) (maxDischargeDepth := 99) only [*, S2, Nat.reduceLT])
    exact ⟨Ext.refl _, by simp⟩
  · rintro k mm g wk hk hlt nk ⟨hi, hf, hp⟩
    simp (maxDischargeDepth := 3) only [U, ↓reduceIte, Nat.reduceEqDiff, *] at hf
    obtain ⟨hxk, hfk, hno⟩ := hp.out
    have hkl : k < steps.length := by omega
    have hkm : (k : Int) + (m + 1 : Nat) ≤ (steps.length : Int) := by omega
    have hw1 : IntKind.i64.wrap ((k : Int) + (m + 1 : Nat)) = (k : Int) + (m + 1 : Nat) := by have := hne.out; rw [wrap_i64_id] <;> omega
    have hw2 : IntKind.i64.wrap ((k : Int) + 1) = ((k + 1 : Nat) : Int) := by have := hne.out; rw [wrap_i64_id] <;> omega
    have hw3 : IntKind.i64.wrap (((m + 1 : Nat) : Int) - 1) = (m : Int) := by rw [wrap_i64_id] <;> omega
    have hxwk : Ext w wk := hx8.trans hxk
    have sk8 : St w8 wk := hxk.st
    have rk := Ext.refl wk
    have hwk : w.heap.size ≤ wk.heap.size := hxwk.size
    have hapk : apS sd (l.map (·.x)) steps x k = if applyE sd (l.map (·.x)) x steps[k] = 0 then some (applyW sd (l.map (·.x)) x steps[k]) else none := by simp [apS, List.getElem?_eq_getElem hkl]
    have hAp := fun w' (h1 : Bl B w w') (h2 : Bl w.heap.size w w') (h3 : w.heap.size ≤ w'.heap.size) => stepApply (st := steps[k]) (B := w.heap.size) h3 ((hS w' h1).upE hB) ((hW w' h1).upE hB) (hX w' h2)
    generalize apS sd (l.map (·.x)) steps = ap at *
    generalize applyE sd (l.map (·.x)) x steps[k] = E at *
    generalize applyW sd (l.map (·.x)) x steps[k] = W' at *
    replace hapk : Hid _ := hapk
    replace hno : Hid _ := hno
    clear hp
    (repeat' first
    | ((with_reducible refine wpd_at 6 ?_); refine wpd_hold ?_)
    | ((with_reducible refine at_row ?_); refine row1_a fun _ _ _ _ _ _ _ => ?_)
    | with_reducible first | (first | apply alloc_k | apply row_k); intro _ _ _ _ _ _ | (first | apply fork | apply forkp) <;> intro _ | refine forke (fun _ => ?_) fun _ _ => ?_ | refine tail_k fun _ _ _ => ?_ | refine ext_k fun _ _ _ => ?_ | refine need_a ?_ | refine st_agg KR rfl ON fun _ _ _ _ => ?_ | refine wpd_q_a ?_
    | simp (maxDischargeDepth := 3) only [↓X, ↓Y, ↓Q, S1, ↓reduceIte, Nat.reduceEqDiff, Nat.reduceAdd, Int.reduceLT, Int.reduceLE, Int.reduceNeg, Int.reduceBEq, Int.reduceBNe, Int.reduceEq, Nat.reduceLeDiff, Nat.reduceMul, Nat.reduceLT, *, siteC, stepV, stepC]
    | simp (singlePass := true) (maxDischargeDepth := 99) only [*, S2, Nat.reduceLT, siteC, stepV, stepC])
    unfold wpdH
    refine wpd_relS2 13 [(12, 11)] (fun iI s v w9 => match iI with
      | 0 => v = .agg (siteC u sd).toArray
      | 1 => v = .agg #[wv]
      | 2 => v = .agg #[h, r]
      | 3 => v = sv
      | 4 => v = .int .i64 k
      | 5 => v = elemAt sv 4 k
      | 6 => v = stepV steps[k]
      | 7 => ∃ u, v = .tuple #[u, intV E] ∧ OwnW wk.heap.size u w9 W'
      | 8 => ∃ u, v = .tuple #[u, intV E] ∧ OwnW wk.heap.size u w9 W'
      | 9 => OwnW wk.heap.size v w9 W'
      | 10 => v = intV E
      | 11 => ∃ b, v = .pointer (some ⟨b, 0, none⟩) ∧ (wk.heap.size ≤ b ∧ b < w9.heap.size) ∧ (s = false → Blk w9 b 36 [.slice none 0 0, .slice none 0 0]) ∧ (s = true → ∃ h r, Blk w9 b 36 [h, r] ∧ OwnH w9 wk.heap.size h W'.hosts ∧ OwnP w9 wk.heap.size r W'.replicas)
      | 12 => True
      | _ => False) (fun iI => iI == 11) ?_ KR KR KR KR ?_ ?_ ?_
    · intro iI s v w9 hF hR b hb
      match iI, hF, hR with
      | 0, hF, _ => exact absurd hF (by decide)
      | 1, hF, _ => exact absurd hF (by decide)
      | 2, hF, _ => exact absurd hF (by decide)
      | 3, hF, _ => exact absurd hF (by decide)
      | 4, hF, _ => exact absurd hF (by decide)
      | 5, hF, _ => exact absurd hF (by decide)
      | 6, hF, _ => exact absurd hF (by decide)
      | 7, hF, _ => exact absurd hF (by decide)
      | 8, hF, _ => exact absurd hF (by decide)
      | 9, hF, _ => exact absurd hF (by decide)
      | 10, hF, _ => exact absurd hF (by decide)
      | 11, _, ⟨b2, e, h1, _⟩ => subst e; obtain rfl := Option.some.inj hb; exact h1.2
      | 12, hF, _ => exact absurd hF (by decide)
    · intro iI s v w1 w2 hR hx9
      match iI, hR with
      | 0, h => exact h
      | 1, h => exact h
      | 2, h => exact h
      | 3, h => exact h
      | 4, h => exact h
      | 5, h => exact h
      | 6, h => exact h
      | 7, h => exact (let ⟨u, e, o⟩ := h; ⟨u, e, o.ext hx9⟩)
      | 8, h => exact (let ⟨u, e, o⟩ := h; ⟨u, e, o.ext hx9⟩)
      | 9, h => exact OwnW.ext h hx9
      | 10, h => exact h
      | 11, ⟨b, e, h1, h2, h3⟩ => exact ⟨b, e, ⟨h1.1, Nat.lt_of_lt_of_le h1.2 hx9.size⟩, fun hs => (h2 hs).ext hx9, fun hs => (fun h => (let ⟨a, b, k, o1, o2⟩ := h; ⟨a, b, k.ext hx9, o1.ext hx9, o2.ext hx9⟩)) (h3 hs)⟩
      | 12, h => exact h
    · intro iI oO hi ho gF w9 S9 hx9 hdep hag
      have s9 := hx9.st
      have n9 : Now w9 := trivial
      have r9 := Ext.refl w9
      have z9 := hx9.size
      rcases iI with _|_|_|_|_|_|_|_|_|_|_|_|_|iI
      have e := Option.some.inj ho
      subst e
      have a5 := hag.at 5 KR
      simp only [S5, ↓reduceIte, Nat.reduceEqDiff, initF, *] at a5
      clear hag hdep ho
      refine ⟨fun _ _ => ?_, fun _ hF => absurd hF (by decide), fun a9 pa da hal => by simp [alL] at hal⟩
      refine relStep_off rfl ?_
      rotate_left
      have e := Option.some.inj ho
      subst e
      have a6 := hag.at 6 KR
      simp only [S5, ↓reduceIte, Nat.reduceEqDiff, initF, *] at a6
      clear hag hdep ho
      refine ⟨fun _ _ => ?_, fun _ hF => absurd hF (by decide), fun a9 pa da hal => by simp [alL] at hal⟩
      refine relStep_off rfl ?_
      rotate_left
      have e := Option.some.inj ho
      subst e
      have a8 := hag.at 8 KR
      simp only [S5, ↓reduceIte, Nat.reduceEqDiff, initF, *] at a8
      clear hag hdep ho
      refine ⟨fun _ _ => ?_, fun _ hF => absurd hF (by decide), fun a9 pa da hal => by simp [alL] at hal⟩
      refine relStep_off rfl ?_
      rotate_left
      have e := Option.some.inj ho
      subst e
      have a4 := hag.at 4 KR
      simp only [S5, ↓reduceIte, Nat.reduceEqDiff, initF, *] at a4
      clear hag hdep ho
      refine ⟨fun _ _ => ?_, fun _ hF => absurd hF (by decide), fun a9 pa da hal => by simp [alL] at hal⟩
      refine relStep_off rfl ?_
      rotate_left
      have e := Option.some.inj ho
      subst e
      have a13 := hag.at 13 KR
      simp only [S5, ↓reduceIte, Nat.reduceEqDiff, initF, *] at a13
      clear hag hdep ho
      refine ⟨fun _ _ => ?_, fun _ hF => absurd hF (by decide), fun a9 pa da hal => by simp [alL] at hal⟩
      refine relStep_off rfl ?_
      rotate_left
      have e := Option.some.inj ho
      subst e
      have d3 : (gF 36) = sv := hdep ⟨3, .data⟩ (by simp) rfl _ _ rfl rfl
      have d4 : (gF 37) = .int .i64 k := hdep ⟨4, .data⟩ (by simp) rfl _ _ rfl rfl
      clear hag hdep ho
      refine ⟨fun _ _ => ?_, fun _ hF => absurd hF (by decide), fun a9 pa da hal => by simp [alL] at hal⟩
      refine relStep_off rfl ?_
      rotate_left
      have e := Option.some.inj ho
      subst e
      have d5 : (gF 38) = elemAt sv 4 k := hdep ⟨5, .data⟩ (by simp) rfl _ _ rfl rfl
      clear hag hdep ho
      refine ⟨fun _ _ => ?_, fun _ hF => absurd hF (by decide), fun a9 pa da hal => by simp [alL] at hal⟩
      refine relStep_off rfl ?_
      rotate_left
      have e := Option.some.inj ho
      subst e
      have d0 : (gF 33) = .agg (siteC u sd).toArray := hdep ⟨0, .data⟩ (by simp) rfl _ _ rfl rfl
      have d1 : (gF 34) = .agg #[wv] := hdep ⟨1, .data⟩ (by simp) rfl _ _ rfl rfl
      have d2 : (gF 35) = .agg #[h, r] := hdep ⟨2, .data⟩ (by simp) rfl _ _ rfl rfl
      have d6 : (gF 39) = stepV steps[k] := hdep ⟨6, .data⟩ (by simp) rfl _ _ rfl rfl
      clear hag hdep ho
      refine ⟨fun _ _ => ?_, fun _ hF => absurd hF (by decide), fun a9 pa da hal => by simp [alL] at hal⟩
      refine relStep_off rfl ?_
      rotate_left
      have e := Option.some.inj ho
      subst e
      have d7 : ∃ u, (gF 40) = .tuple #[u, intV E] ∧ OwnW wk.heap.size u w9 W' := hdep ⟨7, .data⟩ (by simp) rfl _ _ rfl rfl
      obtain ⟨u7, e7, o7⟩ := d7
      clear hag hdep ho
      refine ⟨fun _ _ => ?_, fun _ hF => absurd hF (by decide), fun a9 pa da hal => by simp [alL] at hal⟩
      refine relStep_off rfl ?_
      rotate_left
      have e := Option.some.inj ho
      subst e
      have d8 : ∃ u, (gF 32) = .tuple #[u, intV E] ∧ OwnW wk.heap.size u w9 W' := hdep ⟨8, .data⟩ (by simp) rfl _ _ rfl rfl
      obtain ⟨u8, e8, o8⟩ := d8
      clear hag hdep ho
      refine ⟨fun _ _ => ?_, fun _ hF => absurd hF (by decide), fun a9 pa da hal => by simp [alL] at hal⟩
      refine relStep_off rfl ?_
      rotate_left
      have e := Option.some.inj ho
      subst e
      have d8 : ∃ u, (gF 32) = .tuple #[u, intV E] ∧ OwnW wk.heap.size u w9 W' := hdep ⟨8, .data⟩ (by simp) rfl _ _ rfl rfl
      obtain ⟨u8, e8, o8⟩ := d8
      clear hag hdep ho
      refine ⟨fun _ _ => ?_, fun _ hF => absurd hF (by decide), fun a9 pa da hal => by simp [alL] at hal⟩
      refine relStep_off rfl ?_
      rotate_left
      have e := Option.some.inj ho
      subst e
      clear hag hdep ho
      refine ⟨fun _ hF => absurd hF (by decide), fun _ _ => ?_, fun a9 pa da hal => by simp [alL] at hal⟩
      refine relStep_off rfl ?_
      rotate_left
      have e := Option.some.inj ho
      subst e
      have d11 : ∃ b, (gF 14) = .pointer (some ⟨b, 0, none⟩) ∧ (wk.heap.size ≤ b ∧ b < w9.heap.size) ∧ ((S9 11) = false → Blk w9 b 36 [.slice none 0 0, .slice none 0 0]) ∧ ((S9 11) = true → ∃ h r, Blk w9 b 36 [h, r] ∧ OwnH w9 wk.heap.size h W'.hosts ∧ OwnP w9 wk.heap.size r W'.replicas) := hdep ⟨11, .data⟩ (by simp) rfl _ _ rfl rfl
      obtain ⟨b11, e11, ⟨q11, l11⟩, hz11, _⟩ := d11
      have d9 : OwnW wk.heap.size (gF 41) w9 W' := hdep ⟨9, .data⟩ (by simp) rfl _ _ rfl rfl
      obtain ⟨h9, r9', e9, oh9, or9⟩ := d9
      have H9 := oh9.one
      have R9 := or9.one
      clear hag hdep ho
      refine ⟨fun h => by simp [alL] at h, fun h => by simp [alL] at h, fun a9 pa da hal hS9 hpa hda => ?_⟩
      obtain rfl : 11 = a9 := by simpa [alL] using hal
      obtain rfl := Option.some.inj hpa
      obtain rfl := Option.some.inj hda
      have hz := hz11 hS9
      clear hal hpa hda hz11
      refine relStep_off rfl ?_
      rotate_left
      · omega
      all_goals (repeat' first
    | ((with_reducible refine at_row ?_); refine row1_a fun _ _ _ _ _ _ _ => ?_)
    | with_reducible first | (first | apply alloc_k | apply row_k); intro _ _ _ _ _ _ | (first | apply fork | apply forkp) <;> intro _ | refine forke (fun _ => ?_) fun _ _ => ?_ | refine tail_k fun _ _ _ => ?_ | refine ext_k fun _ _ _ => ?_ | refine need_a ?_ | refine st_agg KR rfl ON fun _ _ _ _ => ?_ | refine wpd_q_a ?_
    | simp (maxDischargeDepth := 3) only [↓X, ↓Y, ↓Q, S1, ↓reduceIte, Nat.reduceEqDiff, Nat.reduceAdd, Int.reduceLT, Int.reduceLE, Int.reduceNeg, Int.reduceBEq, Int.reduceBNe, Int.reduceEq, Nat.reduceLeDiff, Nat.reduceMul, Nat.reduceLT, *, siteC, stepV, stepC]
    | simp (singlePass := true) (maxDischargeDepth := 99) only [*, S2, Nat.reduceLT, siteC, stepV, stepC])
      all_goals first
        | (refine CallsV.mono (hAp _ FR FR FR) fun v w10 hh => ⟨hh.1, ?_⟩; obtain ⟨_, u0, rfl, ho⟩ := hh; exact ⟨u0, rfl, ho.more z9⟩)
        | (exact ⟨u7, rfl, o7⟩)
        | (exact o8)
        | (rename_i b10 w10 n10 k10 s10 q10; exact ⟨⟨_, rfl, ⟨FR, FR⟩, fun _ => k10.2.1 _ k10.2.2.1, fun h => absurd h (by decide)⟩, fun b hb => by obtain rfl := Option.some.inj hb; exact FR⟩)
        | (
            refine stT_agg (w0 := w9) (vs := [h9, r9']) hz rfl KR rfl (by simp [H9, R9]) fun w10 hb10 hc => ⟨b11, hc, q11, ⟨b11, (by first | exact e11 | rfl), ⟨q11, Nat.lt_of_lt_of_le l11 hc.size⟩, fun h => absurd h (by decide), fun _ => ⟨h9, r9', hb10, oh9.fr hz hc (.inl (by decide)), or9.fr hz hc (.inl (by decide))⟩⟩, ?_⟩
            intro iI s v hne hN hR
            match iI, hN, hR with
            | 0, _, h | 1, _, h | 2, _, h | 3, _, h | 4, _, h | 5, _, h | 6, _, h | 10, _, h | 12, _, h => exact h
            | 7, _, h => exact (let ⟨u, e, o⟩ := h; ⟨u, e, ownW_frE o hz hc⟩)
            | 8, _, h => exact (let ⟨u, e, o⟩ := h; ⟨u, e, ownW_frE o hz hc⟩)
            | 9, _, h => exact ownW_frE h hz hc
            | 11, _, _ => exact absurd rfl hne)
    · intro g9 w9 hx9 hR hDis hag
      have s9 := hx9.st
      have n9 : Now w9 := trivial
      have r9 := Ext.refl w9
      have z9 := hx9.size
      have d10 : (g9 42) = intV E := hR 10 _ _ (by decide) rfl rfl
      have d11 : ∃ b, (g9 14) = .pointer (some ⟨b, 0, none⟩) ∧ (wk.heap.size ≤ b ∧ b < w9.heap.size) ∧ (true = false → Blk w9 b 36 [.slice none 0 0, .slice none 0 0]) ∧ (true = true → ∃ h r, Blk w9 b 36 [h, r] ∧ OwnH w9 wk.heap.size h W'.hosts ∧ OwnP w9 wk.heap.size r W'.replicas) := hR 11 _ _ (by decide) rfl rfl
      obtain ⟨b11, e11, ⟨q11, _⟩, _, f11⟩ := d11
      replace f11 := f11 rfl
      have nw11 := Nw.of q11
      obtain ⟨hA, rA, kwA, ohA, orA⟩ := f11
      have KWA := kwA.bk
      have HA := ohA.o
      have RA := orA.o
      clear kwA ohA orA
      have a2 := hag.at 2 KR
      have a4 := hag.at 4 KR
      have a5 := hag.at 5 KR
      have a6 := hag.at 6 KR
      have a7 := hag.at 7 KR
      have a8 := hag.at 8 KR
      have a13 := hag.at 13 KR
      simp only [S5, ↓reduceIte, Nat.reduceEqDiff, initF, *] at a2 a4 a5 a6 a7 a8 a13
      clear hag hR hDis
      simp only [List.drop_succ_cons, List.drop_zero]
      by_cases hE0 : E = 0
      · have hapk' : ap x k = some W' := by rw [hapk.out, if_pos hE0]
        replace hapk' : Hid _ := hapk'
        subst hE0
        clear hAp hapk
        have hxw9 : Ext w w9 := hxwk.trans hx9
        (repeat' first
    | ((with_reducible refine at_row ?_); refine row1_a fun _ _ _ _ _ _ _ => ?_)
    | with_reducible first | (first | apply alloc_k | apply row_k); intro _ _ _ _ _ _ | (first | apply fork | apply forkp) <;> intro _ | refine forke (fun _ => ?_) fun _ _ => ?_ | refine tail_k fun _ _ _ => ?_ | refine ext_k fun _ _ _ => ?_ | refine need_a ?_ | refine st_agg KR rfl ON fun _ _ _ _ => ?_ | refine wpd_q_a ?_
    | simp (maxDischargeDepth := 3) only [↓X, ↓Y, ↓Q, S1, ↓reduceIte, Nat.reduceEqDiff, Nat.reduceAdd, Int.reduceLT, Int.reduceLE, Int.reduceNeg, Int.reduceBEq, Int.reduceBNe, Int.reduceEq, Nat.reduceLeDiff, Nat.reduceMul, Nat.reduceLT, *, tryV]
    | simp (singlePass := true) (maxDischargeDepth := 99) only [*, S2, Nat.reduceLT, tryV])
        refine call_k (ih (k + 1) (by omega) (hEx _ hxw9) ⟨(HA.1 _ FR).slN (f := stateC), (RA.1 _ FR).slN (f := replC)⟩) ?_
        rintro res wr nr sr hres
        have hxr : Ext w9 wr := FR
        cases ht : tryS ap seen steps.length m W' (k + 1) with
        | none =>
          rw [ht] at hres
          obtain rfl := hres
          have hno' := try_none hfk hno.out (show (ap x k).bind (fun y => (tryS ap seen steps.length m y (k + 1)).map (k :: ·)) = none by rw [hapk'.out]; simp [ht])
          replace hno' : Hid _ := hno'
          clear hEx ih
          (repeat' first
    | ((with_reducible refine at_row ?_); refine row1_a fun _ _ _ _ _ _ _ => ?_)
    | with_reducible first | (first | apply alloc_k | apply row_k); intro _ _ _ _ _ _ | (first | apply fork | apply forkp) <;> intro _ | refine forke (fun _ => ?_) fun _ _ => ?_ | refine tail_k fun _ _ _ => ?_ | refine ext_k fun _ _ _ => ?_ | refine need_a ?_ | refine st_agg KR rfl ON fun _ _ _ _ => ?_ | refine wpd_q_a ?_
    | simp (maxDischargeDepth := 3) only [↓X, ↓Y, ↓Q, S1, ↓reduceIte, Nat.reduceEqDiff, Nat.reduceAdd, Int.reduceLT, Int.reduceLE, Int.reduceNeg, Int.reduceBEq, Int.reduceBNe, Int.reduceEq, Nat.reduceLeDiff, Nat.reduceMul, Nat.reduceLT, *]
    | simp (singlePass := true) (maxDischargeDepth := 99) only [*, S2, Nat.reduceLT])
          refine next_g hk hlt ?_
          (repeat' first
    | ((with_reducible refine at_row ?_); refine row1_a fun _ _ _ _ _ _ _ => ?_)
    | with_reducible first | (first | apply alloc_k | apply row_k); intro _ _ _ _ _ _ | (first | apply fork | apply forkp) <;> intro _ | refine forke (fun _ => ?_) fun _ _ => ?_ | refine tail_k fun _ _ _ => ?_ | refine ext_k fun _ _ _ => ?_ | refine need_a ?_ | refine st_agg KR rfl ON fun _ _ _ _ => ?_ | refine wpd_q_a ?_
    | simp (maxDischargeDepth := 3) only [↓X, ↓Y, ↓Q, S1, ↓reduceIte, Nat.reduceEqDiff, Nat.reduceAdd, Int.reduceLT, Int.reduceLE, Int.reduceNeg, Int.reduceBEq, Int.reduceBNe, Int.reduceEq, Nat.reduceLeDiff, Nat.reduceMul, Nat.reduceLT, *]
    | simp (singlePass := true) (maxDischargeDepth := 99) only [*, S2, Nat.reduceLT])
          exact ⟨by omega, hno'.out⟩
        | some rest =>
          rw [ht] at hres
          obtain ⟨ur, rfl, hr⟩ := hres
          have hfin := try_found (seen := seen) hfk hlt hno.out hapk'.out ht
          rw [hfin]
          have Rr := hr.o
          have rone := hr.one
          have hrl : rest.length ≤ 13 := try_len hm ht
          have hxwr : Ext w wr := hxw9.trans hxr
          clear hEx ih
          (repeat' first
    | ((with_reducible refine at_row ?_); refine row1_a fun _ _ _ _ _ _ _ => ?_)
    | with_reducible first | (first | apply alloc_k | apply row_k); intro _ _ _ _ _ _ | (first | apply fork | apply forkp) <;> intro _ | refine forke (fun _ => ?_) fun _ _ => ?_ | refine tail_k fun _ _ _ => ?_ | refine ext_k fun _ _ _ => ?_ | refine need_a ?_ | refine st_agg KR rfl ON fun _ _ _ _ => ?_ | refine wpd_q_a ?_
    | simp (maxDischargeDepth := 3) only [↓X, ↓Y, ↓Q, S1, ↓reduceIte, Nat.reduceEqDiff, Nat.reduceAdd, Int.reduceLT, Int.reduceLE, Int.reduceNeg, Int.reduceBEq, Int.reduceBNe, Int.reduceEq, Nat.reduceLeDiff, Nat.reduceMul, Nat.reduceLT, *]
    | simp (singlePass := true) (maxDischargeDepth := 99) only [*, S2, Nat.reduceLT])
          rename_i bq wq nq kq sq qq slq
          have hwwq : w.heap.size ≤ bq := FR
          refine appN (B := w.heap.size) (l := [k]) (r := rest) (Own.ofBlkN (cs := [nC k]) rfl (kq.2.1 _ FR) (by intro c hc; obtain rfl := List.mem_singleton.1 hc; rfl) hwwq (by simp)) (Rr.1 _ FR) (by simp; omega) FR fun v' wz nz sz hown => ?_
          (repeat' first
    | ((with_reducible refine at_row ?_); refine row1_a fun _ _ _ _ _ _ _ => ?_)
    | with_reducible first | (first | apply alloc_k | apply row_k); intro _ _ _ _ _ _ | (first | apply fork | apply forkp) <;> intro _ | refine forke (fun _ => ?_) fun _ _ => ?_ | refine tail_k fun _ _ _ => ?_ | refine ext_k fun _ _ _ => ?_ | refine need_a ?_ | refine st_agg KR rfl ON fun _ _ _ _ => ?_ | refine wpd_q_a ?_
    | simp (maxDischargeDepth := 3) only [↓X, ↓Y, ↓Q, S1, ↓reduceIte, Nat.reduceEqDiff, Nat.reduceAdd, Int.reduceLT, Int.reduceLE, Int.reduceNeg, Int.reduceBEq, Int.reduceBNe, Int.reduceEq, Nat.reduceLeDiff, Nat.reduceMul, Nat.reduceLT, *]
    | simp (singlePass := true) (maxDischargeDepth := 99) only [*, S2, Nat.reduceLT])
          exact ⟨_, rfl, hown⟩
      · have hapk' : ap x k = none := by rw [hapk.out, if_neg hE0]
        have hE1 : (E == 0) = false := by simpa using hE0
        have hno' := try_none (seen := seen) (n := steps.length) (m := m) hfk hno.out (by rw [hapk']; rfl)
        replace hno' : Hid _ := hno'
        clear hAp hapk hEx ih
        (repeat' first
    | ((with_reducible refine at_row ?_); refine row1_a fun _ _ _ _ _ _ _ => ?_)
    | with_reducible first | (first | apply alloc_k | apply row_k); intro _ _ _ _ _ _ | (first | apply fork | apply forkp) <;> intro _ | refine forke (fun _ => ?_) fun _ _ => ?_ | refine tail_k fun _ _ _ => ?_ | refine ext_k fun _ _ _ => ?_ | refine need_a ?_ | refine st_agg KR rfl ON fun _ _ _ _ => ?_ | refine wpd_q_a ?_
    | simp (maxDischargeDepth := 3) only [↓X, ↓Y, ↓Q, S1, ↓reduceIte, Nat.reduceEqDiff, Nat.reduceAdd, Int.reduceLT, Int.reduceLE, Int.reduceNeg, Int.reduceBEq, Int.reduceBNe, Int.reduceEq, Nat.reduceLeDiff, Nat.reduceMul, Nat.reduceLT, *]
    | simp (singlePass := true) (maxDischargeDepth := 99) only [*, S2, Nat.reduceLT])
        refine next_g hk hlt ?_
        (repeat' first
    | ((with_reducible refine at_row ?_); refine row1_a fun _ _ _ _ _ _ _ => ?_)
    | with_reducible first | (first | apply alloc_k | apply row_k); intro _ _ _ _ _ _ | (first | apply fork | apply forkp) <;> intro _ | refine forke (fun _ => ?_) fun _ _ => ?_ | refine tail_k fun _ _ _ => ?_ | refine ext_k fun _ _ _ => ?_ | refine need_a ?_ | refine st_agg KR rfl ON fun _ _ _ _ => ?_ | refine wpd_q_a ?_
    | simp (maxDischargeDepth := 3) only [↓X, ↓Y, ↓Q, S1, ↓reduceIte, Nat.reduceEqDiff, Nat.reduceAdd, Int.reduceLT, Int.reduceLE, Int.reduceNeg, Int.reduceBEq, Int.reduceBNe, Int.reduceEq, Nat.reduceLeDiff, Nat.reduceMul, Nat.reduceLT, *]
    | simp (singlePass := true) (maxDischargeDepth := 99) only [*, S2, Nat.reduceLT])
        exact ⟨by omega, hno'.out⟩
  · rintro g wk nk ⟨hi, hf, hp⟩
    simp (maxDischargeDepth := 3) only [U, ↓reduceIte, Nat.reduceEqDiff, *] at hf
    obtain ⟨hxk, hfk, hno⟩ := hp.out
    have sk8 : St w8 wk := hxk.st
    have hfin : tryS (apS sd (l.map (·.x)) steps) seen steps.length (m + 1) x f = none := by
      unfold tryS
      rw [Nat.add_sub_cancel_left] at hno
      exact hno
    rw [hfin]
    have hkm : ¬ ((f + (steps.length - m - f) : Nat) : Int) + (m + 1 : Nat) ≤ (steps.length : Int) := by omega
    have hw1 : IntKind.i64.wrap (((f + (steps.length - m - f) : Nat) : Int) + (m + 1 : Nat)) = ((f + (steps.length - m - f) : Nat) : Int) + (m + 1 : Nat) := by have := hne.out; rw [wrap_i64_id] <;> omega
    have hxwk : Ext w wk := hx8.trans hxk
    clear hEx ih hno hp
    (repeat' first
    | ((with_reducible refine at_row ?_); refine row1_a fun _ _ _ _ _ _ _ => ?_)
    | with_reducible first | (first | apply alloc_k | apply row_k); intro _ _ _ _ _ _ | (first | apply fork | apply forkp) <;> intro _ | refine forke (fun _ => ?_) fun _ _ => ?_ | refine tail_k fun _ _ _ => ?_ | refine ext_k fun _ _ _ => ?_ | refine need_a ?_ | refine st_agg KR rfl ON fun _ _ _ _ => ?_ | refine wpd_q_a ?_
    | simp (maxDischargeDepth := 3) only [↓X, ↓Y, ↓Q, S1, ↓reduceIte, Nat.reduceEqDiff, Nat.reduceAdd, Int.reduceLT, Int.reduceLE, Int.reduceNeg, Int.reduceBEq, Int.reduceBNe, Int.reduceEq, Nat.reduceLeDiff, Nat.reduceMul, Nat.reduceLT, *]
    | simp (singlePass := true) (maxDischargeDepth := 99) only [*, S2, Nat.reduceLT])
    rfl
end
end Go.Proofs.YtmcdgepfhpakiaaGreat
/- The layer drift: Explain. -/
namespace Go.Proofs.YtmcdgepfhpakiaaGreat
set_option linter.unusedSimpArgs false
set_option linter.unusedVariables false
open Go Go.RowKit
set_option maxRecDepth 100000
set_option linter.unusedSectionVars false
set_option maxHeartbeats 2000000
def askB (s : SiteD) (wl : List ServiceD) (x : WorldD) (steps : List StepD) (seen : WorldD) : Bool := validB s wl x && validB s wl seen && decide (steps.length ≤ 12) && steps.all (stepB2 s wl)
/-- What Explain hands back. -/
def ExplR (B : Nat) (w' : World) (v : Value) (ok : Bool) (o : Option (List Nat)) : Prop := if ok = true then (match o with
  | some l => ∃ u, v = .tuple #[u, intV 0] ∧ OwnN w' B u l
  | none => v = .tuple #[.slice none 0 0, intV 7]) else v = .tuple #[.slice none 0 0, intV 1]
section
variable {w : World} {B b3 b4 b5 b6 b7 : Nat} {u : SiteVs} {sd : SiteD} {wv : Value} {l : List SrvV} {hs' rs' sv h r hv rv : Value} {seen x : WorldD} {steps : List StepD}
theorem driftTry (h12 : steps.length ≤ 12) : ∀ (m : Nat), m ≤ 13 → ∀ {w : World} {h r : Value} {x : WorldD} (f : Nat), f ≤ 13 → ExB w B b3 b4 b5 b6 b7 u sd wv l hs' rs' sv seen steps → WorldR w w.heap.size h r x →
    CallsV Tryz.prog 22 #[.agg #[h, r], .int .i64 (f : Nat), .int .i64 (m : Nat), .pointer (some ⟨b3, 0, none⟩), .pointer (some ⟨b4, 0, none⟩), .pointer (some ⟨b5, 0, none⟩), .pointer (some ⟨b6, 0, none⟩), .pointer (some ⟨b7, 0, none⟩)] w fun v w' => Ext w w' ∧ TryR w.heap.size w' v (tryS (apS sd (l.map (·.x)) steps) seen steps.length m x f)
  | 0, _, _, _, _, _, f, _, hE, hx0 => driftTry0 f hE hx0
  | m + 1, hm, _, _, _, _, f, hf, hE, hx0 => driftTryS h12 m f (by omega) hf (fun f hf hE hx => driftTry h12 m (by omega) f hf hE hx) hE hx0
theorem driftWrong {b1 b2 : Nat} {st : StepD} (hB : B ≤ w.heap.size) (hs : SiteR w B u sd) (hl : WishR w B wv l) (h1 : Blk w b1 29 (siteC u sd)) (h2 : Blk w b2 32 [wv]) : Ret Tryz.prog 18 #[stepV st, .pointer (some ⟨b1, 0, none⟩), .pointer (some ⟨b2, 0, none⟩)] w (.bool (!stepB sd (l.map (·.x)) st)) := by
  have hn : Now w := trivial
  have hx : Ext w w := Ext.refl w
  have k1 := h1.bk
  have k2 := h2.bk
  have hs' := hs.sk hB
  have hl' := hl.sk hB
  have hS := hs'.2.2.2.2.2.2
  have hW := hl'.2.2
  have bB : Bl B w w := Bl.refl hB
  (refine callsV_of Tryz.func18 rfl KR KR ?_; rw [Tryz.results18])
  (repeat' first
    | ((with_reducible refine at_row ?_); refine row1_a fun _ _ _ _ _ _ _ => ?_)
    | with_reducible first | (first | apply alloc_k | apply row_k); intro _ _ _ _ _ _ | (first | apply fork | apply forkp) <;> intro _ | refine forke (fun _ => ?_) fun _ _ => ?_ | refine tail_k fun _ _ _ => ?_ | refine ext_k fun _ _ _ => ?_ | refine need_a ?_ | refine st_agg KR rfl ON fun _ _ _ _ => ?_ | refine wpd_q_a ?_
    | ((with_reducible refine at_f 19 ?_); refine ret_k (stepValid (B := B) (st := st) FR (hS _ FR) (hW _ FR)) fun _ _ _ => ?_)
    | simp (maxDischargeDepth := 3) only [↓X, ↓Y, ↓Q, S1, ↓reduceIte, Nat.reduceEqDiff, Nat.reduceAdd, Int.reduceLT, Int.reduceLE, Int.reduceNeg, Int.reduceBEq, Int.reduceBNe, Int.reduceEq, Nat.reduceLeDiff, Nat.reduceMul, Nat.reduceLT, *, siteC, stepV, stepC]
    | simp (singlePass := true) (maxDischargeDepth := 99) only [*, S2, Nat.reduceLT, siteC, stepV, stepC])
theorem driftExplain (hB : B ≤ w.heap.size) (hs : SiteR w B u sd) (hl : WishR w B wv l) (hx0 : WorldR w B hv rv x) (hst : Sl w B (some 4) 4 sv (steps.map stepV)) (hy0 : WorldR w B hs' rs' seen) : CallsV Tryz.prog 7 #[.agg (siteC u sd).toArray, .agg #[wv], .agg #[hv, rv], sv, .agg #[hs', rs']] w fun v w' => Ext w w' ∧ ExplR w.heap.size w' v (askB sd (l.map (·.x)) x steps seen) (explS (apS sd (l.map (·.x)) steps) seen steps.length x) := by
  have hn : Now w := trivial
  have hx : Ext w w := Ext.refl w
  have hsk := hs.sk hB
  have hlk := hl.sk hB
  have hx' := hx0.sk hB
  have hy' := hy0.sk hB
  have hS := hsk.2.2.2.2.2.2
  have hW := hlk.2.2
  have hX := hx'.2.2.2.2
  have hY := hy'.2.2.2.2
  have hq := hst.k hB
  have hQ := fun w' (h : Bl B w w') => hst.bl h
  have bB : Bl B w w := Bl.refl hB
  have hcal1 : callable Tryz.prog 18 = true := by kernel_rfl
  have hcal2 : callable Tryz.prog 22 = true := by kernel_rfl
  cases c1 : validB sd (l.map (·.x)) x
  · have e : askB sd (l.map (·.x)) x steps seen = false := by simp [askB, c1]
    rw [e]
    (refine callsV_of Tryz.func7 rfl KR KR ?_; rw [Tryz.results7])
    (repeat' first
    | ((with_reducible refine at_row ?_); refine row1_a fun _ _ _ _ _ _ _ => ?_)
    | with_reducible first | (first | apply alloc_k | apply row_k); intro _ _ _ _ _ _ | (first | apply fork | apply forkp) <;> intro _ | refine forke (fun _ => ?_) fun _ _ => ?_ | refine tail_k fun _ _ _ => ?_ | refine ext_k fun _ _ _ => ?_ | refine need_a ?_ | refine st_agg KR rfl ON fun _ _ _ _ => ?_ | refine wpd_q_a ?_
    | ((with_reducible refine at_f 20 ?_); refine ret_k (worldValid (B := B) (x := x) FR (hS _ FR) (hW _ FR) (hX _ FR)) fun _ _ _ => ?_)
    | simp (maxDischargeDepth := 3) only [↓X, ↓Y, ↓Q, S1, ↓reduceIte, Nat.reduceEqDiff, Nat.reduceAdd, Int.reduceLT, Int.reduceLE, Int.reduceNeg, Int.reduceBEq, Int.reduceBNe, Int.reduceEq, Nat.reduceLeDiff, Nat.reduceMul, Nat.reduceLT, *, siteC]
    | simp (singlePass := true) (maxDischargeDepth := 99) only [*, S2, Nat.reduceLT, siteC])
    rfl
  cases c2 : validB sd (l.map (·.x)) seen
  · have e : askB sd (l.map (·.x)) x steps seen = false := by simp [askB, c2]
    rw [e]
    (refine callsV_of Tryz.func7 rfl KR KR ?_; rw [Tryz.results7])
    (repeat' first
    | ((with_reducible refine at_row ?_); refine row1_a fun _ _ _ _ _ _ _ => ?_)
    | with_reducible first | (first | apply alloc_k | apply row_k); intro _ _ _ _ _ _ | (first | apply fork | apply forkp) <;> intro _ | refine forke (fun _ => ?_) fun _ _ => ?_ | refine tail_k fun _ _ _ => ?_ | refine ext_k fun _ _ _ => ?_ | refine need_a ?_ | refine st_agg KR rfl ON fun _ _ _ _ => ?_ | refine wpd_q_a ?_
    | ((with_reducible refine at_f 20 ?_); refine ret_k (worldValid (B := B) (x := x) FR (hS _ FR) (hW _ FR) (hX _ FR)) fun _ _ _ => ?_)
    | ((with_reducible refine at_f 20 ?_); refine ret_k (worldValid (B := B) (x := seen) FR (hS _ FR) (hW _ FR) (hY _ FR)) fun _ _ _ => ?_)
    | simp (maxDischargeDepth := 3) only [↓X, ↓Y, ↓Q, S1, ↓reduceIte, Nat.reduceEqDiff, Nat.reduceAdd, Int.reduceLT, Int.reduceLE, Int.reduceNeg, Int.reduceBEq, Int.reduceBNe, Int.reduceEq, Nat.reduceLeDiff, Nat.reduceMul, Nat.reduceLT, *, siteC]
    | simp (singlePass := true) (maxDischargeDepth := 99) only [*, S2, Nat.reduceLT, siteC])
    rfl
  by_cases c3 : (12 : Int) < steps.length
  · have e : askB sd (l.map (·.x)) x steps seen = false := by
      have : ¬ steps.length ≤ 12 := by omega
      simp [askB, this]
    rw [e]
    (refine callsV_of Tryz.func7 rfl KR KR ?_; rw [Tryz.results7])
    (repeat' first
    | ((with_reducible refine at_row ?_); refine row1_a fun _ _ _ _ _ _ _ => ?_)
    | with_reducible first | (first | apply alloc_k | apply row_k); intro _ _ _ _ _ _ | (first | apply fork | apply forkp) <;> intro _ | refine forke (fun _ => ?_) fun _ _ => ?_ | refine tail_k fun _ _ _ => ?_ | refine ext_k fun _ _ _ => ?_ | refine need_a ?_ | refine st_agg KR rfl ON fun _ _ _ _ => ?_ | refine wpd_q_a ?_
    | ((with_reducible refine at_f 20 ?_); refine ret_k (worldValid (B := B) (x := x) FR (hS _ FR) (hW _ FR) (hX _ FR)) fun _ _ _ => ?_)
    | ((with_reducible refine at_f 20 ?_); refine ret_k (worldValid (B := B) (x := seen) FR (hS _ FR) (hW _ FR) (hY _ FR)) fun _ _ _ => ?_)
    | simp (maxDischargeDepth := 3) only [↓X, ↓Y, ↓Q, S1, ↓reduceIte, Nat.reduceEqDiff, Nat.reduceAdd, Int.reduceLT, Int.reduceLE, Int.reduceNeg, Int.reduceBEq, Int.reduceBNe, Int.reduceEq, Nat.reduceLeDiff, Nat.reduceMul, Nat.reduceLT, *, siteC]
    | simp (singlePass := true) (maxDischargeDepth := 99) only [*, S2, Nat.reduceLT, siteC])
    rfl
  have h12 : steps.length ≤ 12 := by omega
  have e : askB sd (l.map (·.x)) x steps seen = steps.all (stepB sd (l.map (·.x))) := by
    have : stepB sd (l.map (·.x)) = stepB2 sd (l.map (·.x)) := by funext st; exact stepB_eq
    rw [this]
    simp [askB, c1, c2, h12]
  rw [e]
  replace e : Hid _ := e
  (refine callsV_of Tryz.func7 rfl KR KR ?_; rw [Tryz.results7])
  (repeat' first
    | ((with_reducible refine at_row ?_); refine row1_a fun _ _ _ _ _ _ _ => ?_)
    | with_reducible first | (first | apply alloc_k | apply row_k); intro _ _ _ _ _ _ | (first | apply fork | apply forkp) <;> intro _ | refine forke (fun _ => ?_) fun _ _ => ?_ | refine tail_k fun _ _ _ => ?_ | refine ext_k fun _ _ _ => ?_ | refine need_a ?_ | refine st_agg KR rfl ON fun _ _ _ _ => ?_ | refine wpd_q_a ?_
    | ((with_reducible refine at_f 20 ?_); refine ret_k (worldValid (B := B) (x := x) FR (hS _ FR) (hW _ FR) (hX _ FR)) fun _ _ _ => ?_)
    | ((with_reducible refine at_f 20 ?_); refine ret_k (worldValid (B := B) (x := seen) FR (hS _ FR) (hW _ FR) (hY _ FR)) fun _ _ _ => ?_)
    | simp (maxDischargeDepth := 3) only [↓X, ↓Y, ↓Q, S1, ↓reduceIte, Nat.reduceEqDiff, Nat.reduceAdd, Int.reduceLT, Int.reduceLE, Int.reduceNeg, Int.reduceBEq, Int.reduceBNe, Int.reduceEq, Nat.reduceLeDiff, Nat.reduceMul, Nat.reduceLT, *, siteC]
    | simp (singlePass := true) (maxDischargeDepth := 99) only [*, S2, Nat.reduceLT, siteC])
  rename_i b5 w5 n5 k5 s5 q5 b6 w6 n6 k6 s6 q6 b7 w7 n7 k7 s7 q7 b8 w8 n8 k8 s8 q8 b9 w9 n9 k9 s9 q9 wa na sa wb nb sb
  have K5 := k5.2.1 wb FR
  have K6 := k6.2.1 wb FR
  have bBb : Bl B w wb := FR
  have hBb : B ≤ wb.heap.size := FR
  have hwc : ∀ st ∈ steps, ∀ w', Ext wb w' → Ret Tryz.prog 18 (stepV st :: [.pointer (some ⟨b5, 0, none⟩), .pointer (some ⟨b6, 0, none⟩)]).toArray w' (.bool (!stepB sd (l.map (·.x)) st)) := fun st _ w' hx' =>
    driftWrong (B := B) (Nat.le_trans hBb hx'.size) (hS w' (bBb.ext hx')) (hW w' (bBb.ext hx')) (K5.ext hx') (K6.ext hx')
  refine ret_k (containsNot_Step hBb (hQ wb bBb) hcal1 hwc) ?_
  intro wc nc sc
  clear hwc K5 K6
  cases c4 : steps.all (stepB sd (l.map (·.x)))
  · (repeat' first
    | ((with_reducible refine at_row ?_); refine row1_a fun _ _ _ _ _ _ _ => ?_)
    | with_reducible first | (first | apply alloc_k | apply row_k); intro _ _ _ _ _ _ | (first | apply fork | apply forkp) <;> intro _ | refine forke (fun _ => ?_) fun _ _ => ?_ | refine tail_k fun _ _ _ => ?_ | refine ext_k fun _ _ _ => ?_ | refine need_a ?_ | refine st_agg KR rfl ON fun _ _ _ _ => ?_ | refine wpd_q_a ?_
    | simp (maxDischargeDepth := 3) only [↓X, ↓Y, ↓Q, S1, ↓reduceIte, Nat.reduceEqDiff, Nat.reduceAdd, Int.reduceLT, Int.reduceLE, Int.reduceNeg, Int.reduceBEq, Int.reduceBNe, Int.reduceEq, Nat.reduceLeDiff, Nat.reduceMul, Nat.reduceLT, *]
    | simp (singlePass := true) (maxDischargeDepth := 99) only [*, S2, Nat.reduceLT])
    rfl
  · (repeat' first
    | ((with_reducible refine at_row ?_); refine row1_a fun _ _ _ _ _ _ _ => ?_)
    | with_reducible first | (first | apply alloc_k | apply row_k); intro _ _ _ _ _ _ | (first | apply fork | apply forkp) <;> intro _ | refine forke (fun _ => ?_) fun _ _ => ?_ | refine tail_k fun _ _ _ => ?_ | refine ext_k fun _ _ _ => ?_ | refine need_a ?_ | refine st_agg KR rfl ON fun _ _ _ _ => ?_ | refine wpd_q_a ?_
    | simp (maxDischargeDepth := 3) only [↓X, ↓Y, ↓Q, S1, ↓reduceIte, Nat.reduceEqDiff, Nat.reduceAdd, Int.reduceLT, Int.reduceLE, Int.reduceNeg, Int.reduceBEq, Int.reduceBNe, Int.reduceEq, Nat.reduceLeDiff, Nat.reduceMul, Nat.reduceLT, *]
    | simp (singlePass := true) (maxDischargeDepth := 99) only [*, S2, Nat.reduceLT])
    rename_i bt wt nt kt st qt
    refine st_one (i := 0) KR (by simp) rfl fun wv' nv kv sv' => ?_
    simp only [List.set_cons_zero] at kv
    have hxw : Ext w wv' := FR
    have hEB : ExB wv' B b9 b8 b5 b6 bt u sd wv l hs' rs' sv seen steps := ⟨FR, k9.2.1 _ FR, k8.2.1 _ FR, k5.2.1 _ FR, k6.2.1 _ FR, kv.2.1 _ FR, hS _ FR, hW _ FR, hY _ FR, hQ _ FR⟩
    have hw0 : IntKind.i64.wrap ((steps.length : Int) + 1) = ((steps.length + 1 : Nat) : Int) := by rw [wrap_i64_id] <;> omega
    have hEx := fun w' (h : Ext wv' w') => hEB.ext h
    clear hEB
    (repeat' first
    | ((with_reducible refine at_row ?_); refine row1_a fun _ _ _ _ _ _ _ => ?_)
    | with_reducible first | (first | apply alloc_k | apply row_k); intro _ _ _ _ _ _ | (first | apply fork | apply forkp) <;> intro _ | refine forke (fun _ => ?_) fun _ _ => ?_ | refine tail_k fun _ _ _ => ?_ | refine ext_k fun _ _ _ => ?_ | refine need_a ?_ | refine st_agg KR rfl ON fun _ _ _ _ => ?_ | refine wpd_q_a ?_
    | simp (maxDischargeDepth := 3) only [↓X, ↓Y, ↓Q, S1, ↓reduceIte, Nat.reduceEqDiff, Nat.reduceAdd, Int.reduceLT, Int.reduceLE, Int.reduceNeg, Int.reduceBEq, Int.reduceBNe, Int.reduceEq, Nat.reduceLeDiff, Nat.reduceMul, Nat.reduceLT, *]
    | simp (singlePass := true) (maxDischargeDepth := 99) only [*, S2, Nat.reduceLT])
    refine loop_f 0 (steps.length + 1) (fun g0 k g w' => g 44 = .int .i64 (k : Int) ∧ (g 7 = g0 7 ∧ g 13 = g0 13 ∧ g 43 = g0 43) ∧ Hid (Ext wv' w' ∧ (List.range k).findSome? (fun m => tryS (apS sd (l.map (·.x)) steps) seen steps.length m x 0) = none)) KR (by omega) ?_ ?_ ?_
    · (repeat' first
    | ((with_reducible refine at_row ?_); refine row1_a fun _ _ _ _ _ _ _ => ?_)
    | with_reducible first | (first | apply alloc_k | apply row_k); intro _ _ _ _ _ _ | (first | apply fork | apply forkp) <;> intro _ | refine forke (fun _ => ?_) fun _ _ => ?_ | refine tail_k fun _ _ _ => ?_ | refine ext_k fun _ _ _ => ?_ | refine need_a ?_ | refine st_agg KR rfl ON fun _ _ _ _ => ?_ | refine wpd_q_a ?_
    | simp (maxDischargeDepth := 3) only [↓X, ↓Y, ↓Q, S1, ↓reduceIte, Nat.reduceEqDiff, Nat.reduceAdd, Int.reduceLT, Int.reduceLE, Int.reduceNeg, Int.reduceBEq, Int.reduceBNe, Int.reduceEq, Nat.reduceLeDiff, Nat.reduceMul, Nat.reduceLT, *]
    | simp (singlePass := true) (maxDischargeDepth := 99) only [*, S2, Nat.reduceLT])
      all_goals exact ⟨Ext.refl _, rfl⟩
    · rintro k mm g wk hk hlt nk ⟨hi, hf, hp⟩
      simp (maxDischargeDepth := 3) only [U, ↓reduceIte, Nat.reduceEqDiff, *] at hf
      obtain ⟨hxk, hno⟩ := hp.out
      have sk : St wv' wk := hxk.st
      have rk := Ext.refl wk
      have hw1 : IntKind.i64.wrap ((k : Int) + 1) = ((k + 1 : Nat) : Int) := by rw [wrap_i64_id] <;> omega
      have hlt' : (k : Int) < ((steps.length + 1 : Nat) : Int) := by omega
      have hxwk : Ext w wk := hxw.trans hxk
      replace hno : Hid _ := hno
      clear hp
      (repeat' first
    | ((with_reducible refine at_row ?_); refine row1_a fun _ _ _ _ _ _ _ => ?_)
    | with_reducible first | (first | apply alloc_k | apply row_k); intro _ _ _ _ _ _ | (first | apply fork | apply forkp) <;> intro _ | refine forke (fun _ => ?_) fun _ _ => ?_ | refine tail_k fun _ _ _ => ?_ | refine ext_k fun _ _ _ => ?_ | refine need_a ?_ | refine st_agg KR rfl ON fun _ _ _ _ => ?_ | refine wpd_q_a ?_
    | simp (maxDischargeDepth := 3) only [↓X, ↓Y, ↓Q, S1, ↓reduceIte, Nat.reduceEqDiff, Nat.reduceAdd, Int.reduceLT, Int.reduceLE, Int.reduceNeg, Int.reduceBEq, Int.reduceBNe, Int.reduceEq, Nat.reduceLeDiff, Nat.reduceMul, Nat.reduceLT, *, tryV]
    | simp (singlePass := true) (maxDischargeDepth := 99) only [*, S2, Nat.reduceLT, tryV])
      have hBk : B ≤ wk.heap.size := FR
      have hXk := hX wk FR
      refine call_k (driftTry h12 k (by omega) 0 (by omega) (hEx _ hxk) ⟨hXk.h.more hBk, hXk.r.more hBk⟩) ?_
      rintro res wr nr sr hres
      have hxr : Ext wk wr := FR
      have hwk : w.heap.size ≤ wk.heap.size := hxwk.size
      have hxwr : Ext w wr := hxwk.trans hxr
      clear hEx hXk
      have er := List.findSome?_append (xs := List.range k) (ys := [k]) (f := fun m => tryS (apS sd (l.map (·.x)) steps) seen steps.length m x 0)
      rw [hno.out, Option.none_or, ← List.range_succ] at er
      cases ht : tryS (apS sd (l.map (·.x)) steps) seen steps.length k x 0 with
      | none =>
        rw [ht] at hres
        obtain rfl := hres
        have er' : (List.range (k + 1)).findSome? (fun m => tryS (apS sd (l.map (·.x)) steps) seen steps.length m x 0) = none := by rw [er]; simp [ht]
        replace er' : Hid _ := er'
        clear er
        (repeat' first
    | ((with_reducible refine at_row ?_); refine row1_a fun _ _ _ _ _ _ _ => ?_)
    | with_reducible first | (first | apply alloc_k | apply row_k); intro _ _ _ _ _ _ | (first | apply fork | apply forkp) <;> intro _ | refine forke (fun _ => ?_) fun _ _ => ?_ | refine tail_k fun _ _ _ => ?_ | refine ext_k fun _ _ _ => ?_ | refine need_a ?_ | refine st_agg KR rfl ON fun _ _ _ _ => ?_ | refine wpd_q_a ?_
    | simp (maxDischargeDepth := 3) only [↓X, ↓Y, ↓Q, S1, ↓reduceIte, Nat.reduceEqDiff, Nat.reduceAdd, Int.reduceLT, Int.reduceLE, Int.reduceNeg, Int.reduceBEq, Int.reduceBNe, Int.reduceEq, Nat.reduceLeDiff, Nat.reduceMul, Nat.reduceLT, *]
    | simp (singlePass := true) (maxDischargeDepth := 99) only [*, S2, Nat.reduceLT])
        refine next_g hk hlt ?_
        (repeat' first
    | ((with_reducible refine at_row ?_); refine row1_a fun _ _ _ _ _ _ _ => ?_)
    | with_reducible first | (first | apply alloc_k | apply row_k); intro _ _ _ _ _ _ | (first | apply fork | apply forkp) <;> intro _ | refine forke (fun _ => ?_) fun _ _ => ?_ | refine tail_k fun _ _ _ => ?_ | refine ext_k fun _ _ _ => ?_ | refine need_a ?_ | refine st_agg KR rfl ON fun _ _ _ _ => ?_ | refine wpd_q_a ?_
    | simp (maxDischargeDepth := 3) only [↓X, ↓Y, ↓Q, S1, ↓reduceIte, Nat.reduceEqDiff, Nat.reduceAdd, Int.reduceLT, Int.reduceLE, Int.reduceNeg, Int.reduceBEq, Int.reduceBNe, Int.reduceEq, Nat.reduceLeDiff, Nat.reduceMul, Nat.reduceLT, *]
    | simp (singlePass := true) (maxDischargeDepth := 99) only [*, S2, Nat.reduceLT])
        all_goals exact ⟨hxk.trans hxr, er'.out⟩
      | some rest =>
        rw [ht] at hres
        obtain ⟨ur, rfl, hr⟩ := hres
        have hfin : explS (apS sd (l.map (·.x)) steps) seen steps.length x = some rest := by
          unfold explS
          have e2 : List.range (steps.length + 1) = List.range (k + 1) ++ (List.range' (k + 1) (steps.length - k)) := by
            have h9 := List.range'_append (s := 0) (m := k + 1) (n := steps.length - k) (step := 1)
            rw [List.range_eq_range', List.range_eq_range']
            rw [show 0 + 1 * (k + 1) = k + 1 by omega] at h9
            rw [h9]
            congr 1
            omega
          rw [e2, List.findSome?_append, er]
          simp [ht]
        rw [hfin]
        have hr' := hr.more hwk
        have rone := hr.one
        clear er hr
        (repeat' first
    | ((with_reducible refine at_row ?_); refine row1_a fun _ _ _ _ _ _ _ => ?_)
    | with_reducible first | (first | apply alloc_k | apply row_k); intro _ _ _ _ _ _ | (first | apply fork | apply forkp) <;> intro _ | refine forke (fun _ => ?_) fun _ _ => ?_ | refine tail_k fun _ _ _ => ?_ | refine ext_k fun _ _ _ => ?_ | refine need_a ?_ | refine st_agg KR rfl ON fun _ _ _ _ => ?_ | refine wpd_q_a ?_
    | simp (maxDischargeDepth := 3) only [↓X, ↓Y, ↓Q, S1, ↓reduceIte, Nat.reduceEqDiff, Nat.reduceAdd, Int.reduceLT, Int.reduceLE, Int.reduceNeg, Int.reduceBEq, Int.reduceBNe, Int.reduceEq, Nat.reduceLeDiff, Nat.reduceMul, Nat.reduceLT, *]
    | simp (singlePass := true) (maxDischargeDepth := 99) only [*, S2, Nat.reduceLT])
        exact ⟨_, rfl, hr'⟩
    · rintro g wk nk ⟨hi, hf, hp⟩
      simp (maxDischargeDepth := 3) only [U, ↓reduceIte, Nat.reduceEqDiff, *] at hf
      obtain ⟨hxk, hno⟩ := hp.out
      have hxwk : Ext w wk := hxw.trans hxk
      have hge : ¬ ((steps.length + 1 : Nat) : Int) < ((steps.length + 1 : Nat) : Int) := by omega
      unfold explS
      rw [hno]
      clear hno hp
      (repeat' first
    | ((with_reducible refine at_row ?_); refine row1_a fun _ _ _ _ _ _ _ => ?_)
    | with_reducible first | (first | apply alloc_k | apply row_k); intro _ _ _ _ _ _ | (first | apply fork | apply forkp) <;> intro _ | refine forke (fun _ => ?_) fun _ _ => ?_ | refine tail_k fun _ _ _ => ?_ | refine ext_k fun _ _ _ => ?_ | refine need_a ?_ | refine st_agg KR rfl ON fun _ _ _ _ => ?_ | refine wpd_q_a ?_
    | simp (maxDischargeDepth := 3) only [↓X, ↓Y, ↓Q, S1, ↓reduceIte, Nat.reduceEqDiff, Nat.reduceAdd, Int.reduceLT, Int.reduceLE, Int.reduceNeg, Int.reduceBEq, Int.reduceBNe, Int.reduceEq, Nat.reduceLeDiff, Nat.reduceMul, Nat.reduceLT, *]
    | simp (singlePass := true) (maxDischargeDepth := 99) only [*, S2, Nat.reduceLT])
      rfl
end
end Go.Proofs.YtmcdgepfhpakiaaGreat
