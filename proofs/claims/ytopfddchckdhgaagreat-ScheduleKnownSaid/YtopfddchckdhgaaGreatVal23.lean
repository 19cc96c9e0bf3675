
/- The layer schedule: Valid. -/
import Derived.Test.YtopfddchckdhgaaGreatInO23
namespace Go.Proofs.YtopfddchckdhgaaGreat
set_option linter.unusedSimpArgs false
set_option linter.unusedVariables false
open Go Go.RowKit
set_option maxRecDepth 100000
set_option linter.unusedSectionVars false
set_option maxHeartbeats 4000000
theorem SiteR.up23 {w : World} {B B' : Nat} {u : SiteVs} {s : SiteD} (h : SiteR w B u s) (hB : B ≤ B') : SiteR w B' u s := ⟨h.f.more hB, h.b.more hB, h.l.more hB, h.r.more hB, h.k.more hB, h.h.more hB⟩
theorem count_rng {w : World} {B : Nat} {u : SiteVs} {s : SiteD} (h : SiteR w B u s) {d : Int} : 0 ≤ countF s d ∧ countF s d ≤ 9223372036854775807 := by
  have h1 := h.h.max_
  have h2 := h.r.max_
  have h3 := h.f.max_
  have h4 := h.l.max_
  unfold countF
  repeat' split
  all_goals omega
section
variable {w w' : World} {B : Nat} {f : FrV} {s : SiteD} {p : PlanD} {x : TermsD}
theorem schedValid1 {b3 : Nat} (hs : SiteR w w.heap.size f.u s) (h3 : Blk w b3 29 (siteC f.u s)) {d n : Int} : Ret Tryz.prog 41 #[.int .u8 d, .int .i64 n, .pointer (some ⟨b3, 0, none⟩)] w (.bool (btw n 0 (countF s d - 1))) := by
  have hn : Now w := trivial
  have hx : Ext w w := Ext.refl w
  have k3 := h3.bk
  have hc := fun w' (h2 : Ext w w') => siteCount (d := d) (Nat.le_refl _) ((hs.ext h2 (Nat.le_refl _)).up23 h2.size)
  have hr : Hid (0 ≤ countF s d ∧ countF s d ≤ 9223372036854775807) := count_rng hs
  have hw : IntKind.i64.wrap (countF s d - 1) = countF s d - 1 := by have := hr.out; rw [wrap_i64_id] <;> omega
  clear hs h3
  (refine callsV_of Tryz.func41 rfl KR KR ?_; rw [Tryz.results41])
  (repeat' first
    | with_reducible first | exact ⟨⟩ | (refine gB ?_; intros) | refine gT ?_ ?_
    | refine gs ?_
    | ((with_reducible refine at_f 42 ?_); refine ret_k (hc _ FR) fun _ _ _ => ?_)
    | ((with_reducible refine at_f 32 ?_); refine ret_k (schedWithin) fun _ _ _ => ?_)
    | simp (maxDischargeDepth := 3) only [↓X, ↓Y, ↓Q, S1, ↓reduceIte, Nat.reduceEqDiff, Nat.reduceAdd, Int.reduceLT, Int.reduceLE, Int.reduceNeg, Int.reduceBEq, Int.reduceBNe, Int.reduceEq, Nat.reduceLeDiff, Nat.reduceMul, Nat.reduceLT, *, siteC]
    | simp (singlePass := true) (maxDischargeDepth := 99) only [*, S2, Nat.reduceLT, siteC])
theorem schedValid2 {b3 : Nat} (hs : SiteR w w.heap.size f.u s) (h3 : Blk w b3 29 (siteC f.u s)) (t : StepD) (hk : 0 ≤ t.kind ∧ t.kind ≤ 255) : Ret Tryz.prog 44 #[stepV t, .pointer (some ⟨b3, 0, none⟩)] w (.bool (stepT s t)) := by
  have hn : Now w := trivial
  have hx : Ext w w := Ext.refl w
  have k3 := h3.bk
  have hmx := hs.h.max_
  have hh : SlWf f.u.h ∧ isSl f.u.h ∧ lenN f.u.h = s.hosts.length := ⟨hs.h.wf, hs.h.sl, by simpa using hs.h.len⟩
  have hw : IntKind.i64.wrap ((s.hosts.length : Int) - 1) = (s.hosts.length : Int) - 1 := by rw [wrap_i64_id] <;> omega
  have hw2 : IntKind.i64.wrap t.kind = t.kind := by rw [wrap_i64_id] <;> omega
  clear hs h3
  unfold stepT
  (refine callsV_of Tryz.func44 rfl KR KR ?_; rw [Tryz.results44])
  (repeat' first
    | with_reducible first | exact ⟨⟩ | (refine gB ?_; intros) | refine gT ?_ ?_
    | refine gs ?_
    | ((with_reducible refine at_f 32 ?_); refine ret_k (schedWithin) fun _ _ _ => ?_)
    | simp (maxDischargeDepth := 3) only [↓X, ↓Y, ↓Q, S1, ↓reduceIte, Nat.reduceEqDiff, Nat.reduceAdd, Int.reduceLT, Int.reduceLE, Int.reduceNeg, Int.reduceBEq, Int.reduceBNe, Int.reduceEq, Nat.reduceLeDiff, Nat.reduceMul, Nat.reduceLT, *, siteC, stepV, stepC]
    | simp (singlePass := true) (maxDischargeDepth := 99) only [*, S2, Nat.reduceLT, siteC, stepV, stepC])
  all_goals simp_all
theorem schedValid3 {n : Int} : Ret Tryz.prog 45 #[.int .i64 n] w (.bool (btw n 1 1000)) := by
  have hn : Now w := trivial
  have hx : Ext w w := Ext.refl w
  (refine callsV_of Tryz.func45 rfl KR KR ?_; rw [Tryz.results45])
  (repeat' first
    | with_reducible first | exact ⟨⟩ | (refine gB ?_; intros) | refine gT ?_ ?_
    | refine gs ?_
    | ((with_reducible refine at_f 32 ?_); refine ret_k (schedWithin) fun _ _ _ => ?_)
    | refine sx ?_)
theorem schedValid4 {n : Int} : Ret Tryz.prog 46 #[.int .i64 n] w (.bool (btw n (-1) 1000000)) := by
  have hn : Now w := trivial
  have hx : Ext w w := Ext.refl w
  (refine callsV_of Tryz.func46 rfl KR KR ?_; rw [Tryz.results46])
  (repeat' first
    | with_reducible first | exact ⟨⟩ | (refine gB ?_; intros) | refine gT ?_ ?_
    | refine gs ?_
    | ((with_reducible refine at_f 32 ?_); refine ret_k (schedWithin) fun _ _ _ => ?_)
    | refine sx ?_)
def thereV (b3 : Nat) : Value := .func (.func 41) #[] #[.pointer (some ⟨b3, 0, none⟩)]
theorem schedValid5 {b3 b8 : Nat} (hs : SiteR w w.heap.size f.u s) (h3 : Blk w b3 29 (siteC f.u s)) (h8 : Blk w b8 113 [thereV b3]) (t : WindowD) : Ret Tryz.prog 48 #[windowV t, .pointer (some ⟨b8, 0, none⟩)] w (.bool (windowT s t)) := by
  have hn : Now w := trivial
  have hx : Ext w w := Ext.refl w
  have k8 := h8.bk
  have hc := fun w' (h2 : Ext w w') d n => schedValid1 (d := d) (n := n) ((hs.ext h2 (Nat.le_refl _)).up23 h2.size) (h3.ext h2)
  clear hs h3 h8
  unfold windowT
  cases ht : btw t.til 0 1000000
  · rw [Bool.and_false, Bool.false_and]
    (refine callsV_of Tryz.func48 rfl KR KR ?_; rw [Tryz.results48])
    (repeat' first
    | with_reducible first | exact ⟨⟩ | (refine gB ?_; intros) | refine gT ?_ ?_
    | refine gs ?_
    | ((with_reducible refine at_f 41 ?_); refine ret_k (hc _ FR _ _) fun _ _ _ => ?_)
    | ((with_reducible refine at_f 32 ?_); refine ret_k (schedWithin) fun _ _ _ => ?_)
    | simp (maxDischargeDepth := 3) only [↓X, ↓Y, ↓Q, S1, ↓reduceIte, Nat.reduceEqDiff, Nat.reduceAdd, Int.reduceLT, Int.reduceLE, Int.reduceNeg, Int.reduceBEq, Int.reduceBNe, Int.reduceEq, Nat.reduceLeDiff, Nat.reduceMul, Nat.reduceLT, *, windowV, thereV]
    | simp (singlePass := true) (maxDischargeDepth := 99) only [*, S2, Nat.reduceLT, windowV, thereV])
  · have hw : IntKind.i64.wrap (t.til - 1) = t.til - 1 := by
      have ht2 := ht
      simp only [btw, Bool.and_eq_true, decide_eq_true_eq] at ht2
      rw [wrap_i64_id] <;> omega
    rw [Bool.and_true]
    (refine callsV_of Tryz.func48 rfl KR KR ?_; rw [Tryz.results48])
    (repeat' first
    | with_reducible first | exact ⟨⟩ | (refine gB ?_; intros) | refine gT ?_ ?_
    | refine gs ?_
    | ((with_reducible refine at_f 41 ?_); refine ret_k (hc _ FR _ _) fun _ _ _ => ?_)
    | ((with_reducible refine at_f 32 ?_); refine ret_k (schedWithin) fun _ _ _ => ?_)
    | simp (maxDischargeDepth := 3) only [↓X, ↓Y, ↓Q, S1, ↓reduceIte, Nat.reduceEqDiff, Nat.reduceAdd, Int.reduceLT, Int.reduceLE, Int.reduceNeg, Int.reduceBEq, Int.reduceBNe, Int.reduceEq, Nat.reduceLeDiff, Nat.reduceMul, Nat.reduceLT, *, windowV, thereV]
    | simp (singlePass := true) (maxDischargeDepth := 99) only [*, S2, Nat.reduceLT, windowV, thereV])
    all_goals simp_all
theorem schedValid6 {b3 b8 : Nat} (hs : SiteR w w.heap.size f.u s) (h3 : Blk w b3 29 (siteC f.u s)) (h8 : Blk w b8 113 [thereV b3]) (t : AreaD) : Ret Tryz.prog 50 #[areaV t, .pointer (some ⟨b8, 0, none⟩)] w (.bool (areaT s t)) := by
  have hn : Now w := trivial
  have hx : Ext w w := Ext.refl w
  have k8 := h8.bk
  have hc := fun w' (h2 : Ext w w') d n => schedValid1 (d := d) (n := n) ((hs.ext h2 (Nat.le_refl _)).up23 h2.size) (h3.ext h2)
  clear hs h3 h8
  unfold areaT
  (refine callsV_of Tryz.func50 rfl KR KR ?_; rw [Tryz.results50])
  (repeat' first
    | with_reducible first | exact ⟨⟩ | (refine gB ?_; intros) | refine gT ?_ ?_
    | refine gs ?_
    | ((with_reducible refine at_f 41 ?_); refine ret_k (hc _ FR _ _) fun _ _ _ => ?_)
    | simp (maxDischargeDepth := 3) only [↓X, ↓Y, ↓Q, S1, ↓reduceIte, Nat.reduceEqDiff, Nat.reduceAdd, Int.reduceLT, Int.reduceLE, Int.reduceNeg, Int.reduceBEq, Int.reduceBNe, Int.reduceEq, Nat.reduceLeDiff, Nat.reduceMul, Nat.reduceLT, *, areaV, thereV]
    | simp (singlePass := true) (maxDischargeDepth := 99) only [*, S2, Nat.reduceLT, areaV, thereV])
theorem addr_add (a : Addr) (i j : Nat) : (a.add i).add j = a.add (i + j) := by
  unfold Addr.add
  by_cases h1 : i = 0
  · simp [h1]
  · by_cases h2 : j = 0
    · simp [h1, h2]
    · have : ¬ i + j = 0 := by omega
      simp [h1, h2, this, Nat.add_assoc]
theorem Sl.lo1 {v : Value} {xs : List Value} (h : Sl w B none 1 v xs) {m : Nat} (hm : m < xs.length) : Sl w B none 1 (cutV 1 v m xs.length (capN v)) (xs.drop m) := by
  have hlen := h.len
  have hcap := h.cap
  have hmax := h.max
  have hlt := h.lt
  have hwf := h.wf
  have hrd := h.rd
  cases v with
  | slice a n c =>
    cases a with
    | none => simp only [SlWf] at hwf; simp only [lenN] at hlen; omega
    | some a =>
      simp only [lenN, capN] at hlen hcap hmax
      have hc : ¬ c = m := by omega
      have e : cutV 1 (.slice (some a) n c) m xs.length (capN (.slice (some a) n c)) = .slice (some (a.add m)) (xs.length - m) (c - m) := by simp [cutV, capN, hc]
      rw [e]
      refine ⟨trivial, by simp [lenN], by simp only [lenN, capN]; omega, by simp only [capN]; omega, fun b hb _ => hlt b (by have e2 : (a.add m).block = a.block := (by unfold Addr.add; split <;> rfl); simpa [blockOf, e2] using hb) (by omega), fun i hi => ?_⟩
      rw [List.length_drop] at hi
      have := hrd (m + i) (by omega)
      simp only [elemAt, Nat.mul_one] at this ⊢
      rw [addr_add, this]
      simp
  | _ => exact hwf.elim
theorem slice_1 {e sz by_ n : Nat} {v : Value} {k : Value → World → Prop} (h : isSl v) (hl : lenN v = n) (hn : 1 ≤ n) (hc : n ≤ capN v) (hf : k (cutV sz v 1 n (capN v)) w) : sliceX (some (e, sz, by_)) v (some (.int .i64 1)) none none w k := by
  subst hl
  show needX _ w (k (cutV sz v (Int.toNat 1) (lenN v) (capN v)))
  exact ⟨⟨h, by decide, by omega, hc⟩, hf⟩
theorem schedValid (hB : B ≤ w.heap.size) (h : ArgT w B f s p x) (hkd : ∀ t ∈ p.steps, 0 ≤ t.kind ∧ t.kind ≤ 255) : Ret Tryz.prog 20 #[.agg (siteC f.u s).toArray, .agg #[f.sv, f.av], .agg (termsC f.q x).toArray] w (.bool (validT s p x)) := by
  have hn : Now w := trivial
  have hx : Ext w w := Ext.refl w
  have hbw : Bl B w w := Bl.refl hB
  have hA : Hid (∀ w', Bl B w w' → ArgT w' B f s p x) := fun w' hb => h.bl hb
  have hsv := fun w' (h1 : Bl B w w') => siteValid h1.size (hA.out w' h1).s
  have hov := fun w' (h1 : Bl B w w') => schedInOrder h1.size (hA.out w' h1).p
  have hs1 : f.u.f.oneCell' = true ∧ f.u.b.oneCell' = true ∧ f.u.l.oneCell' = true ∧ f.u.r.oneCell' = true ∧ f.u.k.oneCell' = true ∧ f.u.h.oneCell' = true := ⟨h.s.f.one, h.s.b.one, h.s.l.one, h.s.r.one, h.s.k.one, h.s.h.one⟩
  have hp1 : f.sv.oneCell' = true ∧ f.av.oneCell' = true := ⟨h.p.s.one, h.p.a.v.one⟩
  have hx1 : f.q.w.oneCell' = true ∧ f.q.a.oneCell' = true ∧ f.q.c.oneCell' = true ∧ f.q.t.oneCell' = true ∧ f.q.p.oneCell' = true := ⟨h.x.n.one, h.x.a.one, h.x.c, h.x.t.one, h.x.p.one⟩
  have ht := h.x.t.k hB
  have hap := h.x.p.k hB
  have hwn := h.x.n.k hB
  have har := h.x.a.k hB
  have hst := h.p.s.k hB
  have hcap := h.x.t.cap
  rw [h.x.t.len, List.length_map] at hcap
  by_cases h8 : x.takes.length = 8
  rotate_left
  · have e : validT s p x = false := by unfold validT; simp [h8]
    rw [e]
    have h8' : ((x.takes.length : Int) == 8) = false := by simpa using fun h => h8 (by omega)
    have h8'' : ¬ (x.takes.length : Int) = 8 := by omega
    clear h e hcap h8
    (refine callsV_of Tryz.func20 rfl KR KR ?_; rw [Tryz.results20])
    (repeat' first
    | with_reducible first | exact ⟨⟩ | (refine gB ?_; intros) | refine gT ?_ ?_
    | refine gs ?_
    | ((with_reducible refine at_f 39 ?_); refine ret_k (hsv _ FR) fun _ _ _ => ?_)
    | ((with_reducible refine at_f 40 ?_); refine ret_k (hov _ FR) fun _ _ _ => ?_)
    | simp (maxDischargeDepth := 3) only [↓X, ↓Y, ↓Q, S1, ↓reduceIte, Nat.reduceEqDiff, Nat.reduceAdd, Int.reduceLT, Int.reduceLE, Int.reduceNeg, Int.reduceBEq, Int.reduceBNe, Int.reduceEq, Nat.reduceLeDiff, Nat.reduceMul, Nat.reduceLT, *, siteC, termsC]
    | simp (singlePass := true) (maxDischargeDepth := 99) only [*, S2, Nat.reduceLT, siteC, termsC])
  by_cases ha : x.approved.length = p.steps.length
  rotate_left
  · have e : validT s p x = false := by unfold validT; simp [ha]
    rw [e]
    have ha' : ((x.approved.length : Int) == (p.steps.length : Int)) = false := by simpa using fun h => ha (by omega)
    have ha'' : ¬ (x.approved.length : Int) = (p.steps.length : Int) := by omega
    clear h e hcap ha
    (refine callsV_of Tryz.func20 rfl KR KR ?_; rw [Tryz.results20])
    (repeat' first
    | with_reducible first | exact ⟨⟩ | (refine gB ?_; intros) | refine gT ?_ ?_
    | refine gs ?_
    | ((with_reducible refine at_f 39 ?_); refine ret_k (hsv _ FR) fun _ _ _ => ?_)
    | ((with_reducible refine at_f 40 ?_); refine ret_k (hov _ FR) fun _ _ _ => ?_)
    | simp (maxDischargeDepth := 3) only [↓X, ↓Y, ↓Q, S1, ↓reduceIte, Nat.reduceEqDiff, Nat.reduceAdd, Int.reduceLT, Int.reduceLE, Int.reduceNeg, Int.reduceBEq, Int.reduceBNe, Int.reduceEq, Nat.reduceLeDiff, Nat.reduceMul, Nat.reduceLT, *, siteC, termsC, h8]
    | simp (singlePass := true) (maxDischargeDepth := 99) only [*, S2, Nat.reduceLT, siteC, termsC, h8])
  have hc2 : callable Tryz.prog 44 = true := by kernel_rfl
  have hc3 : callable Tryz.prog 45 = true := by kernel_rfl
  have hc4 : callable Tryz.prog 46 = true := by kernel_rfl
  have hc5 : callable Tryz.prog 48 = true := by kernel_rfl
  have hc6 : callable Tryz.prog 50 = true := by kernel_rfl
  have hes : Hid (∀ w' (_ : Bl B w w') b3 (_ : Blk w' b3 29 [f.u.f, f.u.b, f.u.l, f.u.r, intV s.switches, f.u.k, f.u.h]), Ret Tryz.prog 43 #[f.sv, .func (.func 44) #[] #[.pointer (some ⟨b3, 0, none⟩)]] w' (.bool (p.steps.all (stepT s)))) := fun w' h1 b3 k3 => every_Step h1.size (hA.out w' h1).p.s hc2 (caps := [.pointer (some ⟨b3, 0, none⟩)]) fun t ht w'' hx2 => schedValid2 (((hA.out w' h1).s.ext hx2 h1.size).up23 (Nat.le_trans h1.size hx2.size)) (k3.ext hx2) t (hkd t ht)
  have het : Hid (∀ w' (_ : Bl B w w'), Ret Tryz.prog 30 #[cutV 1 f.q.t 1 x.takes.length (capN f.q.t), .func (.func 45) #[] #[]] w' (.bool ((x.takes.drop 1).all fun n => btw n 1 1000))) := fun w' h1 => every_int (caps := []) h1.size (by
    have := (hA.out w' h1).x.t.lo1 (m := 1) (by rw [List.length_map]; omega)
    rw [List.length_map, ← List.map_drop] at this
    exact this) hc3 fun n _ w'' _ => schedValid3
  have hea : Hid (∀ w' (_ : Bl B w w'), Ret Tryz.prog 30 #[f.q.p, .func (.func 46) #[] #[]] w' (.bool (x.approved.all fun n => btw n (-1) 1000000))) := fun w' h1 => every_int (caps := []) h1.size (hA.out w' h1).x.p hc4 fun n _ w'' _ => schedValid4
  have hew : Hid (∀ w' (_ : Bl B w w') b3 b8 (_ : Blk w' b3 29 [f.u.f, f.u.b, f.u.l, f.u.r, intV s.switches, f.u.k, f.u.h]) (_ : Blk w' b8 113 [.func (.func 41) #[] #[.pointer (some ⟨b3, 0, none⟩)]]), Ret Tryz.prog 47 #[f.q.w, .func (.func 48) #[] #[.pointer (some ⟨b8, 0, none⟩)]] w' (.bool (x.windows.all (windowT s)))) := fun w' h1 b3 b8 k3 k8 => every_Window h1.size (hA.out w' h1).x.n hc5 (caps := [.pointer (some ⟨b8, 0, none⟩)]) fun t _ w'' hx2 => schedValid5 (((hA.out w' h1).s.ext hx2 h1.size).up23 (Nat.le_trans h1.size hx2.size)) (k3.ext hx2) (k8.ext hx2) t
  have hee : Hid (∀ w' (_ : Bl B w w') b3 b8 (_ : Blk w' b3 29 [f.u.f, f.u.b, f.u.l, f.u.r, intV s.switches, f.u.k, f.u.h]) (_ : Blk w' b8 113 [.func (.func 41) #[] #[.pointer (some ⟨b3, 0, none⟩)]]), Ret Tryz.prog 49 #[f.q.a, .func (.func 50) #[] #[.pointer (some ⟨b8, 0, none⟩)]] w' (.bool (x.areas.all (areaT s)))) := fun w' h1 b3 b8 k3 k8 => every_Area h1.size (hA.out w' h1).x.a hc6 (caps := [.pointer (some ⟨b8, 0, none⟩)]) fun t _ w'' hx2 => schedValid6 (((hA.out w' h1).s.ext hx2 h1.size).up23 (Nat.le_trans h1.size hx2.size)) (k3.ext hx2) (k8.ext hx2) t
  have e : validT s p x = (siteB s && ordB p && (btw x.last 0 1000000 && btw x.first 0 x.last && btw x.blast 0 16) && (decide (x.windows.length ≤ 16) && decide (x.areas.length ≤ 16)) && (p.steps.all (stepT s) && ((x.takes.drop 1).all (fun n => btw n 1 1000) && x.approved.all fun n => btw n (-1) 1000000) && x.windows.all (windowT s) && x.areas.all (areaT s))) := by
    unfold validT
    rw [decide_eq_true h8, decide_eq_true ha, Bool.and_true, Bool.and_true]
  rw [e]
  have hha : ((x.approved.length : Int) == (p.steps.length : Int)) = true := by simp [ha]
  have hha' : (x.approved.length : Int) = (p.steps.length : Int) := by omega
  rw [h8] at het hcap
  generalize siteB s = S at *
  generalize ordB p = O at *
  generalize p.steps.all (stepT s) = E1 at *
  generalize ((x.takes.drop 1).all fun n => btw n 1 1000) = E2 at *
  generalize (x.approved.all fun n => btw n (-1) 1000000) = E3 at *
  generalize x.windows.all (windowT s) = E4 at *
  generalize x.areas.all (areaT s) = E5 at *
  clear h e
  (refine callsV_of Tryz.func20 rfl KR KR ?_; rw [Tryz.results20])
  (repeat' first
    | ((with_reducible refine at_f 30 ?_); (with_reducible show CallsV Tryz.prog _ #[cutV _ _ _ _ _, _] _ _); refine ret_k (het.out _ FR) fun _ _ _ => ?_)
    | ((with_reducible refine at_f 30 ?_); (with_reducible show CallsV Tryz.prog _ #[f.q.p, _] _ _); refine ret_k (hea.out _ FR) fun _ _ _ => ?_)
    | with_reducible first | exact ⟨⟩ | (refine gB ?_; intros) | refine gT ?_ ?_
    | refine gs ?_
    | ((with_reducible refine at_f 39 ?_); refine ret_k (hsv _ FR) fun _ _ _ => ?_)
    | ((with_reducible refine at_f 40 ?_); refine ret_k (hov _ FR) fun _ _ _ => ?_)
    | ((with_reducible refine at_f 32 ?_); refine ret_k (schedWithin) fun _ _ _ => ?_)
    | ((with_reducible refine at_f 43 ?_); refine ret_k (hes.out _ FR _ FR) fun _ _ _ => ?_)
    | ((with_reducible refine at_f 47 ?_); refine ret_k (hew.out _ FR _ _ FR FR) fun _ _ _ => ?_)
    | ((with_reducible refine at_f 49 ?_); refine ret_k (hee.out _ FR _ _ FR FR) fun _ _ _ => ?_)
    | simp (maxDischargeDepth := 3) only [↓X, ↓Y, ↓Q, S1, ↓reduceIte, Nat.reduceEqDiff, Nat.reduceAdd, Int.reduceLT, Int.reduceLE, Int.reduceNeg, Int.reduceBEq, Int.reduceBNe, Int.reduceEq, Nat.reduceLeDiff, Nat.reduceMul, Nat.reduceLT, *, siteC, termsC, h8, thereV]
    | simp (singlePass := true) (maxDischargeDepth := 99) only [*, S2, Nat.reduceLT, siteC, termsC, h8, thereV])
  rotate_left 2
  · rename_i hw16 ha16 b7 w7 n7 k7 s7 q7
    rename Bk _ _ 29 _ => k3
    have hew' := fun w' (h1 : Bl B w w') (h2 : Kp _ _ w') b8 k8 => hew.out w' h1 _ b8 (k3.2.1 w' h2) k8
    have hee' := fun w' (h1 : Bl B w w') (h2 : Kp _ _ w') b8 k8 => hee.out w' h1 _ b8 (k3.2.1 w' h2) k8
    rw [show decide (x.windows.length ≤ 16) = true from decide_eq_true (by omega), show decide (x.areas.length ≤ 16) = true from decide_eq_true (by omega)]
    refine st_one (i := 0) KR (by simp) rfl fun w8 n8 k8 s8 => ?_
    simp only [List.set_cons_zero] at k8
    (repeat' first
    | ((with_reducible refine at_f 30 ?_); (with_reducible show CallsV Tryz.prog _ #[cutV _ _ _ _ _, _] _ _); refine ret_k (het.out _ FR) fun _ _ _ => ?_)
    | ((with_reducible refine at_f 30 ?_); (with_reducible show CallsV Tryz.prog _ #[f.q.p, _] _ _); refine ret_k (hea.out _ FR) fun _ _ _ => ?_)
    | with_reducible first | exact ⟨⟩ | (refine gB ?_; intros) | refine gT ?_ ?_
    | refine gs ?_
    | ((with_reducible refine at_f 39 ?_); refine ret_k (hsv _ FR) fun _ _ _ => ?_)
    | ((with_reducible refine at_f 40 ?_); refine ret_k (hov _ FR) fun _ _ _ => ?_)
    | ((with_reducible refine at_f 32 ?_); refine ret_k (schedWithin) fun _ _ _ => ?_)
    | ((with_reducible refine at_f 43 ?_); refine ret_k (hes.out _ FR _ FR) fun _ _ _ => ?_)
    | ((with_reducible refine at_f 47 ?_); refine ret_k (hew' _ FR FR _ FR) fun _ _ _ => ?_)
    | ((with_reducible refine at_f 49 ?_); refine ret_k (hee' _ FR FR _ FR) fun _ _ _ => ?_)
    | simp (maxDischargeDepth := 3) only [↓X, ↓Y, ↓Q, S1, ↓reduceIte, Nat.reduceEqDiff, Nat.reduceAdd, Int.reduceLT, Int.reduceLE, Int.reduceNeg, Int.reduceBEq, Int.reduceBNe, Int.reduceEq, Nat.reduceLeDiff, Nat.reduceMul, Nat.reduceLT, *, siteC, termsC, h8, thereV]
    | simp (singlePass := true) (maxDischargeDepth := 99) only [*, S2, Nat.reduceLT, siteC, termsC, h8, thereV])
    refine slice_1 ht.2.1 (ht.2.2.1.trans h8) (by decide) hcap ?_
    (repeat' first
    | ((with_reducible refine at_f 30 ?_); (with_reducible show CallsV Tryz.prog _ #[cutV _ _ _ _ _, _] _ _); refine ret_k (het.out _ FR) fun _ _ _ => ?_)
    | ((with_reducible refine at_f 30 ?_); (with_reducible show CallsV Tryz.prog _ #[f.q.p, _] _ _); refine ret_k (hea.out _ FR) fun _ _ _ => ?_)
    | with_reducible first | exact ⟨⟩ | (refine gB ?_; intros) | refine gT ?_ ?_
    | refine gs ?_
    | ((with_reducible refine at_f 39 ?_); refine ret_k (hsv _ FR) fun _ _ _ => ?_)
    | ((with_reducible refine at_f 40 ?_); refine ret_k (hov _ FR) fun _ _ _ => ?_)
    | ((with_reducible refine at_f 32 ?_); refine ret_k (schedWithin) fun _ _ _ => ?_)
    | ((with_reducible refine at_f 43 ?_); refine ret_k (hes.out _ FR _ FR) fun _ _ _ => ?_)
    | ((with_reducible refine at_f 47 ?_); refine ret_k (hew' _ FR FR _ FR) fun _ _ _ => ?_)
    | ((with_reducible refine at_f 49 ?_); refine ret_k (hee' _ FR FR _ FR) fun _ _ _ => ?_)
    | simp (maxDischargeDepth := 3) only [↓X, ↓Y, ↓Q, S1, ↓reduceIte, Nat.reduceEqDiff, Nat.reduceAdd, Int.reduceLT, Int.reduceLE, Int.reduceNeg, Int.reduceBEq, Int.reduceBNe, Int.reduceEq, Nat.reduceLeDiff, Nat.reduceMul, Nat.reduceLT, *, siteC, termsC, h8, thereV]
    | simp (singlePass := true) (maxDischargeDepth := 99) only [*, S2, Nat.reduceLT, siteC, termsC, h8, thereV])
    all_goals simp_all
  · simp_all
  · rw [show decide (x.windows.length ≤ 16) = false from decide_eq_false (by omega)]; simp
  · rw [show decide (x.areas.length ≤ 16) = false from decide_eq_false (by omega)]; simp
end
end Go.Proofs.YtopfddchckdhgaaGreat
