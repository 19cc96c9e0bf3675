
/- The layer schedule: At; the document's Same. -/
import Derived.Test.YtopfddchckdhgaaGreatMk23
namespace Go.Proofs.YtopfddchckdhgaaGreat
set_option linter.unusedSimpArgs false
set_option linter.unusedVariables false
open Go Go.RowKit
set_option maxRecDepth 100000
set_option linter.unusedSectionVars false
set_option maxHeartbeats 4000000
theorem sxAt231 {p q : Prop} (hq : q) (h : p = q := by first | (simp (maxDischargeDepth := 3) only [↓X, ↓Y, ↓Q, S1, ↓reduceIte, Nat.reduceEqDiff, Nat.reduceAdd, Int.reduceLT, Int.reduceLE, Int.reduceNeg, Int.reduceBEq, Int.reduceBNe, Int.reduceEq, Nat.reduceLeDiff, Nat.reduceMul, Nat.reduceLT, *, List.take_zero, List.all_nil, List.any_nil]; try exact rfl) | (simp (singlePass := true) (maxDischargeDepth := 99) only [*, S2, Nat.reduceLT, List.take_zero, List.all_nil, List.any_nil]; try exact rfl)) : p := h ▸ hq
theorem sxAt232 {p q : Prop} (hq : q) (h : p = q := by first | (simp (maxDischargeDepth := 3) only [↓X, ↓Y, ↓Q, S1, ↓reduceIte, Nat.reduceEqDiff, Nat.reduceAdd, Int.reduceLT, Int.reduceLE, Int.reduceNeg, Int.reduceBEq, Int.reduceBNe, Int.reduceEq, Nat.reduceLeDiff, Nat.reduceMul, Nat.reduceLT, *, termsC, stepV, stepC]; try exact rfl) | (simp (singlePass := true) (maxDischargeDepth := 99) only [*, S2, Nat.reduceLT, termsC, stepV, stepC]; try exact rfl)) : p := h ▸ hq
theorem sxAt233 {p q : Prop} (hq : q) (h : p = q := by first | (simp (maxDischargeDepth := 3) only [↓X, ↓Y, ↓Q, S1, ↓reduceIte, Nat.reduceEqDiff, Nat.reduceAdd, Int.reduceLT, Int.reduceLE, Int.reduceNeg, Int.reduceBEq, Int.reduceBNe, Int.reduceEq, Nat.reduceLeDiff, Nat.reduceMul, Nat.reduceLT, *, termsC]; try exact rfl) | (simp (singlePass := true) (maxDischargeDepth := 99) only [*, S2, Nat.reduceLT, termsC]; try exact rfl)) : p := h ▸ hq
section
variable {w w' : World} {B B' : Nat} {f : FrV} {bv u v : Value} {s : SiteD} {p : PlanD} {x : TermsD} {b a : List Int}
theorem refSame {m n : Int} (hB : B ≤ w.heap.size) (hB' : B' ≤ w.heap.size) (ha : Sl w B none 1 u (a.map intV)) (hb : Sl w B' none 1 v (b.map intV)) : Ret Tryz.prog 13 #[.agg #[u, intV m], .agg #[v, intV n]] w (.bool (sameT ⟨a, m⟩ ⟨b, n⟩)) := by
  have hn : Now w := trivial
  have hx : Ext w w := Ext.refl w
  have ka := ha.k hB
  have kb := hb.k hB'
  have hmax := ha.max_
  unfold sameT
  by_cases hmn : m = n
  rotate_left
  · have e : (m == n) = false := by simpa using hmn
    have e2 : ¬ m = n := hmn
    simp only [e, Bool.false_and]
    clear ha hb
    (refine callsV_of Tryz.func13 rfl KR KR ?_; rw [Tryz.results13])
    (repeat' first
    | with_reducible first | exact ⟨⟩ | (refine gB ?_; intros) | refine gT ?_ ?_
    | refine gs ?_
    | refine sx ?_)
  subst hmn
  by_cases hl : a.length = b.length
  rotate_left
  · have e : (a == b) = false := by simpa using fun h => hl (by rw [h])
    have e2 : ((a.length : Int) == (b.length : Int)) = false := by simpa using fun h => hl (by omega)
    have e3 : ¬ (a.length : Int) = (b.length : Int) := by omega
    simp only [e, Bool.and_false]
    clear ha hb hl
    (refine callsV_of Tryz.func13 rfl KR KR ?_; rw [Tryz.results13])
    (repeat' first
    | with_reducible first | exact ⟨⟩ | (refine gB ?_; intros) | refine gT ?_ ?_
    | refine gs ?_
    | refine sx ?_)
  have e2 : ((a.length : Int) == (b.length : Int)) = true := by simp [hl]
  have hl' : Hid (a.length = b.length) := hl
  have hmaxb : b.length ≤ 9223372036854775807 := hb.max_
  have e9 : ∀ c : Bool, (({ begin_ := a, stop := m } : TableD).stop == ({ begin_ := b, stop := m } : TableD).stop && c) = c := fun c => by simp
  rw [e9]
  obtain ⟨R, hR⟩ : ∃ R, R = (a == b) := ⟨_, rfl⟩
  have hRf : Hid (∀ k (h1 : k < a.length) (h2 : k < b.length), ¬ a[k] = b[k] → R = false) := fun k h1 h2 h3 => by rw [hR]; simpa using fun e => h3 (by subst e; rfl)
  have hRt : Hid (a.take b.length = b.take b.length → R = true) := fun h => by
    rw [hR]
    rw [List.take_length, ← hl, List.take_length] at h
    simp [h]
  show Ret _ _ _ _ (.bool (a == b))
  rw [← hR]
  clear ha hb hR hmax e9
  (refine callsV_of Tryz.func13 rfl KR KR ?_; rw [Tryz.results13])
  (repeat' first
    | with_reducible first | exact ⟨⟩ | (refine gB ?_; intros) | refine gT ?_ ?_
    | refine gs ?_
    | refine sx ?_)
  refine loop_k (b.length) (fun g0 k g _ => g 5 = .int .i64 k ∧ (g 2 = g0 2 ∧ g 3 = g0 3) ∧ Hid (a.take k = b.take k)) KR (hmaxb) ?_ ?_ ?_
  · (repeat' first
    | with_reducible first | exact ⟨⟩ | (refine gB ?_; intros) | refine gT ?_ ?_
    | refine gs ?_
    | refine sxAt231 ?_)
    trivial
  · rintro k m g wk hk hlt _ _ _ hw ⟨hi, hf, hp⟩
    simp (maxDischargeDepth := 3) only [U, ↓reduceIte, Nat.reduceEqDiff, *] at hf
    have hka : k < a.length := by rw [hl'.out]; exact hlt
    by_cases hq : a[k] = b[k]
    · have hq2 : (a[k] == b[k]) = true := by simpa using hq
      have hn2 : Hid (a.take (k + 1) = b.take (k + 1)) := take_next hp.out hka hlt hq
      clear hp
      (repeat' first
    | with_reducible first | exact ⟨⟩ | (refine gB ?_; intros) | refine gT ?_ ?_
    | refine gs ?_
    | refine sx ?_)
      refine next_k hk hlt ?_ FR
      (repeat' first
    | with_reducible first | exact ⟨⟩ | (refine gB ?_; intros) | refine gT ?_ ?_
    | refine gs ?_
    | refine sx ?_)
      all_goals exact hn2.out
    · have hq2 : (a[k] == b[k]) = false := by simpa using hq
      have e := hRf.out k hka hlt hq
      rw [e]
      clear hp e
      (repeat' first
    | with_reducible first | exact ⟨⟩ | (refine gB ?_; intros) | refine gT ?_ ?_
    | refine gs ?_
    | refine sx ?_)
  · rintro g wk _ _ _ ⟨hi, hf, hp⟩
    simp (maxDischargeDepth := 3) only [U, ↓reduceIte, Nat.reduceEqDiff, *] at hf
    have e := hRt.out hp.out
    rw [e]
    clear hp e
    (repeat' first
    | with_reducible first | exact ⟨⟩ | (refine gB ?_; intros) | refine gT ?_ ?_
    | refine gs ?_
    | refine sx ?_)
theorem schedAt1 {b1 : Nat} (hk1 : Blk w b1 41 (termsC f.q x)) (ht : Sl w w.heap.size none 1 f.q.t (x.takes.map intV)) (t : StepD) (hk : 0 ≤ t.kind ∧ t.kind ≤ 255) : Ret Tryz.prog 35 #[stepV t, .pointer (some ⟨b1, 0, none⟩)] w (.bool (!(decide (t.kind < x.takes.length) && num ((x.takes[t.kind.toNat]?).getD 0)))) := by
  have hn : Now w := trivial
  have hx : Ext w w := Ext.refl w
  have k1 := hk1.bk
  have hT := ht.k (Nat.le_refl _)
  have hw2 : IntKind.i64.wrap t.kind = t.kind := by rw [wrap_i64_id] <;> omega
  have hbw : Bl w.heap.size w w := Bl.refl (Nat.le_refl _)
  obtain ⟨kd, hv, svc, ver⟩ := t
  obtain ⟨n, rfl⟩ : ∃ n : Nat, kd = (n : Int) := ⟨kd.toNat, by simp only at hk; omega⟩
  simp only at *
  clear hk1 ht
  by_cases hlt : n < x.takes.length
  · have e : ((x.takes[(n : Int).toNat]?).getD 0) = x.takes[n] := by simp [hlt]
    rw [e]
    have h1 : (n : Int) < x.takes.length := by omega
    have h2 : ¬ (x.takes.length : Int) ≤ n := by omega
    rw [decide_eq_true h1, Bool.true_and]
    unfold num
    (refine callsV_of Tryz.func35 rfl KR KR ?_; rw [Tryz.results35])
    (repeat' first
    | with_reducible first | exact ⟨⟩ | (refine gB ?_; intros) | refine gT ?_ ?_
    | refine gs ?_
    | ((with_reducible refine at_f 32 ?_); refine ret_k (schedWithin) fun _ _ _ => ?_)
    | refine sxAt232 ?_)
  · have h1 : ¬ (n : Int) < x.takes.length := by omega
    have h2 : (x.takes.length : Int) ≤ n := by omega
    rw [decide_eq_false h1, Bool.false_and]
    (refine callsV_of Tryz.func35 rfl KR KR ?_; rw [Tryz.results35])
    (repeat' first
    | with_reducible first | exact ⟨⟩ | (refine gB ?_; intros) | refine gT ?_ ?_
    | refine gs ?_
    | ((with_reducible refine at_f 32 ?_); refine ret_k (schedWithin) fun _ _ _ => ?_)
    | refine sxAt232 ?_)
theorem schedAt2 {n : Int} : Ret Tryz.prog 36 #[.int .i64 n] w (.bool (!num n)) := by
  have hn : Now w := trivial
  have hx : Ext w w := Ext.refl w
  unfold num
  (refine callsV_of Tryz.func36 rfl KR KR ?_; rw [Tryz.results36])
  (repeat' first
    | with_reducible first | exact ⟨⟩ | (refine gB ?_; intros) | refine gT ?_ ?_
    | refine gs ?_
    | ((with_reducible refine at_f 32 ?_); refine ret_k (schedWithin) fun _ _ _ => ?_)
    | refine sx ?_)
theorem bits_4096 {g : Nat → Bool} {k : Nat} (h : k ≤ 12) : bitsS g k < 4096 := Nat.lt_of_lt_of_le (bits_lt k) (by have := Nat.pow_le_pow_right (n := 2) (by decide) h; simpa using this)
theorem schedAt {stop now : Int} (hB : B ≤ w.heap.size) (h : ArgT w B f s p x) (hkd : ∀ t ∈ p.steps, 0 ≤ t.kind ∧ t.kind ≤ 255) (hb : Sl w B none 1 bv (b.map intV)) : Ret Tryz.prog 16 #[.agg #[f.sv, f.av], .agg (termsC f.q x).toArray, .agg #[bv, intV stop], intV now] w (.tuple #[natV (atS p x ⟨b, stop⟩ now).1, natV (atS p x ⟨b, stop⟩ now).2]) := by
  have hn : Now w := trivial
  have hx : Ext w w := Ext.refl w
  have hbw : Bl B w w := Bl.refl hB
  have hA : Hid (∀ w', Bl B w w' → ArgT w' B f s p x) := fun w' hb => h.bl hb
  have hp1 : f.sv.oneCell' = true ∧ f.av.oneCell' = true := ⟨h.p.s.one, h.p.a.v.one⟩
  have hx1 : f.q.w.oneCell' = true ∧ f.q.a.oneCell' = true ∧ f.q.c.oneCell' = true ∧ f.q.t.oneCell' = true ∧ f.q.p.oneCell' = true := ⟨h.x.n.one, h.x.a.one, h.x.c, h.x.t.one, h.x.p.one⟩
  have hsK := h.p.s.k hB
  have htK := h.x.t.k hB
  have hbK := hb.k hB
  have hmaxs := h.p.s.max_
  have hc1 : callable Tryz.prog 35 = true := by kernel_rfl
  have hc2 : callable Tryz.prog 36 = true := by kernel_rfl
  have hcs : Hid (∀ w' (_ : Bl B w w') b5 (_ : Blk w' b5 41 [f.q.w, f.q.a, intV x.blast, f.q.c, f.q.t, f.q.p, intV x.first, intV x.last]), Ret Tryz.prog 37 #[f.sv, .func (.func 35) #[] #[.pointer (some ⟨b5, 0, none⟩)]] w' (.bool (!p.steps.all fun y => decide (y.kind < x.takes.length) && num ((x.takes[y.kind.toNat]?).getD 0)))) := fun w' h1 b5 k5 => containsNot_Step h1.size (hA.out w' h1).p.s hc1 (caps := [.pointer (some ⟨b5, 0, none⟩)]) fun t ht w'' hx2 => schedAt1 (k5.ext hx2) (((hA.out w' h1).x.t.ext hx2 h1.size).more (Nat.le_trans h1.size hx2.size)) t (hkd t ht)
  have hcb := fun w' (h1 : Bl B w w') => containsNot_int (w := w') (l := b) (caps := []) (q := num) h1.size (hb.bl h1) hc2 fun n _ w'' _ => schedAt2
  have hkd' : Hid (∀ t ∈ p.steps, 0 ≤ t.kind ∧ t.kind ≤ 255) := hkd
  clear h hb hkd
  by_cases h12 : p.steps.length ≤ 12
  rotate_left
  · have e : atS p x ⟨b, stop⟩ now = (0, 0) := by unfold atS atT; simp [h12]
    rw [e]
    have h1 : (12 : Int) < p.steps.length := by omega
    clear e h12
    (refine callsV_of Tryz.func16 rfl KR KR ?_; rw [Tryz.results16])
    (repeat' first
    | with_reducible first | exact ⟨⟩ | (refine gB ?_; intros) | refine gT ?_ ?_
    | refine gs ?_
    | refine sxAt233 ?_)
  have h12' : ¬ (12 : Int) < p.steps.length := by omega
  by_cases hl : b.length = p.steps.length
  rotate_left
  · have e : atS p x ⟨b, stop⟩ now = (0, 0) := by unfold atS atT; simp [hl]
    rw [e]
    have hl' : ((b.length : Int) == (p.steps.length : Int)) = false := by simpa using fun h => hl (by omega)
    have hl'' : ¬ (b.length : Int) = (p.steps.length : Int) := by omega
    clear e hl h12
    (refine callsV_of Tryz.func16 rfl KR KR ?_; rw [Tryz.results16])
    (repeat' first
    | with_reducible first | exact ⟨⟩ | (refine gB ?_; intros) | refine gT ?_ ?_
    | refine gs ?_
    | refine sxAt233 ?_)
  have hl' : ((b.length : Int) == (p.steps.length : Int)) = true := by simp [hl]
  have hl'' : (b.length : Int) = (p.steps.length : Int) := by omega
  have eT : atT p x ⟨b, stop⟩ = ((p.steps.all fun y => decide (y.kind < x.takes.length) && num ((x.takes[y.kind.toNat]?).getD 0)) && b.all num) := by
    unfold atT
    rw [decide_eq_true h12, decide_eq_true hl, Bool.true_and, Bool.true_and]
  cases hq1 : (p.steps.all fun y => decide (y.kind < x.takes.length) && num ((x.takes[y.kind.toNat]?).getD 0)) <;> rw [hq1] at hcs eT
  · have e : atS p x ⟨b, stop⟩ now = (0, 0) := by unfold atS; rw [eT]; simp
    rw [e]
    clear e hl h12 eT hq1
    (refine callsV_of Tryz.func16 rfl KR KR ?_; rw [Tryz.results16])
    (repeat' first
    | with_reducible first | exact ⟨⟩ | (refine gB ?_; intros) | refine gT ?_ ?_
    | refine gs ?_
    | ((with_reducible refine at_f 37 ?_); refine ret_k (hcs.out _ FR _ FR) fun _ _ _ => ?_)
    | ((with_reducible refine at_f 38 ?_); refine ret_k (hcb _ FR) fun _ _ _ => ?_)
    | refine sxAt233 ?_)
  cases hq2 : b.all num <;> rw [hq2] at hcb eT
  · have e : atS p x ⟨b, stop⟩ now = (0, 0) := by unfold atS; rw [eT]; simp
    rw [e]
    clear e hl h12 eT hq1 hq2
    (refine callsV_of Tryz.func16 rfl KR KR ?_; rw [Tryz.results16])
    (repeat' first
    | with_reducible first | exact ⟨⟩ | (refine gB ?_; intros) | refine gT ?_ ?_
    | refine gs ?_
    | ((with_reducible refine at_f 37 ?_); refine ret_k (hcs.out _ FR _ FR) fun _ _ _ => ?_)
    | ((with_reducible refine at_f 38 ?_); refine ret_k (hcb _ FR) fun _ _ _ => ?_)
    | refine sxAt233 ?_)
  obtain ⟨fd, hfd⟩ : ∃ fd : Nat → Bool, fd = fun i => decide (Sch.at_ b i + takeS p x i ≤ now) := ⟨_, rfl⟩
  obtain ⟨fg, hfg⟩ : ∃ fg : Nat → Bool, fg = fun i => decide (Sch.at_ b i ≤ now) := ⟨_, rfl⟩
  have e : atS p x ⟨b, stop⟩ now = (bitsS fd p.steps.length, bitsS fg p.steps.length) := by
    unfold atS
    rw [eT, hfd, hfg]; rfl
  rw [e]
  have hfact : Hid (∀ k (hk : k < p.steps.length) (hkb : k < b.length), ∃ n : Nat, p.steps[k].kind = (n : Int) ∧ ∃ hn : n < x.takes.length, fd k = decide (b[k] + x.takes[n] ≤ now) ∧ fg k = decide (b[k] ≤ now) ∧ 0 ≤ b[k] ∧ b[k] ≤ 1000000 ∧ 0 ≤ x.takes[n] ∧ x.takes[n] ≤ 1000000) := fun k hk hkb => by
    have h1 := List.all_eq_true.1 hq1 _ (List.getElem_mem hk)
    have h2 := List.all_eq_true.1 hq2 _ (List.getElem_mem hkb)
    have h3 := hkd'.out _ (List.getElem_mem hk)
    simp only [num, btw, Bool.and_eq_true, decide_eq_true_eq] at h1 h2
    have hn : p.steps[k].kind.toNat < x.takes.length := by omega
    refine ⟨p.steps[k].kind.toNat, by omega, hn, ?_, ?_, h2.1, h2.2, ?_⟩
    · rw [hfd]; simp only [at_at hkb, takeS, stepS_at hk, hn, List.getElem?_eq_getElem, Option.getD_some]
    · rw [hfg]; simp only [at_at hkb]
    · simpa [hn] using h1.2
  clear e eT hq1 hq2 hfd hfg
  have hld : ∀ k, k ≤ p.steps.length → bitsS fd k < 4096 := fun k hk => bits_4096 (by omega)
  have hlg : ∀ k, k ≤ p.steps.length → bitsS fg k < 4096 := fun k hk => bits_4096 (by omega)
  replace hld : Hid _ := hld
  replace hlg : Hid _ := hlg
  have hl9 : Hid (b.length = p.steps.length) := hl
  clear hl
  (refine callsV_of Tryz.func16 rfl KR KR ?_; rw [Tryz.results16])
  (repeat' first
    | with_reducible first | exact ⟨⟩ | (refine gB ?_; intros) | refine gT ?_ ?_
    | refine gs ?_
    | ((with_reducible refine at_f 37 ?_); refine ret_k (hcs.out _ FR _ FR) fun _ _ _ => ?_)
    | ((with_reducible refine at_f 38 ?_); refine ret_k (hcb _ FR) fun _ _ _ => ?_)
    | refine sxAt233 ?_)
  refine loop_k (p.steps.length) (fun g0 k g _ => g 43 = .int .i64 k ∧ (g 3 = g0 3 ∧ g 5 = g0 5 ∧ g 6 = g0 6 ∧ g 41 = g0 41 ∧ g 42 = g0 42) ∧ g 8 = .int .i64 ((bitsS fd k : Nat) : Int) ∧ g 9 = .int .i64 ((bitsS fg k : Nat) : Int)) KR (hmaxs) ?_ ?_ ?_
  · (repeat' first
    | with_reducible first | exact ⟨⟩ | (refine gB ?_; intros) | refine gT ?_ ?_
    | refine gs ?_
    | refine sxAt231 ?_)
    exact ⟨rfl, rfl⟩
  · rintro k m g wk hk hlt _ _ _ hw ⟨hi, hf, hp⟩
    simp (maxDischargeDepth := 3) only [U, ↓reduceIte, Nat.reduceEqDiff, *] at hf
    obtain ⟨h8, h9⟩ := hp
    have hkb : k < b.length := by rw [hl9.out]; exact hlt
    have hkb' : (k : Int) < (b.length : Int) := by omega
    obtain ⟨n, hn1, hn2, e1, e2, r1, r2, r3, r4⟩ := hfact.out k hlt hkb
    have hws : IntKind.i64.wrap (b[k] + x.takes[n]) = b[k] + x.takes[n] := by rw [wrap_i64_id] <;> omega
    have hs := shlI_nat (k := k) (by omega)
    have h2k : 2 ^ k < 4611686018427387904 := Nat.lt_of_lt_of_le (Nat.pow_lt_pow_right (by decide) (show k < 62 by omega)) (by decide)
    have ho1 : orI .i64 ((bitsS fd k : Nat) : Int) ((2 ^ k : Nat) : Int) = ((bitsS fd k ||| 2 ^ k : Nat) : Int) := orI_nat (by have := hld.out k (by omega); omega) h2k
    have ho2 : orI .i64 ((bitsS fg k : Nat) : Int) ((2 ^ k : Nat) : Int) = ((bitsS fg k ||| 2 ^ k : Nat) : Int) := orI_nat (by have := hlg.out k (by omega); omega) h2k
    have hd1 : Hid (bitsS fd (k + 1) = if b[k] + x.takes[n] ≤ now then bitsS fd k ||| 2 ^ k else bitsS fd k) := by
      show bitsS fd k ||| (if fd k = true then 2 ^ k else 0) = _
      rw [e1]
      by_cases hc : b[k] + x.takes[n] ≤ now <;> simp [hc]
    have hg1 : Hid (bitsS fg (k + 1) = if b[k] ≤ now then bitsS fg k ||| 2 ^ k else bitsS fg k) := by
      show bitsS fg k ||| (if fg k = true then 2 ^ k else 0) = _
      rw [e2]
      by_cases hc : b[k] ≤ now <;> simp [hc]
    clear e1 e2 r1 r2 r3 r4 h2k
    (repeat' first
    | with_reducible first | exact ⟨⟩ | (refine gB ?_; intros) | refine gT ?_ ?_
    | refine gs ?_
    | simp (maxDischargeDepth := 3) only [↓X, ↓Y, ↓Q, S1, ↓reduceIte, Nat.reduceEqDiff, Nat.reduceAdd, Int.reduceLT, Int.reduceLE, Int.reduceNeg, Int.reduceBEq, Int.reduceBNe, Int.reduceEq, Nat.reduceLeDiff, Nat.reduceMul, Nat.reduceLT, *, stepV, stepC]
    | simp (singlePass := true) (maxDischargeDepth := 99) only [*, S2, Nat.reduceLT, stepV, stepC])
    all_goals
      refine next_k hk hlt ?_ FR
      (repeat' first
    | with_reducible first | exact ⟨⟩ | (refine gB ?_; intros) | refine gT ?_ ?_
    | refine gs ?_
    | refine sx ?_)
      constructor <;> first | (rw [hd1.out]; simp [*]; done) | (rw [hg1.out]; simp [*]; done)
  · rintro g wk _ _ _ ⟨hi, hf, hp⟩
    simp (maxDischargeDepth := 3) only [U, ↓reduceIte, Nat.reduceEqDiff, *] at hf
    obtain ⟨h8, h9⟩ := hp
    (repeat' first
    | with_reducible first | exact ⟨⟩ | (refine gB ?_; intros) | refine gT ?_ ?_
    | refine gs ?_
    | refine sx ?_)
end
end Go.Proofs.YtopfddchckdhgaaGreat
