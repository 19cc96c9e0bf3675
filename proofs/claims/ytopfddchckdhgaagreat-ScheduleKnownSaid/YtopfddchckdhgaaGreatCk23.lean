
/- The layer schedule: Check. -/
import Derived.Test.YtopfddchckdhgaaGreatMk23
namespace Go.Proofs.YtopfddchckdhgaaGreat
set_option linter.unusedSimpArgs false
set_option linter.unusedVariables false
open Go Go.RowKit
set_option maxRecDepth 100000
set_option linter.unusedSectionVars false
set_option maxHeartbeats 4000000
theorem sxCk231 {p q : Prop} (hq : q) (h : p = q := by first | (simp (maxDischargeDepth := 3) only [↓X, ↓Y, ↓Q, S1, ↓reduceIte, Nat.reduceEqDiff, Nat.reduceAdd, Int.reduceLT, Int.reduceLE, Int.reduceNeg, Int.reduceBEq, Int.reduceBNe, Int.reduceEq, Nat.reduceLeDiff, Nat.reduceMul, Nat.reduceLT, *, siteC, termsC, noB, breachC]; try exact rfl) | (simp (singlePass := true) (maxDischargeDepth := 99) only [*, S2, Nat.reduceLT, siteC, termsC, noB, breachC]; try exact rfl)) : p := h ▸ hq
theorem sxCk232 {p q : Prop} (hq : q) (h : p = q := by first | (simp (maxDischargeDepth := 3) only [↓X, ↓Y, ↓Q, S1, ↓reduceIte, Nat.reduceEqDiff, Nat.reduceAdd, Int.reduceLT, Int.reduceLE, Int.reduceNeg, Int.reduceBEq, Int.reduceBNe, Int.reduceEq, Nat.reduceLeDiff, Nat.reduceMul, Nat.reduceLT, *, Option.isSome_none]; try exact rfl) | (simp (singlePass := true) (maxDischargeDepth := 99) only [*, S2, Nat.reduceLT, Option.isSome_none]; try exact rfl)) : p := h ▸ hq
theorem find_range {β : Type} {n k : Nat} {F : Nat → Option β} {v : β} (hk : k < n) (hn : ∀ j, j < k → F j = none) (hv : F k = some v) : (List.range n).findSome? F = some v := by
  refine List.findSome?_eq_some_iff.2 ⟨(List.range n).take k, k, (List.range n).drop (k + 1), ?_, hv, fun j hj => ?_⟩
  · have h1 : k < (List.range n).length := by rw [List.length_range]; exact hk
    have h2 := List.drop_eq_getElem_cons h1
    rw [List.getElem_range] at h2
    rw [← h2, List.take_append_drop]
  · refine hn j ?_
    obtain ⟨i, hi, e⟩ := List.getElem_of_mem hj
    rw [List.getElem_take, List.getElem_range] at e
    rw [List.length_take] at hi
    omega
section
variable {w w' : World} {B : Nat} {f : FrV} {bv : Value} {s : SiteD} {p : PlanD} {x : TermsD} {b : List Int}
theorem broken_row {k : Nat} (h : ∀ i, i < p.steps.length → (ruleS s p x b k i).2 = true) : ((List.range p.steps.length).findSome? fun i => if (ruleS s p x b k i).2 = true then none else some (⟨(k : Int) + 1, i, (ruleS s p x b k i).1⟩ : BreachD)) = none := by
  rw [List.findSome?_eq_none_iff]
  intro i hi
  rw [if_pos (h i (List.mem_range.1 hi))]
theorem broken_at {k i : Nat} (hk : k < 4) (hi : i < p.steps.length) (h1 : ∀ k', k' < k → ∀ i, i < p.steps.length → (ruleS s p x b k' i).2 = true) (h2 : ∀ i', i' < i → (ruleS s p x b k i').2 = true) (h3 : (ruleS s p x b k i).2 = false) : brokenS s p x b = some ⟨(k : Int) + 1, i, (ruleS s p x b k i).1⟩ := by
  unfold brokenS
  refine find_range hk (fun j hj => broken_row (h1 j hj)) (find_range hi (fun j hj => if_pos (h2 j hj)) ?_)
  rw [if_neg (by rw [h3]; simp)]
theorem broken_no (h1 : ∀ k', k' < 4 → ∀ i, i < p.steps.length → (ruleS s p x b k' i).2 = true) : brokenS s p x b = none := by
  unfold brokenS
  rw [List.findSome?_eq_none_iff]
  intro k hk
  exact broken_row (h1 k (List.mem_range.1 hk))
theorem schedCheck1 {n : Int} : Ret Tryz.prog 31 #[.int .i64 n] w (.bool (num n)) := by
  have hn : Now w := trivial
  have hx : Ext w w := Ext.refl w
  unfold num
  (refine callsV_of Tryz.func31 rfl KR KR ?_; rw [Tryz.results31])
  (repeat' first
    | with_reducible first | exact ⟨⟩ | (refine gB ?_; intros) | refine gT ?_ ?_
    | refine gs ?_
    | ((with_reducible refine at_f 32 ?_); refine ret_k (schedWithin) fun _ _ _ => ?_)
    | refine sx ?_)
theorem schedCheck {stop : Int} (hB : B ≤ w.heap.size) (h : ArgT w B f s p x) (hkd : ∀ t ∈ p.steps, 0 ≤ t.kind ∧ t.kind ≤ 255) (hb : Sl w B none 1 bv (b.map intV)) : Ret Tryz.prog 15 #[.agg (siteC f.u s).toArray, .agg #[f.sv, f.av], .agg (termsC f.q x).toArray, .agg #[bv, intV stop]] w (.tuple #[.agg (breachC (checkS s p x ⟨b, stop⟩).1).toArray, intV (checkS s p x ⟨b, stop⟩).2]) := by
  have hn : Now w := trivial
  have hx : Ext w w := Ext.refl w
  have hbw : Bl B w w := Bl.refl hB
  have hA : Hid (∀ w', Bl B w w' → ArgT w' B f s p x) := fun w' hb => h.bl hb
  have hvl := fun w' (h1 : Bl B w w') => schedValid h1.size (hA.out w' h1) hkd
  have hs1 : f.u.f.oneCell' = true ∧ f.u.b.oneCell' = true ∧ f.u.l.oneCell' = true ∧ f.u.r.oneCell' = true ∧ f.u.k.oneCell' = true ∧ f.u.h.oneCell' = true := ⟨h.s.f.one, h.s.b.one, h.s.l.one, h.s.r.one, h.s.k.one, h.s.h.one⟩
  have hp1 : f.sv.oneCell' = true ∧ f.av.oneCell' = true := ⟨h.p.s.one, h.p.a.v.one⟩
  have hx1 : f.q.w.oneCell' = true ∧ f.q.a.oneCell' = true ∧ f.q.c.oneCell' = true ∧ f.q.t.oneCell' = true ∧ f.q.p.oneCell' = true := ⟨h.x.n.one, h.x.a.one, h.x.c, h.x.t.one, h.x.p.one⟩
  have hsW : SlWf f.sv ∧ isSl f.sv ∧ lenN f.sv = p.steps.length ∧ cellsL f.sv = [f.sv] := ⟨h.p.s.wf, h.p.s.sl, by simpa using h.p.s.len, cellsL_one h.p.s.one⟩
  have hbW : SlWf bv ∧ isSl bv ∧ lenN bv = b.length ∧ cellsL bv = [bv] ∧ bv.oneCell' = true := ⟨hb.wf, hb.sl, by simpa using hb.len, cellsL_one hb.one, hb.one⟩
  have hc1 : callable Tryz.prog 31 = true := by kernel_rfl
  have hev := fun w' (h1 : Bl B w w') => every_int (w := w') (l := b) (caps := []) (q := num) h1.size (hb.bl h1) hc1 fun n _ w'' _ => schedCheck1
  have hmaxs := h.p.s.max_
  have hb' : Hid (∀ w', Bl B w w' → Sl w' B none 1 bv (b.map intV)) := fun w' h1 => hb.bl h1
  clear h hb
  cases hv : validT s p x
  · have e : checkS s p x ⟨b, stop⟩ = (noB, 1) := by unfold checkS; rw [hv]; simp
    rw [e]
    rw [hv] at hvl
    clear hv e
    (refine callsV_of Tryz.func15 rfl KR KR ?_; rw [Tryz.results15])
    (repeat' first
    | with_reducible first | exact ⟨⟩ | (refine gB ?_; intros) | refine gT ?_ ?_
    | refine gs ?_
    | ((with_reducible refine at_f 20 ?_); refine ret_k (hvl _ FR) fun _ _ _ => ?_)
    | ((with_reducible refine at_f 30 ?_); refine ret_k (hev _ FR) fun _ _ _ => ?_)
    | refine sxCk231 ?_)
  · rw [hv] at hvl
    by_cases ht : b.length = p.steps.length ∧ b.all num = true
    rotate_left
    · have e : checkS s p x ⟨b, stop⟩ = (noB, 1) := by
        unfold checkS
        rw [if_neg]
        rintro ⟨_, h2⟩
        simp only [tableT, Bool.and_eq_true, decide_eq_true_eq] at h2
        exact ht h2
      rw [e]
      have ht' : Hid _ := ht
      clear hv e ht
      by_cases hl : b.length = p.steps.length
      · have ha : b.all num = false := by
          cases hq : b.all num
          · rfl
          · exact absurd ⟨hl, hq⟩ ht'.out
        rw [ha] at hev
        have hl' : ((b.length : Int) == (p.steps.length : Int)) = true := by simp [hl]
        have hl'' : (b.length : Int) = (p.steps.length : Int) := by omega
        (refine callsV_of Tryz.func15 rfl KR KR ?_; rw [Tryz.results15])
        (repeat' first
    | with_reducible first | exact ⟨⟩ | (refine gB ?_; intros) | refine gT ?_ ?_
    | refine gs ?_
    | ((with_reducible refine at_f 20 ?_); refine ret_k (hvl _ FR) fun _ _ _ => ?_)
    | ((with_reducible refine at_f 30 ?_); refine ret_k (hev _ FR) fun _ _ _ => ?_)
    | refine sxCk231 ?_)
      · have hl' : ((b.length : Int) == (p.steps.length : Int)) = false := by simpa using fun h => hl (by omega)
        have hl'' : ¬ (b.length : Int) = (p.steps.length : Int) := by omega
        (refine callsV_of Tryz.func15 rfl KR KR ?_; rw [Tryz.results15])
        (repeat' first
    | with_reducible first | exact ⟨⟩ | (refine gB ?_; intros) | refine gT ?_ ?_
    | refine gs ?_
    | ((with_reducible refine at_f 20 ?_); refine ret_k (hvl _ FR) fun _ _ _ => ?_)
    | ((with_reducible refine at_f 30 ?_); refine ret_k (hev _ FR) fun _ _ _ => ?_)
    | refine sxCk231 ?_)
    · obtain ⟨hl, ha⟩ := ht
      have hF : Hid (Fit s p x) := fit_of hv
      have hBeg : Hid (BegD p b) := ⟨hl, fun t ht => by
        have := List.all_eq_true.1 ha t ht
        simp only [num, btw, Bool.and_eq_true, decide_eq_true_eq] at this
        omega⟩
      have hck : Hid (checkS s p x ⟨b, stop⟩ = match brokenS s p x b with | some y => (y, 13) | none => match crowdS s p x b with | some (a, c) => (⟨5, a, c⟩, 13) | none => if stop = Sch.stop (scS s p x) b then (noB, 0) else (⟨6, 0, 0⟩, 13)) := by
        unfold checkS
        rw [if_pos ⟨hv, by simp only [tableT, Bool.and_eq_true, decide_eq_true_eq]; exact ⟨hl, ha⟩⟩]
        refine (?_ : _ = _)
        rfl
      obtain ⟨M, hM⟩ : ∃ M, M = checkS s p x ⟨b, stop⟩ := ⟨_, rfl⟩
      rw [← hM] at hck ⊢
      rw [ha] at hev
      have hl' : ((b.length : Int) == (p.steps.length : Int)) = true := by simp [hl]
      have hl'' : (b.length : Int) = (p.steps.length : Int) := by omega
      clear hv hM ha
      (refine callsV_of Tryz.func15 rfl KR KR ?_; rw [Tryz.results15])
      (repeat' first
    | with_reducible first | exact ⟨⟩ | (refine gB ?_; intros) | refine gT ?_ ?_
    | refine gs ?_
    | ((with_reducible refine at_f 20 ?_); refine ret_k (hvl _ FR) fun _ _ _ => ?_)
    | ((with_reducible refine at_f 30 ?_); refine ret_k (hev _ FR) fun _ _ _ => ?_)
    | simp (maxDischargeDepth := 3) only [↓X, ↓Y, ↓Q, S1, ↓reduceIte, Nat.reduceEqDiff, Nat.reduceAdd, Int.reduceLT, Int.reduceLE, Int.reduceNeg, Int.reduceBEq, Int.reduceBNe, Int.reduceEq, Nat.reduceLeDiff, Nat.reduceMul, Nat.reduceLT, *, siteC, termsC]
    | simp (singlePass := true) (maxDischargeDepth := 99) only [*, S2, Nat.reduceLT, siteC, termsC])
      rename_i b4 w4 n4 k4 s4 q4 b5 w5 n5 k5 s5 q5 b6 w6 n6 k6 s6 q6 b7 w7 n7 k7 s7 q7 b8 w8 n8 k8 s8 q8 wa na sa wb nb sb bf wf nf kf sf qf
      have hBf : Bl B w wf := FR
      have hxf : Ext w wf := FR
      have hfr : Hid (FrR wf bf f bv s p x b) := ⟨kf.2.1 wf kf.2.2.1, (hA.out wf hBf).more hBf.size, (hb'.out wf hBf).more hBf.size⟩
      have hrc : Hid (∀ w' (_ : Ext wf w') i (_ : i < p.steps.length) k (_ : k < 4) K (_ : ∀ w'', Now w'' → St w' w'' → K (.tuple #[intV (ruleS s p x b k i).1, .bool (ruleS s p x b k i).2]) w''), callX Tryz.prog (ruleF bf k) [.int .i64 i] w' K) := fun w' h2 i hi k hk K hK => rule_call hF.out hBeg.out (hfr.out.ext h2) (K := K) hi hk hK
      have hcr : Hid _ := fun w' (h2 : Ext wf w') => frCrowd hF.out hBeg.out (hfr.out.ext h2)
      have hla := fun w' (h2 : Ext wf w') => frLast hF.out hBeg.out (hfr.out.ext h2)
      have rf := Ext.refl wf
      clear hvl hev
      refine call_k (frRules (fb := bf)) ?_
      rintro v w1 n1 s1 hO
      obtain ⟨L, hL⟩ : ∃ L : List Nat, L = List.range 4 := ⟨_, rfl⟩
      have hLl : Hid (L.length = 4) := by rw [hL]; exact List.length_range
      have hLk : Hid (∀ k (h : k < L.length), L[k] = k) := fun k h => by subst hL; exact List.getElem_range _
      rw [← hL] at hO
      have hS : SlK w1 w1.heap.size 2 (some 2) v L (ruleV bf) := (hO.slN (f := ruleC bf)).k (Nat.le_refl _)
      have r1 := Ext.refl w1
      have hxf1 : Ext wf w1 := FR
      have hmaxL : L.length ≤ 9223372036854775807 := by rw [hLl.out]; decide
      obtain ⟨V, hV⟩ : ∃ V : Nat → Nat → Int, V = fun k i => (ruleS s p x b k i).1 := ⟨_, rfl⟩
      obtain ⟨T, hT⟩ : ∃ T : Nat → Nat → Bool, T = fun k i => (ruleS s p x b k i).2 := ⟨_, rfl⟩
      have hVk : ∀ k i, (ruleS s p x b k i).1 = V k i := fun k i => by rw [hV]
      have hTk : ∀ k i, (ruleS s p x b k i).2 = T k i := fun k i => by rw [hT]
      replace hVk : Hid _ := hVk
      replace hTk : Hid _ := hTk
      clear hO hL hV hT
      (repeat' first
    | with_reducible first | exact ⟨⟩ | (refine gB ?_; intros) | refine gT ?_ ?_
    | refine gs ?_
    | refine sx ?_)
      refine loop_k (L.length) (fun g0 k g _ => g 50 = .int .i64 k ∧ (g 5 = g0 5 ∧ g 7 = g0 7 ∧ g 8 = g0 8 ∧ g 10 = g0 10 ∧ g 48 = g0 48 ∧ g 49 = g0 49) ∧ Hid (∀ k', k' < k → ∀ i, i < p.steps.length → T k' i = true)) KR (hmaxL) ?_ ?_ ?_
      · (repeat' first
    | with_reducible first | exact ⟨⟩ | (refine gB ?_; intros) | refine gT ?_ ?_
    | refine gs ?_
    | simp (maxDischargeDepth := 3) only [↓X, ↓Y, ↓Q, S1, ↓reduceIte, Nat.reduceEqDiff, Nat.reduceAdd, Int.reduceLT, Int.reduceLE, Int.reduceNeg, Int.reduceBEq, Int.reduceBNe, Int.reduceEq, Nat.reduceLeDiff, Nat.reduceMul, Nat.reduceLT, *, List.take_zero, List.all_nil, List.any_nil]
    | simp (singlePass := true) (maxDischargeDepth := 99) only [*, S2, Nat.reduceLT, List.take_zero, List.all_nil, List.any_nil])
        exact fun k' h => absurd h (by omega)
      · rintro k m g wk hk hlt _ _ _ hw ⟨hi, hf, hp⟩
        simp (maxDischargeDepth := 3) only [U, ↓reduceIte, Nat.reduceEqDiff, *] at hf
        have hLe := hLk.out k hlt
        have hk4 : k < 4 := by rw [← hLl.out]; exact hlt
        have h1c := ruleF_one bf k
        have h2c := ruleF_cells bf k
        have rk := Ext.refl wk
        have hxk : Ext wf wk := FR
        (repeat' first
    | with_reducible first | exact ⟨⟩ | (refine gB ?_; intros) | refine gT ?_ ?_
    | refine gs ?_
    | simp (maxDischargeDepth := 3) only [↓X, ↓Y, ↓Q, S1, ↓reduceIte, Nat.reduceEqDiff, Nat.reduceAdd, Int.reduceLT, Int.reduceLE, Int.reduceNeg, Int.reduceBEq, Int.reduceBNe, Int.reduceEq, Nat.reduceLeDiff, Nat.reduceMul, Nat.reduceLT, *, ruleV, ruleC]
    | simp (singlePass := true) (maxDischargeDepth := 99) only [*, S2, Nat.reduceLT, ruleV, ruleC])
        refine loop_k (p.steps.length) (fun g0 j g _ => g 57 = .int .i64 j ∧ (g 5 = g0 5 ∧ g 7 = g0 7 ∧ g 8 = g0 8 ∧ g 10 = g0 10 ∧ g 12 = g0 12 ∧ g 48 = g0 48 ∧ g 49 = g0 49 ∧ g 50 = g0 50 ∧ g 56 = g0 56) ∧ Hid (∀ i, i < j → T k i = true)) KR hmaxs ?_ ?_ ?_
        · (repeat' first
    | with_reducible first | exact ⟨⟩ | (refine gB ?_; intros) | refine gT ?_ ?_
    | refine gs ?_
    | refine sx ?_)
          all_goals exact fun i h => absurd h (by omega)
        · rintro j m2 g2 wj hj2 hjlt nj sj bj hwj ⟨hi2, hf2, hpj⟩
          simp (maxDischargeDepth := 3) only [U, ↓reduceIte, Nat.reduceEqDiff, *] at hf2
          (repeat' first
    | with_reducible first | exact ⟨⟩ | (refine gB ?_; intros) | refine gT ?_ ?_
    | refine gs ?_
    | refine sx ?_)
          have hxj : Ext wf wj := FR
          refine hrc.out wj hxj j hjlt k hk4 _ fun w9 n9 s9 => ?_
          rw [hVk.out, hTk.out]
          cases hq : T k j
          · have hMe : Hid (M = (⟨(k : Int) + 1, j, V k j⟩, 13)) := by
              rw [hck.out, broken_at hk4 hjlt (fun k' h1 i h2 => (hTk.out k' i).trans (hp.out k' h1 i h2)) (fun i h1 => (hTk.out k i).trans (hpj.out i h1)) ((hTk.out k j).trans hq), hVk.out]
              exact (rfl : _ = _)
            clear hp hpj
            (repeat' first
    | with_reducible first | exact ⟨⟩ | (refine gB ?_; intros) | refine gT ?_ ?_
    | refine gs ?_
    | refine sx ?_)
            all_goals rw [hMe.out]
            all_goals rfl
          · have hpn : Hid (∀ i, i < j + 1 → T k i = true) := fun i h => by
              rcases Nat.lt_or_eq_of_le (Nat.le_of_lt_succ h) with h1 | rfl
              · exact hpj.out i h1
              · exact hq
            clear hpj
            (repeat' first
    | with_reducible first | exact ⟨⟩ | (refine gB ?_; intros) | refine gT ?_ ?_
    | refine gs ?_
    | refine sx ?_)
            refine next_k hj2 hjlt ?_ FR
            (repeat' first
    | with_reducible first | exact ⟨⟩ | (refine gB ?_; intros) | refine gT ?_ ?_
    | refine gs ?_
    | refine sx ?_)
            all_goals exact hpn.out
        · rintro g2 wj nj sj bj ⟨hi2, hf2, hpj⟩
          simp (maxDischargeDepth := 3) only [U, ↓reduceIte, Nat.reduceEqDiff, *] at hf2
          have hpn : Hid (∀ k', k' < k + 1 → ∀ i, i < p.steps.length → T k' i = true) := fun k' h i hi => by
            rcases Nat.lt_or_eq_of_le (Nat.le_of_lt_succ h) with h1 | h1
            · exact hp.out k' h1 i hi
            · rw [h1]; exact hpj.out i hi
          clear hpj hp
          (repeat' first
    | with_reducible first | exact ⟨⟩ | (refine gB ?_; intros) | refine gT ?_ ?_
    | refine gs ?_
    | refine sx ?_)
          refine next_k hk hlt ?_ FR
          (repeat' first
    | with_reducible first | exact ⟨⟩ | (refine gB ?_; intros) | refine gT ?_ ?_
    | refine gs ?_
    | refine sx ?_)
          all_goals exact hpn.out
      · rintro g wk _ _ _ ⟨hi, hf, hp⟩
        simp (maxDischargeDepth := 3) only [U, ↓reduceIte, Nat.reduceEqDiff, *] at hf
        have hbn : brokenS s p x b = none := broken_no fun k' h1 i h2 => (hTk.out k' i).trans (hp.out k' (by rw [hLl.out]; exact h1) i h2)
        rw [hbn] at hck
        simp only at hck
        have hxk : Ext wf wk := FR
        clear hp hbn
        (repeat' first
    | with_reducible first | exact ⟨⟩ | (refine gB ?_; intros) | refine gT ?_ ?_
    | refine gs ?_
    | refine sx ?_)
        refine call_k (hcr.out wk hxk) ?_
        rintro _ w2 n2 s2 ⟨u, v2, rfl, hcw⟩
        cases hc : crowdS s p x b with
        | some q =>
          obtain rfl := hcw q hc
          rw [hc] at hck
          simp only at hck
          replace hck : Hid (M = _) := hck
          clear hcw hc
          (repeat' first
    | with_reducible first | exact ⟨⟩ | (refine gB ?_; intros) | refine gT ?_ ?_
    | refine gs ?_
    | simp (maxDischargeDepth := 3) only [↓X, ↓Y, ↓Q, S1, ↓reduceIte, Nat.reduceEqDiff, Nat.reduceAdd, Int.reduceLT, Int.reduceLE, Int.reduceNeg, Int.reduceBEq, Int.reduceBNe, Int.reduceEq, Nat.reduceLeDiff, Nat.reduceMul, Nat.reduceLT, *, Option.isSome_some]
    | simp (singlePass := true) (maxDischargeDepth := 99) only [*, S2, Nat.reduceLT, Option.isSome_some])
          all_goals rw [hck.out]
          all_goals rfl
        | none =>
          rw [hc] at hck
          simp only at hck
          clear hcw hc
          by_cases he : stop = Sch.stop (scS s p x) b
          · rw [if_pos he] at hck
            replace hck : Hid (M = _) := hck
            (repeat' first
    | with_reducible first | exact ⟨⟩ | (refine gB ?_; intros) | refine gT ?_ ?_
    | refine gs ?_
    | ((with_reducible refine at_q 25 ?_); refine qret_k (fun _ _ _ => hla _ FR) ?_)
    | ((with_reducible refine at_f 25 ?_); refine ret_k (hla _ FR) fun _ _ _ => ?_)
    | refine sxCk232 ?_)
            all_goals rw [hck.out]
            all_goals rfl
          · rw [if_neg he] at hck
            replace hck : Hid (M = _) := hck
            have he' : (stop == Sch.stop (scS s p x) b) = false := by simpa using he
            (repeat' first
    | with_reducible first | exact ⟨⟩ | (refine gB ?_; intros) | refine gT ?_ ?_
    | refine gs ?_
    | ((with_reducible refine at_q 25 ?_); refine qret_k (fun _ _ _ => hla _ FR) ?_)
    | ((with_reducible refine at_f 25 ?_); refine ret_k (hla _ FR) fun _ _ _ => ?_)
    | refine sxCk232 ?_)
            all_goals rw [hck.out]
            all_goals rfl
end
end Go.Proofs.YtopfddchckdhgaaGreat
