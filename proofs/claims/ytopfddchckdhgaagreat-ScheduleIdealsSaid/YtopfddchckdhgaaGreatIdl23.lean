
/- The statement ScheduleIdeals, walked. -/
import Derived.Test.YtopfddchckdhgaaGreatLawU23
namespace Go.Proofs.YtopfddchckdhgaaGreat
set_option linter.unusedSimpArgs false
set_option linter.unusedVariables false
open Go Go.RowKit
set_option maxRecDepth 100000
set_option linter.unusedSectionVars false
set_option maxHeartbeats 2000000
theorem sxIdl231 {p q : Prop} (hq : q) (h : p = q := by first | (simp (maxDischargeDepth := 3) only [↓X, ↓Y, ↓Q, S1, ↓reduceIte, Nat.reduceEqDiff, Nat.reduceAdd, Int.reduceLT, Int.reduceLE, Int.reduceNeg, Int.reduceBEq, Int.reduceBNe, Int.reduceEq, Nat.reduceLeDiff, Nat.reduceMul, Nat.reduceLT, *, List.take_zero, List.all_nil, List.any_nil]; try exact rfl) | (simp (singlePass := true) (maxDischargeDepth := 99) only [*, S2, Nat.reduceLT, List.take_zero, List.all_nil, List.any_nil]; try exact rfl)) : p := h ▸ hq
section
variable {w : World} {B : Nat} {r : RawD}
theorem lawScheduleIdeals {now : Int} (hB : B ≤ w.heap.size) (hr : RawR w B r) : Ret Tryz.prog 5 #[.agg (rawC r).toArray, .int .u16 now] w (.bool true) := by
  have hn : Now w := trivial
  have hx : Ext w w := Ext.refl w
  have hr' : Hid (RawR w B r) := hr
  have o1 := hr.k.one
  have o2 := hr.h.one
  have o3 := hr.a.one
  have o4 := hr.n.one
  have o5 := hr.p.one
  have o6 := hr.d.one
  clear hr
  (refine callsV_of Tryz.func5 rfl KR KR ?_; rw [Tryz.results5])
  (repeat' first
    | with_reducible first | exact ⟨⟩ | (refine gB ?_; intros) | refine gT ?_ ?_
    | refine gs ?_
    | simp (maxDischargeDepth := 3) only [↓X, ↓Y, ↓Q, S1, ↓reduceIte, Nat.reduceEqDiff, Nat.reduceAdd, Int.reduceLT, Int.reduceLE, Int.reduceNeg, Int.reduceBEq, Int.reduceBNe, Int.reduceEq, Nat.reduceLeDiff, Nat.reduceMul, Nat.reduceLT, *, rawC]
    | simp (singlePass := true) (maxDischargeDepth := 99) only [*, S2, Nat.reduceLT, rawC])
  rename_i b1 w2 n2 k2 s2 q2
  have hxw2 : Ext w w2 := FR
  refine call_k (law23made (r := r) (by have := hxw2.size; omega) (hr'.out.ext hxw2 hB)) ?_
  rintro _ w3 n3 s3 ⟨hv, pv, xv, p, x, rfl, hH, hP, hT, hX, hx1, hxl⟩
  replace hx1 : Hid (x.first = 20) := hx1
  obtain ⟨c0, c1, c2, c5, u, rfl, ou⟩ := hH.cells
  obtain ⟨sv, av, vs, Bp, rfl, osv, oav, oS, _⟩ := hP.cells
  obtain ⟨wv, rv, apv, c7, Bt, rfl, owv, orv, oap, _⟩ := hT.cells
  have hi0 : ∀ {w' : World}, Ext w3 w' → HouV w' (.agg #[.slice (some ⟨c0, 0, none⟩) 1 1, .slice (some ⟨c1, 0, none⟩) 1 1, .slice (some ⟨c2, 0, none⟩) 1 1, .slice (some ⟨c5, 0, none⟩) 2 2, .int .i64 1, .slice none 0 0, u]) 4 := fun hx => hH.ext hx
  replace hi0 : Hid _ := @hi0
  have hi1 : ∀ {w' : World}, Ext w3 w' → PlnV w' (.agg #[sv, av]) p := fun hx => hP.ext hx
  replace hi1 : Hid _ := @hi1
  have hi2 : ∀ {w' : World}, Ext w3 w' → TmsV w' (.agg #[wv, rv, .int .i64 x.blast, .slice none 0 0, .slice (some ⟨c7, 0, none⟩) 8 8, apv, .int .i64 x.first, .int .i64 x.last]) x := fun hx => hT.ext hx
  replace hi2 : Hid _ := @hi2
  have hxw3 : Ext w w3 := FR
  clear hH hP hT hr' k2 s2 q2 s3
  have s3 := hxw3.st
  have r3 := Ext.refl w3
  have hn8 : p.steps.length ≤ 8 := hX.n
  have hla : Hid (p.after.length = p.steps.length) := hX.la
  rcases make_cases hX with ⟨b, hm, hmt, _⟩ | ⟨i, hm, hi, _⟩
  · have hid := fun now' => ideal_made (e := Sch.stop (scS (houseD 4) p x) b) (now := now') (made_valid hX) hmt
    generalize Sch.stop (scS (houseD 4) p x) b = stp at *
    replace hid : Hid _ := hid
    have KS := (oS.slN (f := stepC)).k (Nat.le_refl _)
    have bl3 : Bl w3.heap.size w3 w3 := Bl.refl (Nat.le_refl _)
    clear oS
    (repeat' first
    | with_reducible first | exact ⟨⟩ | (refine gB ?_; intros) | refine gT ?_ ?_
    | refine gs ?_
    | refine sx ?_)
    rename_i b4 w4 n4 k4 s4 q4 b5 w5 n5 k5 s5 q5 b6 w6 n6 k6 s6 q6 w7 n7 k7 s7 w8 n8 k8 s8 w9 n9 k9 s9
    have hx39 : Ext w3 w9 := FR
    refine call_k (mk_of (hi0.out hx39) (hi1.out hx39) (hi2.out hx39) hX hm) ?_
    rintro _ wm nm sm ⟨tv, rfl, ho⟩
    have otv := ho.one
    have hx3m : Ext w3 wm := FR
    have rm := Ext.refl wm
    generalize hnw : IntKind.i64.wrap (now.tmod 400) = nw
    (repeat' first
    | with_reducible first | exact ⟨⟩ | (refine gB ?_; intros) | refine gT ?_ ?_
    | refine gs ?_
    | refine sx ?_)
    rename_i b10 w10 n10 k10 s10 q10 w11 n11 k11 s11
    have hx3b : Ext w3 w11 := FR
    have hxmb : Ext wm w11 := FR
    obtain ⟨d, g, hat⟩ : ∃ d g, atS p x ⟨b, stp⟩ nw = (d, g) := ⟨_, _, rfl⟩
    have hid' := hid.out nw
    have hlt2 := at_lt (x := x) (b := b) (m := stp) (now := nw) hn8
    rw [hat] at hid' hlt2
    simp only at hid' hlt2
    have h2n : 2 ^ p.steps.length ≤ 256 := Nat.pow_le_pow_right (by decide) hn8
    have hd8 : d < 256 := by omega
    have hg8 : g < 256 := by omega
    have es1 : shrI .i64 (d : Int) ((p.steps.length : Nat) : Int) = 0 := shr_zero hn8 hlt2.1
    have es2 : shrI .i64 (g : Int) ((p.steps.length : Nat) : Int) = 0 := shr_zero hn8 hlt2.2
    have hwn : IntKind.u64.wrap ((p.steps.length : Nat) : Int) = ((p.steps.length : Nat) : Int) := by rw [IntKind.wrap_u64]; omega
    refine ret_k (atM_of (hi0.out hx3b) (hi1.out hx3b) (hi2.out hx3b) hX (ho.ext hxmb) hat) fun w12 n12 s12 => ?_
    replace hid' : Hid _ := hid'
    have hpl : Hid (∀ i, i < p.steps.length → ∀ j ∈ afterS p i, 0 ≤ j ∧ j < p.steps.length ∧ ¬ j = i) := (fit_of (made_valid hX)).places
    have hx3c : Ext w3 w12 := FR
    have k5c := (show Blk w12 b5 33 [sv, av] from k8.2.1 _ FR).bk
    have bl12 : Bl w3.heap.size w3 w12 := FR
    have hxc : Ext w w12 := FR
    have scx := hxc.st
    clear k8 bl3 s12 n4 n5 n6 n7 n8 n9 nm n10 n11 rm k5 ho hmt hm hid hat hlt2 h2n k4 k6 k9 k10 k11 k7 s4 s5 s6 s7 s8 s9 q4 q5 q6 sm s10 s11 q10
    (repeat' first
    | with_reducible first | exact ⟨⟩ | (refine gB ?_; intros) | refine gT ?_ ?_
    | refine gs ?_
    | refine sx ?_)
    refine loop_k (p.steps.length) (fun g0 k g _ => g 13 = .int .i64 k ∧ (g 6 = g0 6 ∧ g 11 = g0 11 ∧ g 12 = g0 12) ∧ True) KR ((by omega)) ?_ ?_ ?_
    · (repeat' first
    | with_reducible first | exact ⟨⟩ | (refine gB ?_; intros) | refine gT ?_ ?_
    | refine gs ?_
    | refine sxIdl231 ?_)
    · rintro k m9 g9 wk hk9 hk0 nk _ _ hw ⟨hi, hf, hp⟩
      simp (maxDischargeDepth := 3) only [U, ↓reduceIte, Nat.reduceEqDiff, *] at hf
      have hxk : Ext w3 wk := FR
      have hka : k < p.after.length := by rw [hla.out]; exact hk0
      obtain ⟨u9, hu9, hU, hA1, hA2, hA3, hU9, hbk⟩ := (hi1.out hxk).row hka
      have hkaI : (k : Int) < (p.after.length : Int) := by omega
      have hwu : IntKind.u64.wrap (k : Int) = (k : Int) := by rw [IntKind.wrap_u64]; omega
      have hk00 : (0 : Int) ≤ (k : Int) := Int.natCast_nonneg k
      have hik := hid'.out k hk0
      have hcs : (g.testBit k = false ∧ d.testBit k = false) ∨ (g.testBit k = true ∧ d.testBit k = false) ∨ (g.testBit k = true ∧ d.testBit k = true) := by
        rcases hgI : g.testBit k with _ | _ <;> rcases hdI : d.testBit k with _ | _
        · exact .inl ⟨rfl, rfl⟩
        · exact absurd (hik.1 hdI) (by rw [hgI]; decide)
        · exact .inr (.inl ⟨rfl, rfl⟩)
        · exact .inr (.inr ⟨rfl, rfl⟩)
      replace hik : Hid _ := hik
      rcases hcs with ⟨hgI, hdI⟩ | ⟨hgI, hdI⟩ | ⟨hgI, hdI⟩
      all_goals replace hgI : Hid _ := hgI
      all_goals replace hdI : Hid _ := hdI
      · have e1 : (andI .i64 (shrI .i64 (d : Int) (k : Int)) 1 == 1) = false := by rw [bit_eq1 (by omega) (by omega), hdI.out]
        have e2 : (andI .i64 (shrI .i64 (g : Int) (k : Int)) 1 == 0) = true := by rw [bit_eq0 (by omega) (by omega), hgI.out]; rfl
        have e3 : (andI .i64 (shrI .i64 (g : Int) (k : Int)) 1 == 1) = false := by rw [bit_eq1 (by omega) (by omega), hgI.out]
        (repeat' first
    | with_reducible first | exact ⟨⟩ | (refine gB ?_; intros) | refine gT ?_ ?_
    | refine gs ?_
    | simp (maxDischargeDepth := 3) only [↓X, ↓Y, ↓Q, S1, ↓reduceIte, Nat.reduceEqDiff, Nat.reduceAdd, Int.reduceLT, Int.reduceLE, Int.reduceNeg, Int.reduceBEq, Int.reduceBNe, Int.reduceEq, Nat.reduceLeDiff, Nat.reduceMul, Nat.reduceLT, *, hwu, e1, e2, e3]
    | simp (singlePass := true) (maxDischargeDepth := 99) only [*, S2, Nat.reduceLT, hwu, e1, e2, e3])
        refine loop_k ((afterS p k).length) (fun g0 k g _ => g 14 = .int .i64 k ∧ (g 6 = g0 6 ∧ g 11 = g0 11 ∧ g 12 = g0 12 ∧ g 13 = g0 13) ∧ True) KR (hU9) ?_ ?_ ?_
        · (repeat' first
    | with_reducible first | exact ⟨⟩ | (refine gB ?_; intros) | refine gT ?_ ?_
    | refine gs ?_
    | refine sxIdl231 ?_)
        · rintro kj mj gj wj hk hlt _ _ _ hw ⟨hi, hf, hp⟩
          simp (maxDischargeDepth := 3) only [U, ↓reduceIte, Nat.reduceEqDiff, *] at hf
          have hjm := List.getElem_mem hlt
          have hjp := hpl.out k hk0 _ hjm
          obtain ⟨jn, hjn⟩ : ∃ jn : Nat, (afterS p k)[kj] = (jn : Int) := ⟨((afterS p k)[kj]).toNat, by omega⟩
          have hjl : jn < p.steps.length := by omega
          have hwj : IntKind.u64.wrap (jn : Int) = (jn : Int) := by rw [IntKind.wrap_u64]; omega
          have hj0 : (0 : Int) ≤ (jn : Int) := Int.natCast_nonneg jn
          clear hjp hjm
          (repeat' first
    | with_reducible first | exact ⟨⟩ | (refine gB ?_; intros) | refine gT ?_ ?_
    | refine gs ?_
    | simp (maxDischargeDepth := 3) only [↓X, ↓Y, ↓Q, S1, ↓reduceIte, Nat.reduceEqDiff, Nat.reduceAdd, Int.reduceLT, Int.reduceLE, Int.reduceNeg, Int.reduceBEq, Int.reduceBNe, Int.reduceEq, Nat.reduceLeDiff, Nat.reduceMul, Nat.reduceLT, *, hwu, hwj, hjn, e1, e2, e3]
    | simp (singlePass := true) (maxDischargeDepth := 99) only [*, S2, Nat.reduceLT, hwu, hwj, hjn, e1, e2, e3])
          refine next_k hk hlt ?_ FR
          (repeat' first
    | with_reducible first | exact ⟨⟩ | (refine gB ?_; intros) | refine gT ?_ ?_
    | refine gs ?_
    | refine sx ?_)
        · rintro g wk _ _ _ ⟨hi, hf, hp⟩
          simp (maxDischargeDepth := 3) only [U, ↓reduceIte, Nat.reduceEqDiff, *] at hf
          (repeat' first
    | with_reducible first | exact ⟨⟩ | (refine gB ?_; intros) | refine gT ?_ ?_
    | refine gs ?_
    | refine sx ?_)
          refine next_k hk9 hk0 ?_ FR
          (repeat' first
    | with_reducible first | exact ⟨⟩ | (refine gB ?_; intros) | refine gT ?_ ?_
    | refine gs ?_
    | refine sx ?_)
      · have e1 : (andI .i64 (shrI .i64 (d : Int) (k : Int)) 1 == 1) = false := by rw [bit_eq1 (by omega) (by omega), hdI.out]
        have e2 : (andI .i64 (shrI .i64 (g : Int) (k : Int)) 1 == 0) = false := by rw [bit_eq0 (by omega) (by omega), hgI.out]; rfl
        have e3 : (andI .i64 (shrI .i64 (g : Int) (k : Int)) 1 == 1) = true := by rw [bit_eq1 (by omega) (by omega), hgI.out]
        (repeat' first
    | with_reducible first | exact ⟨⟩ | (refine gB ?_; intros) | refine gT ?_ ?_
    | refine gs ?_
    | simp (maxDischargeDepth := 3) only [↓X, ↓Y, ↓Q, S1, ↓reduceIte, Nat.reduceEqDiff, Nat.reduceAdd, Int.reduceLT, Int.reduceLE, Int.reduceNeg, Int.reduceBEq, Int.reduceBNe, Int.reduceEq, Nat.reduceLeDiff, Nat.reduceMul, Nat.reduceLT, *, hwu, e1, e2, e3]
    | simp (singlePass := true) (maxDischargeDepth := 99) only [*, S2, Nat.reduceLT, hwu, e1, e2, e3])
        refine loop_k ((afterS p k).length) (fun g0 k g _ => g 14 = .int .i64 k ∧ (g 6 = g0 6 ∧ g 11 = g0 11 ∧ g 12 = g0 12 ∧ g 13 = g0 13) ∧ True) KR (hU9) ?_ ?_ ?_
        · (repeat' first
    | with_reducible first | exact ⟨⟩ | (refine gB ?_; intros) | refine gT ?_ ?_
    | refine gs ?_
    | refine sxIdl231 ?_)
        · rintro kj mj gj wj hk hlt _ _ _ hw ⟨hi, hf, hp⟩
          simp (maxDischargeDepth := 3) only [U, ↓reduceIte, Nat.reduceEqDiff, *] at hf
          have hjm := List.getElem_mem hlt
          have hjp := hpl.out k hk0 _ hjm
          obtain ⟨jn, hjn⟩ : ∃ jn : Nat, (afterS p k)[kj] = (jn : Int) := ⟨((afterS p k)[kj]).toNat, by omega⟩
          have hjl : jn < p.steps.length := by omega
          have hwj : IntKind.u64.wrap (jn : Int) = (jn : Int) := by rw [IntKind.wrap_u64]; omega
          have hj0 : (0 : Int) ≤ (jn : Int) := Int.natCast_nonneg jn
          have e4 : (andI .i64 (shrI .i64 (d : Int) (jn : Int)) 1 == 0) = false := by
            have h9 := (hik.out.2 _ hjm).2 hgI.out
            rw [hjn, Int.toNat_natCast] at h9
            rw [bit_eq0 (by omega) (by omega), h9]; rfl
          clear hjp hjm
          (repeat' first
    | with_reducible first | exact ⟨⟩ | (refine gB ?_; intros) | refine gT ?_ ?_
    | refine gs ?_
    | simp (maxDischargeDepth := 3) only [↓X, ↓Y, ↓Q, S1, ↓reduceIte, Nat.reduceEqDiff, Nat.reduceAdd, Int.reduceLT, Int.reduceLE, Int.reduceNeg, Int.reduceBEq, Int.reduceBNe, Int.reduceEq, Nat.reduceLeDiff, Nat.reduceMul, Nat.reduceLT, *, hwu, hwj, hjn, e1, e2, e3, e4]
    | simp (singlePass := true) (maxDischargeDepth := 99) only [*, S2, Nat.reduceLT, hwu, hwj, hjn, e1, e2, e3, e4])
          refine next_k hk hlt ?_ FR
          (repeat' first
    | with_reducible first | exact ⟨⟩ | (refine gB ?_; intros) | refine gT ?_ ?_
    | refine gs ?_
    | refine sx ?_)
        · rintro g wk _ _ _ ⟨hi, hf, hp⟩
          simp (maxDischargeDepth := 3) only [U, ↓reduceIte, Nat.reduceEqDiff, *] at hf
          (repeat' first
    | with_reducible first | exact ⟨⟩ | (refine gB ?_; intros) | refine gT ?_ ?_
    | refine gs ?_
    | refine sx ?_)
          refine next_k hk9 hk0 ?_ FR
          (repeat' first
    | with_reducible first | exact ⟨⟩ | (refine gB ?_; intros) | refine gT ?_ ?_
    | refine gs ?_
    | refine sx ?_)
      · have e1 : (andI .i64 (shrI .i64 (d : Int) (k : Int)) 1 == 1) = true := by rw [bit_eq1 (by omega) (by omega), hdI.out]
        have e2 : (andI .i64 (shrI .i64 (g : Int) (k : Int)) 1 == 0) = false := by rw [bit_eq0 (by omega) (by omega), hgI.out]; rfl
        have e3 : (andI .i64 (shrI .i64 (g : Int) (k : Int)) 1 == 1) = true := by rw [bit_eq1 (by omega) (by omega), hgI.out]
        (repeat' first
    | with_reducible first | exact ⟨⟩ | (refine gB ?_; intros) | refine gT ?_ ?_
    | refine gs ?_
    | simp (maxDischargeDepth := 3) only [↓X, ↓Y, ↓Q, S1, ↓reduceIte, Nat.reduceEqDiff, Nat.reduceAdd, Int.reduceLT, Int.reduceLE, Int.reduceNeg, Int.reduceBEq, Int.reduceBNe, Int.reduceEq, Nat.reduceLeDiff, Nat.reduceMul, Nat.reduceLT, *, hwu, e1, e2, e3]
    | simp (singlePass := true) (maxDischargeDepth := 99) only [*, S2, Nat.reduceLT, hwu, e1, e2, e3])
        refine loop_k ((afterS p k).length) (fun g0 k g _ => g 14 = .int .i64 k ∧ (g 6 = g0 6 ∧ g 11 = g0 11 ∧ g 12 = g0 12 ∧ g 13 = g0 13) ∧ True) KR (hU9) ?_ ?_ ?_
        · (repeat' first
    | with_reducible first | exact ⟨⟩ | (refine gB ?_; intros) | refine gT ?_ ?_
    | refine gs ?_
    | refine sxIdl231 ?_)
        · rintro kj mj gj wj hk hlt _ _ _ hw ⟨hi, hf, hp⟩
          simp (maxDischargeDepth := 3) only [U, ↓reduceIte, Nat.reduceEqDiff, *] at hf
          have hjm := List.getElem_mem hlt
          have hjp := hpl.out k hk0 _ hjm
          obtain ⟨jn, hjn⟩ : ∃ jn : Nat, (afterS p k)[kj] = (jn : Int) := ⟨((afterS p k)[kj]).toNat, by omega⟩
          have hjl : jn < p.steps.length := by omega
          have hwj : IntKind.u64.wrap (jn : Int) = (jn : Int) := by rw [IntKind.wrap_u64]; omega
          have hj0 : (0 : Int) ≤ (jn : Int) := Int.natCast_nonneg jn
          have e4 : (andI .i64 (shrI .i64 (d : Int) (jn : Int)) 1 == 0) = false := by
            have h9 := (hik.out.2 _ hjm).2 hgI.out
            rw [hjn, Int.toNat_natCast] at h9
            rw [bit_eq0 (by omega) (by omega), h9]; rfl
          clear hjp hjm
          (repeat' first
    | with_reducible first | exact ⟨⟩ | (refine gB ?_; intros) | refine gT ?_ ?_
    | refine gs ?_
    | simp (maxDischargeDepth := 3) only [↓X, ↓Y, ↓Q, S1, ↓reduceIte, Nat.reduceEqDiff, Nat.reduceAdd, Int.reduceLT, Int.reduceLE, Int.reduceNeg, Int.reduceBEq, Int.reduceBNe, Int.reduceEq, Nat.reduceLeDiff, Nat.reduceMul, Nat.reduceLT, *, hwu, hwj, hjn, e1, e2, e3, e4]
    | simp (singlePass := true) (maxDischargeDepth := 99) only [*, S2, Nat.reduceLT, hwu, hwj, hjn, e1, e2, e3, e4])
          refine next_k hk hlt ?_ FR
          (repeat' first
    | with_reducible first | exact ⟨⟩ | (refine gB ?_; intros) | refine gT ?_ ?_
    | refine gs ?_
    | refine sx ?_)
        · rintro g wk _ _ _ ⟨hi, hf, hp⟩
          simp (maxDischargeDepth := 3) only [U, ↓reduceIte, Nat.reduceEqDiff, *] at hf
          (repeat' first
    | with_reducible first | exact ⟨⟩ | (refine gB ?_; intros) | refine gT ?_ ?_
    | refine gs ?_
    | refine sx ?_)
          refine next_k hk9 hk0 ?_ FR
          (repeat' first
    | with_reducible first | exact ⟨⟩ | (refine gB ?_; intros) | refine gT ?_ ?_
    | refine gs ?_
    | refine sx ?_)
    · rintro g wk _ _ _ ⟨hi, hf, hp⟩
      simp (maxDischargeDepth := 3) only [U, ↓reduceIte, Nat.reduceEqDiff, *] at hf
      (repeat' first
    | with_reducible first | exact ⟨⟩ | (refine gB ?_; intros) | refine gT ?_ ?_
    | refine gs ?_
    | ((with_reducible refine at_f 10 ?_); refine ret_k (law23awake) fun _ _ _ => ?_)
    | simp (maxDischargeDepth := 3) only [↓X, ↓Y, ↓Q, S1, ↓reduceIte, Nat.reduceEqDiff, Nat.reduceAdd, Int.reduceLT, Int.reduceLE, Int.reduceNeg, Int.reduceBEq, Int.reduceBNe, Int.reduceEq, Nat.reduceLeDiff, Nat.reduceMul, Nat.reduceLT, *, hwn, es1, es2]
    | simp (singlePass := true) (maxDischargeDepth := 99) only [*, S2, Nat.reduceLT, hwn, es1, es2])
  · have hx3 := hxw3
    clear oS
    (repeat' first
    | with_reducible first | exact ⟨⟩ | (refine gB ?_; intros) | refine gT ?_ ?_
    | refine gs ?_
    | refine sx ?_)
    rename_i b4 w4 n4 k4 s4 q4 b5 w5 n5 k5 s5 q5 b6 w6 n6 k6 s6 q6 w7 n7 k7 s7 w8 n8 k8 s8 w9 n9 k9 s9
    have hx39 : Ext w3 w9 := FR
    refine call_k (mk_of (hi0.out hx39) (hi1.out hx39) (hi2.out hx39) hX hm) ?_
    rintro _ wm nm sm ⟨tv, rfl, ho⟩
    have otv := ho.one
    have rm := Ext.refl wm
    clear ho hm
    (repeat' first
    | with_reducible first | exact ⟨⟩ | (refine gB ?_; intros) | refine gT ?_ ?_
    | refine gs ?_
    | ((with_reducible refine at_f 10 ?_); refine ret_k (law23awake) fun _ _ _ => ?_)
    | simp (maxDischargeDepth := 3) only [↓X, ↓Y, ↓Q, S1, ↓reduceIte, Nat.reduceEqDiff, Nat.reduceAdd, Int.reduceLT, Int.reduceLE, Int.reduceNeg, Int.reduceBEq, Int.reduceBNe, Int.reduceEq, Nat.reduceLeDiff, Nat.reduceMul, Nat.reduceLT, *, noT]
    | simp (singlePass := true) (maxDischargeDepth := 99) only [*, S2, Nat.reduceLT, noT])
end
end Go.Proofs.YtopfddchckdhgaaGreat
