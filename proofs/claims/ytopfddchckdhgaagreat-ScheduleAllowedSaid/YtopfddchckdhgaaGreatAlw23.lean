
/- The statement ScheduleAllowed, walked. -/
import Derived.Test.YtopfddchckdhgaaGreatLawU23
namespace Go.Proofs.YtopfddchckdhgaaGreat
set_option linter.unusedSimpArgs false
set_option linter.unusedVariables false
open Go Go.RowKit
set_option maxRecDepth 100000
set_option linter.unusedSectionVars false
set_option maxHeartbeats 2000000
section
variable {w : World} {B : Nat} {r : RawD}
theorem lawScheduleAllowed (hB : B ≤ w.heap.size) (hr : RawR w B r) : Ret Tryz.prog 4 #[.agg (rawC r).toArray] w (.bool true) := by
  have hn : Now w := trivial
  have hx : Ext w w := Ext.refl w
  have hr' : Hid (RawR w B r) := hr
  have o1 := hr.k.one
  have o2 := hr.h.one
  have o3 := hr.a.one
  have o4 := hr.n.one
  have o5 := hr.p.one
  have o6 := hr.d.one
  clear hr
  (refine callsV_of Tryz.func4 rfl KR KR ?_; rw [Tryz.results4])
  (repeat' first
    | with_reducible first | exact ⟨⟩ | (refine gB ?_; intros) | refine gT ?_ ?_
    | refine gs ?_
    | simp (maxDischargeDepth := 3) only [↓X, ↓Y, ↓Q, S1, ↓reduceIte, Nat.reduceEqDiff, Nat.reduceAdd, Int.reduceLT, Int.reduceLE, Int.reduceNeg, Int.reduceBEq, Int.reduceBNe, Int.reduceEq, Nat.reduceLeDiff, Nat.reduceMul, Nat.reduceLT, *, rawC]
    | simp (singlePass := true) (maxDischargeDepth := 99) only [*, S2, Nat.reduceLT, rawC])
  rename_i b1 w2 n2 k2 s2 q2
  have hxw2 : Ext w w2 := FR
  refine call_k (law23made (r := r) (by have := hxw2.size; omega) (hr'.out.ext hxw2 hB)) ?_
  rintro _ w3 n3 s3 ⟨hv, pv, xv, p, x, rfl, hH, hP, hT, hX, hx1, hxl⟩
  replace hx1 : Hid (x.first = 20) := hx1
  obtain ⟨c0, c1, c2, c5, u, rfl, ou⟩ := hH.cells
  obtain ⟨sv, av, vs, Bp, rfl, osv, oav, oS, _⟩ := hP.cells
  obtain ⟨wv, rv, apv, c7, Bt, rfl, owv, orv, oap, _⟩ := hT.cells
  have KS := (oS.slN (f := stepC)).k (Nat.le_refl _)
  have r3 := Ext.refl w3
  have bl3 : Bl w3.heap.size w3 w3 := Bl.refl (Nat.le_refl _)
  have hmx := (oS.slN (f := stepC)).max_
  clear oS
  have hi0 : ∀ {w' : World}, Ext w3 w' → HouV w' (.agg #[.slice (some ⟨c0, 0, none⟩) 1 1, .slice (some ⟨c1, 0, none⟩) 1 1, .slice (some ⟨c2, 0, none⟩) 1 1, .slice (some ⟨c5, 0, none⟩) 2 2, .int .i64 1, .slice none 0 0, u]) 4 := fun hx => hH.ext hx
  replace hi0 : Hid _ := @hi0
  have hi1 : ∀ {w' : World}, Ext w3 w' → PlnV w' (.agg #[sv, av]) p := fun hx => hP.ext hx
  replace hi1 : Hid _ := @hi1
  have hi2 : ∀ {w' : World}, Ext w3 w' → TmsV w' (.agg #[wv, rv, .int .i64 x.blast, .slice none 0 0, .slice (some ⟨c7, 0, none⟩) 8 8, apv, .int .i64 x.first, .int .i64 x.last]) x := fun hx => hT.ext hx
  replace hi2 : Hid _ := @hi2
  have hxw3 : Ext w w3 := FR
  clear hH hP hT hr' k2 s2 q2 s3
  have s3 := hxw3.st
  rcases make_cases hX with ⟨b, hm, hmt, _⟩ | ⟨i, hm, hi, _⟩
  · have hck := check_made (made_valid hX) hmt
    generalize Sch.stop (scS (houseD 4) p x) b = stp at *
    (repeat' first
    | with_reducible first | exact ⟨⟩ | (refine gB ?_; intros) | refine gT ?_ ?_
    | refine gs ?_
    | refine sx ?_)
    rename_i b4 w4 n4 k4 s4 q4 b5 w5 n5 k5 s5 q5 b6 w6 n6 k6 s6 q6 w7 n7 k7 s7 w8 n8 k8 s8 w9 n9 k9 s9
    have hx39 : Ext w3 w9 := FR
    refine call_k (mk_of (hi0.out hx39) (hi1.out hx39) (hi2.out hx39) hX hm) ?_
    rintro _ wm nm sm ⟨tv, rfl, ho⟩
    have otv := ho.one
    have hx3m : Ext w3 wm := FR
    have rm := Ext.refl wm
    (repeat' first
    | with_reducible first | exact ⟨⟩ | (refine gB ?_; intros) | refine gT ?_ ?_
    | refine gs ?_
    | refine sx ?_)
    rename_i b10 w10 n10 k10 s10 q10 w11 n11 k11 s11
    have hx3b : Ext w3 w11 := FR
    have hxmb : Ext wm w11 := FR
    refine ret_k (ck_of (hi0.out hx3b) (hi1.out hx3b) (hi2.out hx3b) hX (ho.ext hxmb) hck) fun w12 n12 s12 => ?_
    clear ho hmt hck hm
    (repeat' first
    | with_reducible first | exact ⟨⟩ | (refine gB ?_; intros) | refine gT ?_ ?_
    | refine gs ?_
    | ((with_reducible refine at_f 10 ?_); refine ret_k (law23awake) fun _ _ _ => ?_)
    | simp (maxDischargeDepth := 3) only [↓X, ↓Y, ↓Q, S1, ↓reduceIte, Nat.reduceEqDiff, Nat.reduceAdd, Int.reduceLT, Int.reduceLE, Int.reduceNeg, Int.reduceBEq, Int.reduceBNe, Int.reduceEq, Nat.reduceLeDiff, Nat.reduceMul, Nat.reduceLT, *, breachC, noB]
    | simp (singlePass := true) (maxDischargeDepth := 99) only [*, S2, Nat.reduceLT, breachC, noB])
  · have hiI : (i : Int) < (p.steps.length : Int) := by omega
    have hi0I : (0 : Int) ≤ (i : Int) := Int.natCast_nonneg i
    (repeat' first
    | with_reducible first | exact ⟨⟩ | (refine gB ?_; intros) | refine gT ?_ ?_
    | refine gs ?_
    | refine sx ?_)
    rename_i b4 w4 n4 k4 s4 q4 b5 w5 n5 k5 s5 q5 b6 w6 n6 k6 s6 q6 w7 n7 k7 s7 w8 n8 k8 s8 w9 n9 k9 s9
    have hx39 : Ext w3 w9 := FR
    refine call_k (mk_of (hi0.out hx39) (hi1.out hx39) (hi2.out hx39) hX hm) ?_
    rintro _ wm nm sm ⟨tv, rfl, ho⟩
    have otv := ho.one
    have hTV := (ho.sl1 (f := intV)).k (Nat.le_refl _)
    have rm := Ext.refl wm
    have blm : Bl wm.heap.size wm wm := Bl.refl (Nat.le_refl _)
    simp only [noT] at hTV
    clear ho hm
    (repeat' first
    | with_reducible first | exact ⟨⟩ | (refine gB ?_; intros) | refine gT ?_ ?_
    | refine gs ?_
    | ((with_reducible refine at_f 10 ?_); refine ret_k (law23awake) fun _ _ _ => ?_)
    | simp (maxDischargeDepth := 3) only [↓X, ↓Y, ↓Q, S1, ↓reduceIte, Nat.reduceEqDiff, Nat.reduceAdd, Int.reduceLT, Int.reduceLE, Int.reduceNeg, Int.reduceBEq, Int.reduceBNe, Int.reduceEq, Nat.reduceLeDiff, Nat.reduceMul, Nat.reduceLT, *, noT]
    | simp (singlePass := true) (maxDischargeDepth := 99) only [*, S2, Nat.reduceLT, noT])
end
end Go.Proofs.YtopfddchckdhgaaGreat
