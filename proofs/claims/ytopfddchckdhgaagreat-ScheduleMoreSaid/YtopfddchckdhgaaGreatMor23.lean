
/- The statement ScheduleMore, walked. -/
import Derived.Test.YtopfddchckdhgaaGreatMoU23
namespace Go.Proofs.YtopfddchckdhgaaGreat
set_option linter.unusedSimpArgs false
set_option linter.unusedVariables false
open Go Go.RowKit
set_option maxRecDepth 100000
set_option linter.unusedSectionVars false
set_option maxHeartbeats 2000000
section
variable {w : World} {B : Nat} {r : RawD}
theorem lawScheduleMore (hB : B ≤ w.heap.size) (hr : RawR w B r) : Ret Tryz.prog 7 #[.agg (rawC r).toArray] w (.bool true) := by
  have hn : Now w := trivial
  have hx : Ext w w := Ext.refl w
  have hr' : Hid (RawR w B r) := hr
  have o1 := hr.k.one
  have o2 := hr.h.one
  have o3 := hr.a.one
  have o4 := hr.n.one
  have o5 := hr.p.one
  have o6 := hr.d.one
  have hre : Hid (b8 r.ea ∧ b8 r.fu) := ⟨hr.e.2.2.1, hr.e.2.2.2⟩
  clear hr
  (refine callsV_of Tryz.func7 rfl KR KR ?_; rw [Tryz.results7])
  (repeat' first
    | with_reducible first | exact ⟨⟩ | (refine gB ?_; intros) | refine gT ?_ ?_
    | refine gs ?_
    | simp (maxDischargeDepth := 3) only [↓X, ↓Y, ↓Q, S1, ↓reduceIte, Nat.reduceEqDiff, Nat.reduceAdd, Int.reduceLT, Int.reduceLE, Int.reduceNeg, Int.reduceBEq, Int.reduceBNe, Int.reduceEq, Nat.reduceLeDiff, Nat.reduceMul, Nat.reduceLT, *, rawC]
    | simp (singlePass := true) (maxDischargeDepth := 99) only [*, S2, Nat.reduceLT, rawC])
  rename_i b1 w2 n2 k2 s2 q2
  have hxw2 : Ext w w2 := FR
  refine call_k (law23made (r := r) (by have := hxw2.size; omega) (hr'.out.ext hxw2 hB)) ?_
  rintro _ w3 n3 s3 ⟨hv, pv, xv, p, x, rfl, hH, hP, hT, hX, hx1, hxl⟩
  have K1 : Hid (Blk w3 b1 55 [r.kv, r.hv, r.av, .int .u8 r.t0, .int .u8 r.t1, .int .u8 r.t2, .int .u8 r.t3, .int .u8 r.t4, .int .u8 r.t5, .int .u8 r.t6, .int .u8 r.t7, r.wv, r.pv, r.dv, .int .u8 r.bl, .int .u8 r.la, .int .u8 r.ea, .int .u8 r.fu]) := show Blk w3 b1 55 [r.kv, r.hv, r.av, .int .u8 r.t0, .int .u8 r.t1, .int .u8 r.t2, .int .u8 r.t3, .int .u8 r.t4, .int .u8 r.t5, .int .u8 r.t6, .int .u8 r.t7, r.wv, r.pv, r.dv, .int .u8 r.bl, .int .u8 r.la, .int .u8 r.ea, .int .u8 r.fu] by exact k2.2.1 _ FR
  obtain ⟨ea, hea, hea8⟩ : ∃ ea : Nat, r.ea = ea ∧ ea ≤ 255 := ⟨r.ea.toNat, by have := hre.out.1.1; omega, by have := hre.out.1.1; have := hre.out.1.2; omega⟩
  obtain ⟨fu, hfu, hfu8⟩ : ∃ fu : Nat, r.fu = fu ∧ fu ≤ 255 := ⟨r.fu.toNat, by have := hre.out.2.1; omega, by have := hre.out.2.1; have := hre.out.2.2; omega⟩
  have hXz := moreX (ea := ea) (fu := fu) hX hx1 hxl hfu8
  have hez := more_eased (ea := ea) (fu := fu) hX hx1
  replace hx1 : Hid (x.first = 20) := hx1
  obtain ⟨c0, c1, c2, c5, u, rfl, ou⟩ := hH.cells
  obtain ⟨sv, av, vs, Bp, rfl, osv, oav, oS, _⟩ := hP.cells
  obtain ⟨wv, rv, apv, c7, Bt, rfl, owv, orv, oap, _, _, _, oA, _⟩ := hT.cells
  have hi0 : ∀ {w' : World}, Ext w3 w' → HouV w' (.agg #[.slice (some ⟨c0, 0, none⟩) 1 1, .slice (some ⟨c1, 0, none⟩) 1 1, .slice (some ⟨c2, 0, none⟩) 1 1, .slice (some ⟨c5, 0, none⟩) 2 2, .int .i64 1, .slice none 0 0, u]) 4 := fun hx => hH.ext hx
  replace hi0 : Hid _ := @hi0
  have hi1 : ∀ {w' : World}, Ext w3 w' → PlnV w' (.agg #[sv, av]) p := fun hx => hP.ext hx
  replace hi1 : Hid _ := @hi1
  have hi2 : ∀ {w' : World}, Ext w3 w' → TmsV w' (.agg #[wv, rv, .int .i64 x.blast, .slice none 0 0, .slice (some ⟨c7, 0, none⟩) 8 8, apv, .int .i64 x.first, .int .i64 x.last]) x := fun hx => hT.ext hx
  replace hi2 : Hid _ := @hi2
  have hX0 := hX.noBlast
  have hn8 : p.steps.length ≤ 8 := hX.n
  have hlp : Hid (x.approved.length = p.steps.length) := hX.lp
  have happ : Hid (∀ n ∈ x.approved, -1 ≤ n ∧ n ≤ 254) := hX.app
  have KS := (oS.slN (f := stepC)).k (Nat.le_refl _)
  have KA := (oA.sl1 (f := intV)).k (Nat.le_refl _)
  have bl3 : Bl w3.heap.size w3 w3 := Bl.refl (Nat.le_refl _)
  have hxw3 : Hid (Ext w w3) := show Ext w w3 by exact FR
  have hxa : Ext w w3 := hxw3.out
  have hb1l : b1 < w3.heap.size := K1.out.lt
  have k1a := (show Blk w3 b1 55 [r.kv, r.hv, r.av, .int .u8 r.t0, .int .u8 r.t1, .int .u8 r.t2, .int .u8 r.t3, .int .u8 r.t4, .int .u8 r.t5, .int .u8 r.t6, .int .u8 r.t7, r.wv, r.pv, r.dv, .int .u8 r.bl, .int .u8 r.la, .int .u8 r.ea, .int .u8 r.fu] from K1.out).bk
  have hll : 20 ≤ x.last := hX.last.1
  clear hH hP hT hr' k2 s2 q2 s3 oS oA hxw2
  have s3 := hxa.st
  have r3 := Ext.refl w3
  (repeat' first
    | with_reducible first | exact ⟨⟩ | (refine gB ?_; intros) | refine gT ?_ ?_
    | refine gs ?_
    | refine sx ?_)
  rename_i b3 w4 n4 k4 s4 q4 b4 w5 n5 k5 s5 q5 b5 w6 n6 k6 s6 q6 w7 n7 k7 s7 w8 n8 k8 s8 w9 n9 k9 s9
  refine st_one (i := 2) KR (by simp) rfl fun wa na ka sa => ?_
  simp only [List.set_cons_zero, List.set_cons_succ] at ka
  have hx3a : Ext w3 wa := FR
  rcases hm : makeS (houseD 4) p { x with blast := 0 } with ⟨T, i0, e⟩
  (repeat' first
    | with_reducible first | exact ⟨⟩ | (refine gB ?_; intros) | refine gT ?_ ?_
    | refine gs ?_
    | refine sx ?_)
  refine call_k (mk_of (hi0.out hx3a) (hi1.out hx3a) (hi2.out hx3a).noBlast hX0 hm) ?_
  rintro _ wm nm sm ⟨tv, rfl, ho⟩
  have otv := ho.one
  have rm := Ext.refl wm
  (repeat' first
    | ((with_reducible refine wpd_at 5 ?_); refine wpd_hold ?_)
    | with_reducible first | exact ⟨⟩ | (refine gB ?_; intros) | refine gT ?_ ?_
    | refine gs ?_
    | refine sx ?_)
  rename_i b6 w10 n10 k10 s10 q10 w11 n11 k11 s11 b9 w12 n12 k12 s12 q12 w13 n13 k13 s13
  have hx313 : Ext w3 w13 := FR
  have K13 : Blk w13 b9 41 [wv, rv, .int .i64 0, .slice none 0 0, .slice (some ⟨c7, 0, none⟩) 8 8, apv, .int .i64 x.first, .int .i64 x.last] := k13.2.1 _ k13.2.2.1
  have hn9 : w3.heap.size ≤ b9 := FR
  have hn15 : ¬ b1 = b9 := by omega
  have hn59 : ¬ b5 = b9 := by have h1 : b5 < w11.heap.size := FR; have h2 : w11.heap.size ≤ b9 := FR; omega
  have hfmod : IntKind.i64.wrap ((ea : Int).tmod 21) = ((ea % 21 : Nat) : Int) := by
    have e9 : (ea : Int).tmod 21 = ((ea % 21 : Nat) : Int) := rfl
    rw [e9]; exact wrap_nat (by omega)
  have hfsub : IntKind.i64.wrap (x.first - ((ea % 21 : Nat) : Int)) = ((20 - ea % 21 : Nat) : Int) := by
    rw [hx1.out, wrap_i64_id] <;> omega
  have hfw : IntKind.i64.wrap (fu : Int) = (fu : Int) := wrap_nat (by omega)
  have hladd : IntKind.i64.wrap (x.last + (fu : Int)) = x.last + (fu : Int) := by rw [wrap_i64_id] <;> omega
  have hRB : ∀ b ∈ [b9], b < w13.heap.size := by simp only [List.mem_cons, List.not_mem_nil, or_false, forall_eq_or_imp, forall_eq]; exact FR
  unfold wpdH
  refine wpd_relL 15 [b9] [(14, b9)] rfl (fun iI v w9 => match iI with
    | 0 => v = .pointer (some ⟨b5, 6, none⟩)
    | 1 => v = .int .i64 x.first
    | 2 => v = .pointer (some ⟨b1, 16, none⟩)
    | 3 => v = .int .u8 (ea : Int)
    | 4 => v = .int .u8 ((ea : Int).tmod 21)
    | 5 => v = .int .i64 ((ea % 21 : Nat) : Int)
    | 6 => v = .int .i64 ((20 - ea % 21 : Nat) : Int)
    | 7 => v = .pointer (some ⟨b5, 7, none⟩)
    | 8 => v = .int .i64 x.last
    | 9 => v = .pointer (some ⟨b1, 17, none⟩)
    | 10 => v = .int .u8 (fu : Int)
    | 11 => v = .int .i64 (fu : Int)
    | 12 => v = .int .i64 (x.last + (fu : Int))
    | 13 => v = .pointer (some ⟨b9, 6, none⟩)
    | 14 => Blk w9 b9 41 [wv, rv, .int .i64 0, .slice none 0 0, .slice (some ⟨c7, 0, none⟩) 8 8, apv, .int .i64 ((20 - ea % 21 : Nat) : Int), .int .i64 x.last]
    | _ => False) KR KR KR hRB (by simp only [List.nodup_cons, List.mem_cons, List.not_mem_nil, or_false, not_or, List.nodup_nil, not_false_eq_true, and_true] <;> exact FR) ?_ ?_ ?_
  · intro iI v w1 w2 hR hx9
    match iI, hR with
    | 0, h => exact h
    | 1, h => exact h
    | 2, h => exact h
    | 3, h => exact h
    | 4, h => exact h
    | 5, h => exact h
    | 6, h => exact h
    | 7, h => exact h
    | 8, h => exact h
    | 9, h => exact h
    | 10, h => exact h
    | 11, h => exact h
    | 12, h => exact h
    | 13, h => exact h
    | 14, h => exact h.tb hx9 (fun hX => hX.2 rfl)
  · intro iI oO hi ho gF w9 hx9 hdep hag hun
    have s9 := hx9.sb
    simp only [Sb, List.mem_cons, List.not_mem_nil, or_false, forall_eq_or_imp, forall_eq] at s9
    have n9 : Now w9 := trivial
    have r9 := Ext.refl w9
    have z9 := hx9.size
    rcases iI with _|_|_|_|_|_|_|_|_|_|_|_|_|_|_|iI
    have e := Option.some.inj ho
    subst e
    have a5 := hag.at 5 KR
    simp only [S5, ↓reduceIte, Nat.reduceEqDiff, initF, *] at a5
    have un14 : Kp b9 w13 w9 := ⟨hRB _ (by simp), hun 14 _ (by decide) rfl KR⟩
    clear hag hdep ho hun
    refine ⟨fun _ => ?_, fun b hb => by simp [bkL] at hb⟩
    refine relStep_off rfl ?_
    rotate_left
    have e := Option.some.inj ho
    subst e
    have d0 : (gF 33) = .pointer (some ⟨b5, 6, none⟩) := hdep ⟨0, .data⟩ (by simp) rfl _ _ rfl rfl
    have un14 : Kp b9 w13 w9 := ⟨hRB _ (by simp), hun 14 _ (by decide) rfl KR⟩
    clear hag hdep ho hun
    refine ⟨fun _ => ?_, fun b hb => by simp [bkL] at hb⟩
    refine relStep_off rfl ?_
    rotate_left
    have e := Option.some.inj ho
    subst e
    have a1 := hag.at 1 KR
    simp only [S5, ↓reduceIte, Nat.reduceEqDiff, initF, *] at a1
    have un14 : Kp b9 w13 w9 := ⟨hRB _ (by simp), hun 14 _ (by decide) rfl KR⟩
    clear hag hdep ho hun
    refine ⟨fun _ => ?_, fun b hb => by simp [bkL] at hb⟩
    refine relStep_off rfl ?_
    rotate_left
    have e := Option.some.inj ho
    subst e
    have d2 : (gF 35) = .pointer (some ⟨b1, 16, none⟩) := hdep ⟨2, .data⟩ (by simp) rfl _ _ rfl rfl
    have un14 : Kp b9 w13 w9 := ⟨hRB _ (by simp), hun 14 _ (by decide) rfl KR⟩
    clear hag hdep ho hun
    refine ⟨fun _ => ?_, fun b hb => by simp [bkL] at hb⟩
    refine relStep_off rfl ?_
    rotate_left
    have e := Option.some.inj ho
    subst e
    have d3 : (gF 36) = .int .u8 (ea : Int) := hdep ⟨3, .data⟩ (by simp) rfl _ _ rfl rfl
    have un14 : Kp b9 w13 w9 := ⟨hRB _ (by simp), hun 14 _ (by decide) rfl KR⟩
    clear hag hdep ho hun
    refine ⟨fun _ => ?_, fun b hb => by simp [bkL] at hb⟩
    refine relStep_off rfl ?_
    rotate_left
    have e := Option.some.inj ho
    subst e
    have d4 : (gF 37) = .int .u8 ((ea : Int).tmod 21) := hdep ⟨4, .data⟩ (by simp) rfl _ _ rfl rfl
    have un14 : Kp b9 w13 w9 := ⟨hRB _ (by simp), hun 14 _ (by decide) rfl KR⟩
    clear hag hdep ho hun
    refine ⟨fun _ => ?_, fun b hb => by simp [bkL] at hb⟩
    refine relStep_off rfl ?_
    rotate_left
    have e := Option.some.inj ho
    subst e
    have d1 : (gF 34) = .int .i64 x.first := hdep ⟨1, .data⟩ (by simp) rfl _ _ rfl rfl
    have d5 : (gF 38) = .int .i64 ((ea % 21 : Nat) : Int) := hdep ⟨5, .data⟩ (by simp) rfl _ _ rfl rfl
    have un14 : Kp b9 w13 w9 := ⟨hRB _ (by simp), hun 14 _ (by decide) rfl KR⟩
    clear hag hdep ho hun
    refine ⟨fun _ => ?_, fun b hb => by simp [bkL] at hb⟩
    refine relStep_off rfl ?_
    rotate_left
    have e := Option.some.inj ho
    subst e
    have a5 := hag.at 5 KR
    simp only [S5, ↓reduceIte, Nat.reduceEqDiff, initF, *] at a5
    clear hag hdep ho hun
    refine ⟨fun _ => ?_, fun b hb => by simp [bkL] at hb⟩
    refine relStep_off rfl ?_
    rotate_left
    have e := Option.some.inj ho
    subst e
    have d7 : (gF 40) = .pointer (some ⟨b5, 7, none⟩) := hdep ⟨7, .data⟩ (by simp) rfl _ _ rfl rfl
    clear hag hdep ho hun
    refine ⟨fun _ => ?_, fun b hb => by simp [bkL] at hb⟩
    refine relStep_off rfl ?_
    rotate_left
    have e := Option.some.inj ho
    subst e
    have a1 := hag.at 1 KR
    simp only [S5, ↓reduceIte, Nat.reduceEqDiff, initF, *] at a1
    clear hag hdep ho hun
    refine ⟨fun _ => ?_, fun b hb => by simp [bkL] at hb⟩
    refine relStep_off rfl ?_
    rotate_left
    have e := Option.some.inj ho
    subst e
    have d9 : (gF 42) = .pointer (some ⟨b1, 17, none⟩) := hdep ⟨9, .data⟩ (by simp) rfl _ _ rfl rfl
    clear hag hdep ho hun
    refine ⟨fun _ => ?_, fun b hb => by simp [bkL] at hb⟩
    refine relStep_off rfl ?_
    rotate_left
    have e := Option.some.inj ho
    subst e
    have d10 : (gF 43) = .int .u8 (fu : Int) := hdep ⟨10, .data⟩ (by simp) rfl _ _ rfl rfl
    clear hag hdep ho hun
    refine ⟨fun _ => ?_, fun b hb => by simp [bkL] at hb⟩
    refine relStep_off rfl ?_
    rotate_left
    have e := Option.some.inj ho
    subst e
    have d8 : (gF 41) = .int .i64 x.last := hdep ⟨8, .data⟩ (by simp) rfl _ _ rfl rfl
    have d11 : (gF 44) = .int .i64 (fu : Int) := hdep ⟨11, .data⟩ (by simp) rfl _ _ rfl rfl
    clear hag hdep ho hun
    refine ⟨fun _ => ?_, fun b hb => by simp [bkL] at hb⟩
    refine relStep_off rfl ?_
    rotate_left
    have e := Option.some.inj ho
    subst e
    have a9 := hag.at 9 KR
    simp only [S5, ↓reduceIte, Nat.reduceEqDiff, initF, *] at a9
    have un14 : Kp b9 w13 w9 := ⟨hRB _ (by simp), hun 14 _ (by decide) rfl KR⟩
    clear hag hdep ho hun
    refine ⟨fun _ => ?_, fun b hb => by simp [bkL] at hb⟩
    refine relStep_off rfl ?_
    rotate_left
    have e := Option.some.inj ho
    subst e
    have d6 : (gF 39) = .int .i64 ((20 - ea % 21 : Nat) : Int) := hdep ⟨6, .data⟩ (by simp) rfl _ _ rfl rfl
    have d13 : (gF 46) = .pointer (some ⟨b9, 6, none⟩) := hdep ⟨13, .data⟩ (by simp) rfl _ _ rfl rfl
    clear hag hdep ho hun
    refine ⟨fun h => by simp [bkL] at h, fun b hb hU => ?_⟩
    obtain rfl : b9 = b := by simpa [bkL] using hb
    refine relStep_off rfl ?_
    rotate_left
    · omega
    all_goals (repeat' first
    | with_reducible first | exact ⟨⟩ | (refine gB ?_; intros) | refine gT ?_ ?_
    | refine gs ?_
    | simp (maxDischargeDepth := 3) only [↓X, ↓Y, ↓Q, S1, ↓reduceIte, Nat.reduceEqDiff, Nat.reduceAdd, Int.reduceLT, Int.reduceLE, Int.reduceNeg, Int.reduceBEq, Int.reduceBNe, Int.reduceEq, Nat.reduceLeDiff, Nat.reduceMul, Nat.reduceLT, *, hea, hfu, hfmod, hfsub, hfw, hladd]
    | simp (singlePass := true) (maxDischargeDepth := 99) only [*, S2, Nat.reduceLT, hea, hfu, hfmod, hfsub, hfw, hladd])
    all_goals first
      | (exact store_intro (i := 6) KR (hU.trans K13) (by simp) rfl fun w' hb' hc' => ⟨hc', hb'⟩)
  · intro g9 w9 hx9 hR hS9 hag
    have s9 := hx9.sb
    simp only [Sb, List.mem_cons, List.not_mem_nil, or_false, forall_eq_or_imp, forall_eq] at s9
    have n9 : Now w9 := trivial
    have r9 := Ext.refl w9
    have z9 := hx9.size
    have d12 : (g9 45) = .int .i64 (x.last + (fu : Int)) := hR 12 _ _ (by decide) rfl rfl
    obtain ⟨vs14, d14⟩ := hS9 14 _ (by decide) rfl
    replace d14 : Blk w9 b9 41 [wv, rv, .int .i64 0, .slice none 0 0, .slice (some ⟨c7, 0, none⟩) 8 8, apv, .int .i64 ((20 - ea % 21 : Nat) : Int), .int .i64 x.last] := d14
    have a1 := hag.at 1 KR
    have a3 := hag.at 3 KR
    have a4 := hag.at 4 KR
    have a5 := hag.at 5 KR
    have a6 := hag.at 6 KR
    have a8 := hag.at 8 KR
    have a9 := hag.at 9 KR
    simp only [S5, ↓reduceIte, Nat.reduceEqDiff, initF, *] at a1 a3 a4 a5 a6 a8 a9
    clear hag hR hS9
    simp only [List.drop_succ_cons, List.drop_zero]
    have K3w : Blk w13 b3 29 [.slice (some ⟨c0, 0, none⟩) 1 1, .slice (some ⟨c1, 0, none⟩) 1 1, .slice (some ⟨c2, 0, none⟩) 1 1, .slice (some ⟨c5, 0, none⟩) 2 2, .int .i64 1, .slice none 0 0, u] := k7.2.1 _ FR
    have K4w : Blk w13 b4 33 [sv, av] := k8.2.1 _ FR
    have K5w : Blk w13 b5 41 [wv, rv, .int .i64 0, .slice none 0 0, .slice (some ⟨c7, 0, none⟩) 8 8, apv, .int .i64 x.first, .int .i64 x.last] := ka.2.1 _ FR
    have K6w : Blk w13 b6 45 [tv, .int .i64 T.stop] := k11.2.1 _ FR
    have hmw : Ext wm w13 := FR
    have HOw := ho.ext hmw
    have nb : ∀ {c}, ¬ c = b9 → ¬ (c ∈ [b9]) := fun h h9 => h (List.mem_singleton.1 h9)
    have K3 := K3w.tb hx9 (nb (K3w.ne K13 (by decide)))
    have K4 := K4w.tb hx9 (nb (K4w.ne K13 (by decide)))
    have K5 := K5w.tb hx9 (nb hn59)
    have K6 := K6w.tb hx9 (nb (K6w.ne K13 (by decide)))
    have HO := Own.tbg HOw hx9 (fun b hb hX => HOw.ne K13 (by decide) (by rw [hb, List.mem_singleton.1 hX]))
    have hx39 : Ext w3 w9 := hx313.trans' ⟨hx9.os, hx9.tape, hx9.output, hx9.size, fun c hc => hx9.block c (Nat.lt_of_lt_of_le hc hx313.size) (nb (by omega))⟩
    have k14 := d14.bk
    have D14 : Hid (Blk w9 b9 41 [wv, rv, .int .i64 0, .slice none 0 0, .slice (some ⟨c7, 0, none⟩) 8 8, apv, .int .i64 ((20 - ea % 21 : Nat) : Int), .int .i64 x.last]) := d14
    clear K3w K4w K5w K6w HOw k7 k8 k9 ka k10 k11 k13 k12 k4 k5 k6 s4 s5 s6 s7 s8 sa sm s10 s11 s12 s13 q4 q5 q6 q10 q12 K13 hx313 hmw ho
    (repeat' first
    | with_reducible first | exact ⟨⟩ | (refine gB ?_; intros) | refine gT ?_ ?_
    | refine gs ?_
    | refine sx ?_)
    refine fun hb => store_intro (i := 7) KR hb (by simp) rfl fun wA hbA cA => ?_
    have nA : Now wA := trivial
    simp only [List.set_cons_zero, List.set_cons_succ] at hbA
    have kA := hbA.bk
    have sA := cA.sc
    clear k14
    (repeat' first
    | with_reducible first | exact ⟨⟩ | (refine gB ?_; intros) | refine gT ?_ ?_
    | refine gs ?_
    | refine sx ?_)
    refine fun hb => store_intro (i := 5) KR hb (by simp) rfl fun wq hbq cq => ?_
    have nq : Now wq := trivial
    simp only [List.set_cons_zero, List.set_cons_succ] at hbq
    have key : ∀ {c Ty cs}, Blk w9 c Ty cs → ¬ c = b9 → Blk wq c Ty cs := fun hk hn => cq.blk (cA.blk hk hn) hn
    have hx3A := hx39.trans' (cA.below hn9 hx39.size)
    have hx3q : Ext w3 wq := hx3A.trans' (cq.below hn9 hx3A.size)
    have HOq : Own wq wa.heap.size 3 1 tv (T.begin_.map intC) := (HO.chg cA (HO.ne D14.out (by decide))).chg cq (HO.ne D14.out (by decide))
    have hS : Hid (MoS w3 b5 b9 tv wq.heap.size) := ⟨⟨hn9, hbq.lt⟩, hx3q.size, hn59, fun c hc => (HOq.lt c hc).2⟩
    have I0 : Hid (MoI w3 b3 b4 b5 b6 b9 [.slice (some ⟨c0, 0, none⟩) 1 1, .slice (some ⟨c1, 0, none⟩) 1 1, .slice (some ⟨c2, 0, none⟩) 1 1, .slice (some ⟨c5, 0, none⟩) 2 2, .int .i64 1, .slice none 0 0, u] [sv, av] [wv, rv, .int .i64 0, .slice none 0 0, .slice (some ⟨c7, 0, none⟩) 8 8, apv, .int .i64 x.first, .int .i64 x.last] [tv, .int .i64 T.stop] wv rv c7 ((20 - ea % 21 : Nat) : Int) (x.last + (fu : Int)) tv T.begin_ (moreF x ea) wa.heap.size wq.heap.size 0 wq) := ⟨hx3q, key K3 (K3.ne D14.out (by decide)), key K4 (K4.ne D14.out (by decide)), key K5 hn59, key K6 (K6.ne D14.out (by decide)), Nat.le_refl _, HOq, .slice none 0 0, hbq, Own.nil _ _ _ _⟩
    clear K3 K4 K5 K6 HO HOq D14 d14 hbq cq cA hbA kA sA hx39 hx3A hx3q hx9 s9 r9 z9 hRB key nb hxa s3 r3 k1a
    (repeat' first
    | with_reducible first | exact ⟨⟩ | (refine gB ?_; intros) | refine gT ?_ ?_
    | refine gs ?_
    | refine sx ?_)
    refine loop_g p.steps.length (fun g0 k g w' => g 10 = .int .i64 (k : Int) ∧ (g 1 = g0 1 ∧ g 3 = g0 3 ∧ g 4 = g0 4 ∧ g 5 = g0 5 ∧ g 6 = g0 6 ∧ g 8 = g0 8 ∧ g 9 = g0 9) ∧ Hid (MoI w3 b3 b4 b5 b6 b9 [.slice (some ⟨c0, 0, none⟩) 1 1, .slice (some ⟨c1, 0, none⟩) 1 1, .slice (some ⟨c2, 0, none⟩) 1 1, .slice (some ⟨c5, 0, none⟩) 2 2, .int .i64 1, .slice none 0 0, u] [sv, av] [wv, rv, .int .i64 0, .slice none 0 0, .slice (some ⟨c7, 0, none⟩) 8 8, apv, .int .i64 x.first, .int .i64 x.last] [tv, .int .i64 T.stop] wv rv c7 ((20 - ea % 21 : Nat) : Int) (x.last + (fu : Int)) tv T.begin_ (moreF x ea) wa.heap.size wq.heap.size k w')) KR ?_ ?_ ?_
    · (repeat' first
    | with_reducible first | exact ⟨⟩ | (refine gB ?_; intros) | refine gT ?_ ?_
    | refine gs ?_
    | refine sx ?_)
      all_goals exact I0.out
    · clear I0
      rintro k m g3 wk hk3 hlt n3 ⟨hi3, hf3, hp3⟩
      simp (maxDischargeDepth := 3) only [U, ↓reduceIte, Nat.reduceEqDiff, *] at hf3
      have I3 : Hid (MoI w3 b3 b4 b5 b6 b9 [.slice (some ⟨c0, 0, none⟩) 1 1, .slice (some ⟨c1, 0, none⟩) 1 1, .slice (some ⟨c2, 0, none⟩) 1 1, .slice (some ⟨c5, 0, none⟩) 2 2, .int .i64 1, .slice none 0 0, u] [sv, av] [wv, rv, .int .i64 0, .slice none 0 0, .slice (some ⟨c7, 0, none⟩) 8 8, apv, .int .i64 x.first, .int .i64 x.last] [tv, .int .i64 T.stop] wv rv c7 ((20 - ea % 21 : Nat) : Int) (x.last + (fu : Int)) tv T.begin_ (moreF x ea) wa.heap.size wq.heap.size k wk) := hp3
      have hx3k : Ext w3 wk := I3.out.ext
      have hxk : Ext w wk := hxw3.out.trans hx3k
      have sk := hxk.st
      have rk := Ext.refl wk
      have blk : Bl w3.heap.size w3 wk := ⟨Nat.le_refl _, hx3k⟩
      have k1k := (show Blk wk b1 55 [r.kv, r.hv, r.av, .int .u8 r.t0, .int .u8 r.t1, .int .u8 r.t2, .int .u8 r.t3, .int .u8 r.t4, .int .u8 r.t5, .int .u8 r.t6, .int .u8 r.t7, r.wv, r.pv, r.dv, .int .u8 r.bl, .int .u8 r.la, .int .u8 r.ea, .int .u8 r.fu] from K1.out.ext hx3k).bk
      have k4k := I3.out.k4.bk
      have k5k := I3.out.k5.bk
      obtain ⟨ov, r1, r2⟩ := I3.out.row
      have k9k := (show Blk wk b9 41 [wv, rv, .int .i64 0, .slice none 0 0, .slice (some ⟨c7, 0, none⟩) 8 8, ov, .int .i64 ((20 - ea % 21 : Nat) : Int), .int .i64 (x.last + (fu : Int))] from r1).bk
      have hqk : wq.heap.size ≤ wk.heap.size := I3.out.size
      have r1' : Hid (Blk wk b9 41 (trmZ wv rv ov c7 ((20 - ea % 21 : Nat) : Int) (x.last + (fu : Int)))) := r1
      have r2' : Hid (Own wk wq.heap.size 3 1 ov (((List.range k).map (moreF x ea)).map intC)) := r2
      have hov := r2.one
      have hw : IntKind.i64.wrap ((k : Int) + 1) = ((k + 1 : Nat) : Int) := by rw [wrap_i64_id] <;> omega
      have hka : k < x.approved.length := by rw [hlp.out]; exact hlt
      have hkaI : (k : Int) < (x.approved.length : Int) := by omega
      have hap : appS x k = x.approved[k] := by simp only [appS, hka, List.getElem?_eq_getElem, Option.getD_some]
      have har := happ.out _ (List.getElem_mem hka)
      clear hp3 r1 r2
      by_cases ha : 0 < x.approved[k]
      · obtain ⟨an, han⟩ : ∃ an : Nat, x.approved[k] = an := ⟨(x.approved[k]).toNat, by omega⟩
        have ha0 : 0 < an := by omega
        have ha0I : (0 : Int) < (an : Int) := by omega
        have han8 : an ≤ 254 := by omega
        have hmf : Hid (((an - ea % (an + 1) : Nat) : Int) = moreF x ea k) := by
          show ((an - ea % (an + 1) : Nat) : Int) = moreF x ea k
          have h9 := Nat.mod_lt ea (show 0 < an + 1 by omega)
          unfold moreF
          rw [hap, han, if_pos ha0I, Int.toNat_natCast]
          omega
        have hm1 : IntKind.i64.wrap ((an : Int) + 1) = ((an + 1 : Nat) : Int) := by rw [wrap_i64_id] <;> omega
        have hmw1 : IntKind.i64.wrap (ea : Int) = (ea : Int) := wrap_nat (by omega)
        have hmr : (ea : Int).tmod ((an + 1 : Nat) : Int) = ((ea % (an + 1) : Nat) : Int) := rfl
        have hmz : ¬ ((an + 1 : Nat) : Int) = 0 := by omega
        have hmd := Nat.mod_lt ea (show 0 < an + 1 by omega)
        have hms : IntKind.i64.wrap ((an : Int) - ((ea % (an + 1) : Nat) : Int)) = ((an - ea % (an + 1) : Nat) : Int) := by rw [wrap_i64_id] <;> omega
        have hmq : IntKind.i64.wrap ((ea % (an + 1) : Nat) : Int) = ((ea % (an + 1) : Nat) : Int) := wrap_nat (by omega)
        clear har hap ha
        (repeat' first
    | with_reducible first | exact ⟨⟩ | (refine gB ?_; intros) | refine gT ?_ ?_
    | refine gs ?_
    | simp (maxDischargeDepth := 3) only [↓X, ↓Y, ↓Q, S1, ↓reduceIte, Nat.reduceEqDiff, Nat.reduceAdd, Int.reduceLT, Int.reduceLE, Int.reduceNeg, Int.reduceBEq, Int.reduceBNe, Int.reduceEq, Nat.reduceLeDiff, Nat.reduceMul, Nat.reduceLT, *, han, hm1, hmw1, hmr, hmz, hms, hmq]
    | simp (singlePass := true) (maxDischargeDepth := 99) only [*, S2, Nat.reduceLT, han, hm1, hmw1, hmr, hmz, hms, hmq])
        rename_i bx wx nx kx sx9 qx zx
        clear zx
        have hval : ((an - ea % (an + 1) : Nat) : Int) = moreF x ea k := hmf.out
        have Kx : Blk wx bx 3 (intC (moreF x ea k)) := by rw [← hval]; exact kx.2.1 _ kx.2.2.1
        have hxx : Ext wk wx := FR
        refine appG (e := 3) (sz := 1) (by_ := 8) (z := .int .i64 0) (c := intC) (moreF x ea k) KR KR rfl (by decide) (by decide) (r2'.out.ext hxx) Kx rfl (by simp [intC, intV, one_int]) (by rw [List.length_map, List.length_range]; omega) (Nat.le_trans hqk hxx.size) fun v' wy ny Ty hoy => ?_
        have hv1 := hoy.one
        have Ky : Blk wy b9 41 [wv, rv, .int .i64 0, .slice none 0 0, .slice (some ⟨c7, 0, none⟩) 8 8, ov, .int .i64 ((20 - ea % 21 : Nat) : Int), .int .i64 (x.last + (fu : Int))] := (Ty.block b9 (r1'.out.ext hxx).lt (r2'.out.ne r1'.out (by decide))).trans (r1'.out.ext hxx)
        have ky := Ky.bk
        have G : Hid (∀ wz, Blk wz b9 41 [wv, rv, .int .i64 0, .slice none 0 0, .slice (some ⟨c7, 0, none⟩) 8 8, v', .int .i64 ((20 - ea % 21 : Nat) : Int), .int .i64 (x.last + (fu : Int))] → Chg wy wz b9 → MoI w3 b3 b4 b5 b6 b9 [.slice (some ⟨c0, 0, none⟩) 1 1, .slice (some ⟨c1, 0, none⟩) 1 1, .slice (some ⟨c2, 0, none⟩) 1 1, .slice (some ⟨c5, 0, none⟩) 2 2, .int .i64 1, .slice none 0 0, u] [sv, av] [wv, rv, .int .i64 0, .slice none 0 0, .slice (some ⟨c7, 0, none⟩) 8 8, apv, .int .i64 x.first, .int .i64 x.last] [tv, .int .i64 T.stop] wv rv c7 ((20 - ea % 21 : Nat) : Int) (x.last + (fu : Int)) tv T.begin_ (moreF x ea) wa.heap.size wq.heap.size (k + 1) wz) := fun wz hz cz => MoI.grow hS.out I3.out r1'.out r2'.out hxx Ty hoy cz hz
        clear Ty hoy Ky Kx kx sx9 qx k9k k5k k4k k1k I3 r1' r2' hxx hqk sk hval
        (repeat' first
    | with_reducible first | exact ⟨⟩ | (refine gB ?_; intros) | refine gT ?_ ?_
    | refine gs ?_
    | refine sx ?_)
        refine fun hb => store_intro (i := 5) KR hb (by simp) hv1 fun wz hbz cz => ?_
        have nz : Now wz := trivial
        simp only [List.set_cons_zero, List.set_cons_succ] at hbz
        have I4 : Hid (MoI w3 b3 b4 b5 b6 b9 [.slice (some ⟨c0, 0, none⟩) 1 1, .slice (some ⟨c1, 0, none⟩) 1 1, .slice (some ⟨c2, 0, none⟩) 1 1, .slice (some ⟨c5, 0, none⟩) 2 2, .int .i64 1, .slice none 0 0, u] [sv, av] [wv, rv, .int .i64 0, .slice none 0 0, .slice (some ⟨c7, 0, none⟩) 8 8, apv, .int .i64 x.first, .int .i64 x.last] [tv, .int .i64 T.stop] wv rv c7 ((20 - ea % 21 : Nat) : Int) (x.last + (fu : Int)) tv T.begin_ (moreF x ea) wa.heap.size wq.heap.size (k + 1) wz) := G.out wz hbz cz
        clear hbz cz G ky
        (repeat' first
    | with_reducible first | exact ⟨⟩ | (refine gB ?_; intros) | refine gT ?_ ?_
    | refine gs ?_
    | refine sx ?_)
        refine next_g hk3 hlt ?_
        (repeat' first
    | with_reducible first | exact ⟨⟩ | (refine gB ?_; intros) | refine gT ?_ ?_
    | refine gs ?_
    | refine sx ?_)
        all_goals exact I4.out
      · have hmf : Hid (x.approved[k] = moreF x ea k) := by
          show x.approved[k] = moreF x ea k
          unfold moreF
          rw [hap, if_neg ha]
        clear har hap
        (repeat' first
    | with_reducible first | exact ⟨⟩ | (refine gB ?_; intros) | refine gT ?_ ?_
    | refine gs ?_
    | refine sx ?_)
        rename_i bx wx nx kx sx9 qx zx
        clear zx
        have hval : x.approved[k] = moreF x ea k := hmf.out
        have Kx : Blk wx bx 3 (intC (moreF x ea k)) := by rw [← hval]; exact kx.2.1 _ kx.2.2.1
        have hxx : Ext wk wx := FR
        refine appG (e := 3) (sz := 1) (by_ := 8) (z := .int .i64 0) (c := intC) (moreF x ea k) KR KR rfl (by decide) (by decide) (r2'.out.ext hxx) Kx rfl (by simp [intC, intV, one_int]) (by rw [List.length_map, List.length_range]; omega) (Nat.le_trans hqk hxx.size) fun v' wy ny Ty hoy => ?_
        have hv1 := hoy.one
        have Ky : Blk wy b9 41 [wv, rv, .int .i64 0, .slice none 0 0, .slice (some ⟨c7, 0, none⟩) 8 8, ov, .int .i64 ((20 - ea % 21 : Nat) : Int), .int .i64 (x.last + (fu : Int))] := (Ty.block b9 (r1'.out.ext hxx).lt (r2'.out.ne r1'.out (by decide))).trans (r1'.out.ext hxx)
        have ky := Ky.bk
        have G : Hid (∀ wz, Blk wz b9 41 [wv, rv, .int .i64 0, .slice none 0 0, .slice (some ⟨c7, 0, none⟩) 8 8, v', .int .i64 ((20 - ea % 21 : Nat) : Int), .int .i64 (x.last + (fu : Int))] → Chg wy wz b9 → MoI w3 b3 b4 b5 b6 b9 [.slice (some ⟨c0, 0, none⟩) 1 1, .slice (some ⟨c1, 0, none⟩) 1 1, .slice (some ⟨c2, 0, none⟩) 1 1, .slice (some ⟨c5, 0, none⟩) 2 2, .int .i64 1, .slice none 0 0, u] [sv, av] [wv, rv, .int .i64 0, .slice none 0 0, .slice (some ⟨c7, 0, none⟩) 8 8, apv, .int .i64 x.first, .int .i64 x.last] [tv, .int .i64 T.stop] wv rv c7 ((20 - ea % 21 : Nat) : Int) (x.last + (fu : Int)) tv T.begin_ (moreF x ea) wa.heap.size wq.heap.size (k + 1) wz) := fun wz hz cz => MoI.grow hS.out I3.out r1'.out r2'.out hxx Ty hoy cz hz
        clear Ty hoy Ky Kx kx sx9 qx k9k k5k k4k k1k I3 r1' r2' hxx hqk sk hval
        (repeat' first
    | with_reducible first | exact ⟨⟩ | (refine gB ?_; intros) | refine gT ?_ ?_
    | refine gs ?_
    | refine sx ?_)
        refine fun hb => store_intro (i := 5) KR hb (by simp) hv1 fun wz hbz cz => ?_
        have nz : Now wz := trivial
        simp only [List.set_cons_zero, List.set_cons_succ] at hbz
        have I4 : Hid (MoI w3 b3 b4 b5 b6 b9 [.slice (some ⟨c0, 0, none⟩) 1 1, .slice (some ⟨c1, 0, none⟩) 1 1, .slice (some ⟨c2, 0, none⟩) 1 1, .slice (some ⟨c5, 0, none⟩) 2 2, .int .i64 1, .slice none 0 0, u] [sv, av] [wv, rv, .int .i64 0, .slice none 0 0, .slice (some ⟨c7, 0, none⟩) 8 8, apv, .int .i64 x.first, .int .i64 x.last] [tv, .int .i64 T.stop] wv rv c7 ((20 - ea % 21 : Nat) : Int) (x.last + (fu : Int)) tv T.begin_ (moreF x ea) wa.heap.size wq.heap.size (k + 1) wz) := G.out wz hbz cz
        clear hbz cz G ky
        (repeat' first
    | with_reducible first | exact ⟨⟩ | (refine gB ?_; intros) | refine gT ?_ ?_
    | refine gs ?_
    | refine sx ?_)
        refine next_g hk3 hlt ?_
        (repeat' first
    | with_reducible first | exact ⟨⟩ | (refine gB ?_; intros) | refine gT ?_ ?_
    | refine gs ?_
    | refine sx ?_)
        all_goals exact I4.out
    · clear I0
      rintro g3 wk n3 ⟨hi3, hf3, hp3⟩
      simp (maxDischargeDepth := 3) only [U, ↓reduceIte, Nat.reduceEqDiff, *] at hf3
      have I3 : Hid (MoI w3 b3 b4 b5 b6 b9 [.slice (some ⟨c0, 0, none⟩) 1 1, .slice (some ⟨c1, 0, none⟩) 1 1, .slice (some ⟨c2, 0, none⟩) 1 1, .slice (some ⟨c5, 0, none⟩) 2 2, .int .i64 1, .slice none 0 0, u] [sv, av] [wv, rv, .int .i64 0, .slice none 0 0, .slice (some ⟨c7, 0, none⟩) 8 8, apv, .int .i64 x.first, .int .i64 x.last] [tv, .int .i64 T.stop] wv rv c7 ((20 - ea % 21 : Nat) : Int) (x.last + (fu : Int)) tv T.begin_ (moreF x ea) wa.heap.size wq.heap.size p.steps.length wk) := hp3
      have hx3k : Ext w3 wk := I3.out.ext
      have hxk : Ext w wk := hxw3.out.trans hx3k
      have sk := hxk.st
      have rk := Ext.refl wk
      have blk : Bl w3.heap.size w3 wk := ⟨Nat.le_refl _, hx3k⟩
      have k1k := (show Blk wk b1 55 [r.kv, r.hv, r.av, .int .u8 r.t0, .int .u8 r.t1, .int .u8 r.t2, .int .u8 r.t3, .int .u8 r.t4, .int .u8 r.t5, .int .u8 r.t6, .int .u8 r.t7, r.wv, r.pv, r.dv, .int .u8 r.bl, .int .u8 r.la, .int .u8 r.ea, .int .u8 r.fu] from K1.out.ext hx3k).bk
      have k4k := I3.out.k4.bk
      have k5k := I3.out.k5.bk
      obtain ⟨ov, r1, r2⟩ := I3.out.row
      have k9k := (show Blk wk b9 41 [wv, rv, .int .i64 0, .slice none 0 0, .slice (some ⟨c7, 0, none⟩) 8 8, ov, .int .i64 ((20 - ea % 21 : Nat) : Int), .int .i64 (x.last + (fu : Int))] from r1).bk
      have hqk : wq.heap.size ≤ wk.heap.size := I3.out.size
      have r1' : Hid (Blk wk b9 41 (trmZ wv rv ov c7 ((20 - ea % 21 : Nat) : Int) (x.last + (fu : Int)))) := r1
      have r2' : Hid (Own wk wq.heap.size 3 1 ov (((List.range p.steps.length).map (moreF x ea)).map intC)) := r2
      have hov := r2.one
      have k3k := I3.out.k3.bk
      have k6k := I3.out.k6.bk
      have hTz : Hid (TmsV wk (.agg #[wv, rv, .int .i64 0, .slice none 0 0, .slice (some ⟨c7, 0, none⟩) 8 8, ov, .int .i64 ((20 - ea % 21 : Nat) : Int), .int .i64 (x.last + (fu : Int))]) (moreD x ea fu p.steps.length)) := TmsV.eased (hi2.out hx3k) r2
      have hH0 := hi0.out hx3k
      have hP0 := hi1.out hx3k
      rcases hm2 : makeS (houseD 4) p (moreD x ea fu p.steps.length) with ⟨T2, i2, e2⟩
      clear hp3 r1 r2
      (repeat' first
    | with_reducible first | exact ⟨⟩ | (refine gB ?_; intros) | refine gT ?_ ?_
    | refine gs ?_
    | refine sx ?_)
      refine call_k (mk_of hH0 hP0 hTz.out hXz hm2) ?_
      rintro _ wn nn sn ⟨tz, rfl, hoz⟩
      have otz := hoz.one
      have rn := Ext.refl wn
      have hkn : Ext wk wn := FR
      have hTV0 : Own wn wa.heap.size 3 1 tv (T.begin_.map intC) := I3.out.tv.ext hkn
      clear hTz hH0 hP0 I3 r1' r2' k1k k5k k9k hqk
      rcases make_cases hX0 with ⟨b, hmA, hmt, hmk⟩ | ⟨i9, hmA, hi9, bb, hmk⟩
      · rw [hmA] at hm
        obtain ⟨rfl, hm9⟩ := Prod.mk.inj hm
        obtain ⟨rfl, rfl⟩ := Prod.mk.inj hm9
        obtain ⟨rz, g1, g2, g4, g5⟩ := more_le (made_valid hX0) (made_valid hXz) rfl hez hmk
        have hmB : makeS (houseD 4) p (moreD x ea fu p.steps.length) = (⟨rz, Sch.stop (scS (houseD 4) p (moreD x ea fu p.steps.length)) rz⟩, -1, 0) := by
          unfold makeS
          rw [if_pos (made_valid hXz), g1]
        rw [hmB] at hm2
        obtain ⟨rfl, hm8⟩ := Prod.mk.inj hm2
        obtain ⟨rfl, rfl⟩ := Prod.mk.inj hm8
        have hll9 : Hid (b.length = p.steps.length ∧ rz.length = p.steps.length ∧ ∀ k (h1 : k < rz.length) (h2 : k < b.length), ¬ b[k] < rz[k]) := ⟨hmt.len, g2, fun k h1 h2 => by
          have h9 := g4 k (by rw [← g2]; exact h1)
          rw [at_at h1, at_at h2] at h9
          omega⟩
        have hTV := (hTV0.sl1 (f := intV)).k (Nat.le_refl _)
        have hZV := (hoz.sl1 (f := intV)).k (Nat.le_refl _)
        have bln : Bl wn.heap.size wn wn := Bl.refl (Nat.le_refl _)
        have hb1 : ((b.length : Int) == (p.steps.length : Int)) = true := by rw [hll9.out.1]; simp
        have hb2 : ((b.length : Int) != (p.steps.length : Int)) = false := by rw [hll9.out.1]; simp
        have hz1 : ((rz.length : Int) == (p.steps.length : Int)) = true := by rw [hll9.out.2.1]; simp
        have hz2 : ((rz.length : Int) != (p.steps.length : Int)) = false := by rw [hll9.out.2.1]; simp
        clear hm hm9 hm2 hm8 hmA hmB hmk g1 g2 g4 hmt hTV0 hoz
        generalize Sch.stop (scS (houseD 4) p (moreD x ea fu p.steps.length)) rz = stz at *
        generalize Sch.stop (scS (houseD 4) p { x with blast := 0 }) b = stp at *
        have hst : ¬ stp < stz := by omega
        clear g5
        (repeat' first
    | with_reducible first | exact ⟨⟩ | (refine gB ?_; intros) | refine gT ?_ ?_
    | refine gs ?_
    | refine sx ?_)
        refine loop_k (p.steps.length) (fun g0 k g _ => g 15 = .int .i64 k ∧ (g 4 = g0 4 ∧ g 6 = g0 6 ∧ g 12 = g0 12) ∧ True) KR ((by omega)) ?_ ?_ ?_
        · (repeat' first
    | with_reducible first | exact ⟨⟩ | (refine gB ?_; intros) | refine gT ?_ ?_
    | refine gs ?_
    | simp (maxDischargeDepth := 3) only [↓X, ↓Y, ↓Q, S1, ↓reduceIte, Nat.reduceEqDiff, Nat.reduceAdd, Int.reduceLT, Int.reduceLE, Int.reduceNeg, Int.reduceBEq, Int.reduceBNe, Int.reduceEq, Nat.reduceLeDiff, Nat.reduceMul, Nat.reduceLT, *, List.take_zero, List.all_nil, List.any_nil]
    | simp (singlePass := true) (maxDischargeDepth := 99) only [*, S2, Nat.reduceLT, List.take_zero, List.all_nil, List.any_nil])
        · rintro k m g wk hk hlt _ _ _ hw ⟨hi, hf, hp⟩
          simp (maxDischargeDepth := 3) only [U, ↓reduceIte, Nat.reduceEqDiff, *] at hf
          have hkl : k < rz.length := by rw [hll9.out.2.1]; exact hlt
          have hkb : k < b.length := by rw [hll9.out.1]; exact hlt
          have hklI : (k : Int) < (rz.length : Int) := by omega
          have hkbI : (k : Int) < (b.length : Int) := by omega
          have hlb := hll9.out.2.2 k hkl hkb
          (repeat' first
    | with_reducible first | exact ⟨⟩ | (refine gB ?_; intros) | refine gT ?_ ?_
    | refine gs ?_
    | refine sx ?_)
          refine next_k hk hlt ?_ FR
          (repeat' first
    | with_reducible first | exact ⟨⟩ | (refine gB ?_; intros) | refine gT ?_ ?_
    | refine gs ?_
    | refine sx ?_)
        · rintro g wk _ _ _ ⟨hi, hf, hp⟩
          simp (maxDischargeDepth := 3) only [U, ↓reduceIte, Nat.reduceEqDiff, *] at hf
          (repeat' first
    | with_reducible first | exact ⟨⟩ | (refine gB ?_; intros) | refine gT ?_ ?_
    | refine gs ?_
    | ((with_reducible refine at_f 10 ?_); refine ret_k (law23awake) fun _ _ _ => ?_)
    | refine sx ?_)
      · rw [hmA] at hm
        obtain ⟨rfl, hm9⟩ := Prod.mk.inj hm
        obtain ⟨rfl, rfl⟩ := Prod.mk.inj hm9
        clear hm hm9 hm2 hmA hmk hTV0 hoz
        (repeat' first
    | with_reducible first | exact ⟨⟩ | (refine gB ?_; intros) | refine gT ?_ ?_
    | refine gs ?_
    | ((with_reducible refine at_f 10 ?_); refine ret_k (law23awake) fun _ _ _ => ?_)
    | refine sx ?_)
end
end Go.Proofs.YtopfddchckdhgaaGreat
